import Derived.Test.YtknndpncdnhnpaaDiskS
namespace Go.Proofs.Ytknndpncdnhnpaa
open Go.RowKit Go.Cas
set_option linter.unusedSimpArgs false
set_option linter.unusedVariables false
attribute [local go_sem] Oper.semAt_some setCell_drewN alloc_drewN size_drewN'

set_option maxRecDepth 100000 in
set_option maxHeartbeats 4000000 in
theorem rcut_bad (n many : Int)  (room now left n0 n1 : Int) (x0 x1 : ByteArray) (w : World) (h : fileOk n = false) : Calls Try.prog 47 #[.agg #[.int .i64 room, .string x0, .string x1, .int .i64 n0, .int .i64 n1, .int .i64 now, .int .i64 left], .int .i64 n, .int .i64 many] w fun e w' => e = .returned (.tuple #[.agg #[.int .i64 room, .string x0, .string x1, .int .i64 n0, .int .i64 n1, .int .i64 now, .int .i64 left], .int .i64 2]) ∧ Below w.heap.size w w' := by
  go_enter Try.func47, Try.ntmps47
  go_wp2_with fail
  refine (rfile_c n _).mono ?_
  rintro e w' ⟨rfl, rfl⟩
  go_wp2_with fail
  refine ret_RT (cs := #[.int .i64 room, .string x0, .string x1, .int .i64 n0, .int .i64 n1, .int .i64 now, .int .i64 left]) rfl rfl (by (repeat (first | (with_reducible exact heap_new' _ _ _ (by first | (simp only [World.size_alloc, World.size_drew, size_drewN']; done) | (simp only [World.size_alloc, World.size_drew, size_drewN']; omega))) | (with_reducible refine heap_drew' ?_) | (with_reducible refine heap_drewN' ?_) | (with_reducible refine heap_old' (by first | omega | (simp only [World.size_alloc, World.size_drew, size_drewN']; omega)) ?_)))) rfl rfl ⟨rfl, by (repeat (first | (with_reducible exact Below.refl _ _) | (with_reducible refine Below.drew ?_) | (with_reducible refine below_drewN ?_ _) | (with_reducible refine Below.alloc ?_ (by first | exact Nat.le_refl _ | omega | (simp only [World.size_alloc, World.size_drew, size_drewN']; omega)) _)))⟩
set_option maxRecDepth 100000 in
set_option maxHeartbeats 4000000 in
theorem rcut_n0 (many : Int)  (room now left n0 n1 : Int) (x0 x1 : ByteArray) (w : World) (hm : many < 0) : Calls Try.prog 47 #[.agg #[.int .i64 room, .string x0, .string x1, .int .i64 n0, .int .i64 n1, .int .i64 now, .int .i64 left], .int .i64 0, .int .i64 many] w fun e w' => e = .returned (.tuple #[.agg #[.int .i64 room, .string x0, .string x1, .int .i64 n0, .int .i64 n1, .int .i64 now, .int .i64 left], .int .i64 2]) ∧ Below w.heap.size w w' := by
  go_enter Try.func47, Try.ntmps47
  have hok : fileOk 0 = true := rfl
  have hneg : decide (many < 0) = true := by simpa using hm
  go_wp2_with fail
  refine (rfile_c 0 _).mono ?_
  rintro e w' ⟨rfl, rfl⟩
  go_wp2_with fail
  refine ret_RT (cs := #[.int .i64 room, .string x0, .string x1, .int .i64 n0, .int .i64 n1, .int .i64 now, .int .i64 left]) rfl rfl (by (repeat (first | (with_reducible exact heap_new' _ _ _ (by first | (simp only [World.size_alloc, World.size_drew, size_drewN']; done) | (simp only [World.size_alloc, World.size_drew, size_drewN']; omega))) | (with_reducible refine heap_drew' ?_) | (with_reducible refine heap_drewN' ?_) | (with_reducible refine heap_old' (by first | omega | (simp only [World.size_alloc, World.size_drew, size_drewN']; omega)) ?_)))) rfl rfl ⟨rfl, by (repeat (first | (with_reducible exact Below.refl _ _) | (with_reducible refine Below.drew ?_) | (with_reducible refine below_drewN ?_ _) | (with_reducible refine Below.alloc ?_ (by first | exact Nat.le_refl _ | omega | (simp only [World.size_alloc, World.size_drew, size_drewN']; omega)) _)))⟩
set_option maxRecDepth 100000 in
set_option maxHeartbeats 4000000 in
theorem rcut_r0 (many : Int)  (room now left n0 n1 : Int) (x0 x1 : ByteArray) (w : World) (hm : 0 ≤ many) (hf : (x0.size : Int) < many) : Calls Try.prog 47 #[.agg #[.int .i64 room, .string x0, .string x1, .int .i64 n0, .int .i64 n1, .int .i64 now, .int .i64 left], .int .i64 0, .int .i64 many] w fun e w' => e = .returned (.tuple #[.agg #[.int .i64 room, .string x0, .string x1, .int .i64 n0, .int .i64 n1, .int .i64 now, .int .i64 left], .int .i64 4]) ∧ Below w.heap.size w w' := by
  go_enter Try.func47, Try.ntmps47
  have hok : fileOk 0 = true := rfl
  have hneg : decide (many < 0) = false := by simpa using hm
  have hgt : decide (many > (x0.size : Int)) = true := by simpa using hf
  go_wp2_with fail
  refine (rfile_c 0 _).mono ?_
  rintro e w' ⟨rfl, rfl⟩
  go_wp2_with fail
  refine ret_RT (cs := #[.int .i64 room, .string x0, .string x1, .int .i64 n0, .int .i64 n1, .int .i64 now, .int .i64 left]) rfl rfl (by (repeat (first | (with_reducible exact heap_new' _ _ _ (by first | (simp only [World.size_alloc, World.size_drew, size_drewN']; done) | (simp only [World.size_alloc, World.size_drew, size_drewN']; omega))) | (with_reducible refine heap_drew' ?_) | (with_reducible refine heap_drewN' ?_) | (with_reducible refine heap_old' (by first | omega | (simp only [World.size_alloc, World.size_drew, size_drewN']; omega)) ?_)))) rfl rfl ⟨rfl, by (repeat (first | (with_reducible exact Below.refl _ _) | (with_reducible refine Below.drew ?_) | (with_reducible refine below_drewN ?_ _) | (with_reducible refine Below.alloc ?_ (by first | exact Nat.le_refl _ | omega | (simp only [World.size_alloc, World.size_drew, size_drewN']; omega)) _)))⟩
set_option maxRecDepth 100000 in
set_option maxHeartbeats 4000000 in
theorem rcut_s0 (many : Int)  (room now left n0 n1 : Int) (x0 x1 : ByteArray) (w : World) (hm : 0 ≤ many) (hf : many ≤ (x0.size : Int)) : Calls Try.prog 47 #[.agg #[.int .i64 room, .string x0, .string x1, .int .i64 n0, .int .i64 n1, .int .i64 now, .int .i64 0], .int .i64 0, .int .i64 many] w fun e w' => e = .returned (.tuple #[.agg #[.int .i64 room, .string x0, .string x1, .int .i64 n0, .int .i64 n1, .int .i64 now, .int .i64 0], .int .i64 171]) ∧ Below w.heap.size w w' := by
  go_enter Try.func47, Try.ntmps47
  have hok : fileOk 0 = true := rfl
  have hneg : decide (many < 0) = false := by simpa using hm
  have hgt : decide (many > (x0.size : Int)) = false := by simpa using hf
  go_wp2_with fail
  refine (rfile_c 0 _).mono ?_
  rintro e w' ⟨rfl, rfl⟩
  go_wp2_with fail
  refine (ract_0 room now 0 n0 n1 x0 x1 _ rfl).mono ?_
  rintro e w1 ⟨rfl, rfl⟩
  go_wp2_with fail
  refine ret_RT (cs := #[.int .i64 room, .string x0, .string x1, .int .i64 n0, .int .i64 n1, .int .i64 now, .int .i64 0]) rfl rfl (by (repeat (first | (with_reducible exact heap_new' _ _ _ (by first | (simp only [World.size_alloc, World.size_drew, size_drewN']; done) | (simp only [World.size_alloc, World.size_drew, size_drewN']; omega))) | (with_reducible refine heap_drew' ?_) | (with_reducible refine heap_drewN' ?_) | (with_reducible refine heap_old' (by first | omega | (simp only [World.size_alloc, World.size_drew, size_drewN']; omega)) ?_)))) rfl rfl ⟨rfl, by (repeat (first | (with_reducible exact Below.refl _ _) | (with_reducible refine Below.drew ?_) | (with_reducible refine below_drewN ?_ _) | (with_reducible refine Below.alloc ?_ (by first | exact Nat.le_refl _ | omega | (simp only [World.size_alloc, World.size_drew, size_drewN']; omega)) _)))⟩
set_option maxRecDepth 100000 in
set_option maxHeartbeats 4000000 in
theorem rcut_0 (many : Int)  (room now left n0 n1 : Int) (x0 x1 : ByteArray) (w : World) (hm : 0 ≤ many) (hf : many ≤ (x0.size : Int)) (h0 : left ≠ 0) (hl : LeftOk left) : Calls Try.prog 47 #[.agg #[.int .i64 room, .string x0, .string x1, .int .i64 n0, .int .i64 n1, .int .i64 now, .int .i64 left], .int .i64 0, .int .i64 many] w fun e w' => e = .returned (.tuple #[.agg #[.int .i64 room, .string (x0.extract 0 many.toNat), .string x1, .int .i64 (if n0 < many then n0 else many), .int .i64 n1, .int .i64 now, .int .i64 (decr left)], .int .i64 0]) ∧ Below w.heap.size w w' := by
  go_enter Try.func47, Try.ntmps47
  have hok : fileOk 0 = true := rfl
  have hneg : decide (many < 0) = false := by simpa using hm
  have hgt : decide (many > (x0.size : Int)) = false := by simpa using hf
  by_cases hlt : n0 < many
  · rw [if_pos hlt]
    go_wp2_with fail
    refine (rfile_c 0 _).mono ?_
    rintro e w' ⟨rfl, rfl⟩
    go_wp2_with fail
    refine (ract_1 room now left n0 n1 x0 x1 _ h0 hl).mono ?_
    rintro e w1 ⟨rfl, rfl⟩
    go_wp2_with fail
    go_region
    all_goals (go_wp2_with fail)
    all_goals refine ret_RT (cs := #[.int .i64 room, .string (x0.extract 0 many.toNat), .string x1, .int .i64 n0, .int .i64 n1, .int .i64 now, .int .i64 (decr left)]) rfl rfl (by (repeat (first | (with_reducible exact heap_new' _ _ _ (by first | (simp only [World.size_alloc, World.size_drew, size_drewN']; done) | (simp only [World.size_alloc, World.size_drew, size_drewN']; omega))) | (with_reducible refine heap_drew' ?_) | (with_reducible refine heap_drewN' ?_) | (with_reducible refine heap_old' (by first | omega | (simp only [World.size_alloc, World.size_drew, size_drewN']; omega)) ?_)))) rfl rfl ⟨rfl, by (repeat (first | (with_reducible exact Below.refl _ _) | (with_reducible refine Below.drew ?_) | (with_reducible refine below_drewN ?_ _) | (with_reducible refine Below.alloc ?_ (by first | exact Nat.le_refl _ | omega | (simp only [World.size_alloc, World.size_drew, size_drewN']; omega)) _)))⟩
  · rw [if_neg hlt]
    have hle : many ≤ n0 := by omega
    go_wp2_with fail
    refine (rfile_c 0 _).mono ?_
    rintro e w' ⟨rfl, rfl⟩
    go_wp2_with fail
    refine (ract_1 room now left n0 n1 x0 x1 _ h0 hl).mono ?_
    rintro e w1 ⟨rfl, rfl⟩
    go_wp2_with fail
    go_region
    all_goals (go_wp2_with fail)
    all_goals refine ret_RT (cs := #[.int .i64 room, .string (x0.extract 0 many.toNat), .string x1, .int .i64 many, .int .i64 n1, .int .i64 now, .int .i64 (decr left)]) rfl rfl (by (repeat (first | (with_reducible exact heap_new' _ _ _ (by first | (simp only [World.size_alloc, World.size_drew, size_drewN']; done) | (simp only [World.size_alloc, World.size_drew, size_drewN']; omega))) | (with_reducible refine heap_drew' ?_) | (with_reducible refine heap_drewN' ?_) | (with_reducible refine heap_old' (by first | omega | (simp only [World.size_alloc, World.size_drew, size_drewN']; omega)) ?_)))) rfl rfl ⟨rfl, by (repeat (first | (with_reducible exact Below.refl _ _) | (with_reducible refine Below.drew ?_) | (with_reducible refine below_drewN ?_ _) | (with_reducible refine Below.alloc ?_ (by first | exact Nat.le_refl _ | omega | (simp only [World.size_alloc, World.size_drew, size_drewN']; omega)) _)))⟩
set_option maxRecDepth 100000 in
set_option maxHeartbeats 4000000 in
theorem rcut_n1 (many : Int)  (room now left n0 n1 : Int) (x0 x1 : ByteArray) (w : World) (hm : many < 0) : Calls Try.prog 47 #[.agg #[.int .i64 room, .string x0, .string x1, .int .i64 n0, .int .i64 n1, .int .i64 now, .int .i64 left], .int .i64 1, .int .i64 many] w fun e w' => e = .returned (.tuple #[.agg #[.int .i64 room, .string x0, .string x1, .int .i64 n0, .int .i64 n1, .int .i64 now, .int .i64 left], .int .i64 2]) ∧ Below w.heap.size w w' := by
  go_enter Try.func47, Try.ntmps47
  have hok : fileOk 1 = true := rfl
  have hneg : decide (many < 0) = true := by simpa using hm
  go_wp2_with fail
  refine (rfile_c 1 _).mono ?_
  rintro e w' ⟨rfl, rfl⟩
  go_wp2_with fail
  refine ret_RT (cs := #[.int .i64 room, .string x0, .string x1, .int .i64 n0, .int .i64 n1, .int .i64 now, .int .i64 left]) rfl rfl (by (repeat (first | (with_reducible exact heap_new' _ _ _ (by first | (simp only [World.size_alloc, World.size_drew, size_drewN']; done) | (simp only [World.size_alloc, World.size_drew, size_drewN']; omega))) | (with_reducible refine heap_drew' ?_) | (with_reducible refine heap_drewN' ?_) | (with_reducible refine heap_old' (by first | omega | (simp only [World.size_alloc, World.size_drew, size_drewN']; omega)) ?_)))) rfl rfl ⟨rfl, by (repeat (first | (with_reducible exact Below.refl _ _) | (with_reducible refine Below.drew ?_) | (with_reducible refine below_drewN ?_ _) | (with_reducible refine Below.alloc ?_ (by first | exact Nat.le_refl _ | omega | (simp only [World.size_alloc, World.size_drew, size_drewN']; omega)) _)))⟩
set_option maxRecDepth 100000 in
set_option maxHeartbeats 4000000 in
theorem rcut_r1 (many : Int)  (room now left n0 n1 : Int) (x0 x1 : ByteArray) (w : World) (hm : 0 ≤ many) (hf : (x1.size : Int) < many) : Calls Try.prog 47 #[.agg #[.int .i64 room, .string x0, .string x1, .int .i64 n0, .int .i64 n1, .int .i64 now, .int .i64 left], .int .i64 1, .int .i64 many] w fun e w' => e = .returned (.tuple #[.agg #[.int .i64 room, .string x0, .string x1, .int .i64 n0, .int .i64 n1, .int .i64 now, .int .i64 left], .int .i64 4]) ∧ Below w.heap.size w w' := by
  go_enter Try.func47, Try.ntmps47
  have hok : fileOk 1 = true := rfl
  have hneg : decide (many < 0) = false := by simpa using hm
  have hgt : decide (many > (x1.size : Int)) = true := by simpa using hf
  go_wp2_with fail
  refine (rfile_c 1 _).mono ?_
  rintro e w' ⟨rfl, rfl⟩
  go_wp2_with fail
  refine ret_RT (cs := #[.int .i64 room, .string x0, .string x1, .int .i64 n0, .int .i64 n1, .int .i64 now, .int .i64 left]) rfl rfl (by (repeat (first | (with_reducible exact heap_new' _ _ _ (by first | (simp only [World.size_alloc, World.size_drew, size_drewN']; done) | (simp only [World.size_alloc, World.size_drew, size_drewN']; omega))) | (with_reducible refine heap_drew' ?_) | (with_reducible refine heap_drewN' ?_) | (with_reducible refine heap_old' (by first | omega | (simp only [World.size_alloc, World.size_drew, size_drewN']; omega)) ?_)))) rfl rfl ⟨rfl, by (repeat (first | (with_reducible exact Below.refl _ _) | (with_reducible refine Below.drew ?_) | (with_reducible refine below_drewN ?_ _) | (with_reducible refine Below.alloc ?_ (by first | exact Nat.le_refl _ | omega | (simp only [World.size_alloc, World.size_drew, size_drewN']; omega)) _)))⟩
set_option maxRecDepth 100000 in
set_option maxHeartbeats 4000000 in
theorem rcut_s1 (many : Int)  (room now left n0 n1 : Int) (x0 x1 : ByteArray) (w : World) (hm : 0 ≤ many) (hf : many ≤ (x1.size : Int)) : Calls Try.prog 47 #[.agg #[.int .i64 room, .string x0, .string x1, .int .i64 n0, .int .i64 n1, .int .i64 now, .int .i64 0], .int .i64 1, .int .i64 many] w fun e w' => e = .returned (.tuple #[.agg #[.int .i64 room, .string x0, .string x1, .int .i64 n0, .int .i64 n1, .int .i64 now, .int .i64 0], .int .i64 171]) ∧ Below w.heap.size w w' := by
  go_enter Try.func47, Try.ntmps47
  have hok : fileOk 1 = true := rfl
  have hneg : decide (many < 0) = false := by simpa using hm
  have hgt : decide (many > (x1.size : Int)) = false := by simpa using hf
  go_wp2_with fail
  refine (rfile_c 1 _).mono ?_
  rintro e w' ⟨rfl, rfl⟩
  go_wp2_with fail
  refine (ract_0 room now 0 n0 n1 x0 x1 _ rfl).mono ?_
  rintro e w1 ⟨rfl, rfl⟩
  go_wp2_with fail
  refine ret_RT (cs := #[.int .i64 room, .string x0, .string x1, .int .i64 n0, .int .i64 n1, .int .i64 now, .int .i64 0]) rfl rfl (by (repeat (first | (with_reducible exact heap_new' _ _ _ (by first | (simp only [World.size_alloc, World.size_drew, size_drewN']; done) | (simp only [World.size_alloc, World.size_drew, size_drewN']; omega))) | (with_reducible refine heap_drew' ?_) | (with_reducible refine heap_drewN' ?_) | (with_reducible refine heap_old' (by first | omega | (simp only [World.size_alloc, World.size_drew, size_drewN']; omega)) ?_)))) rfl rfl ⟨rfl, by (repeat (first | (with_reducible exact Below.refl _ _) | (with_reducible refine Below.drew ?_) | (with_reducible refine below_drewN ?_ _) | (with_reducible refine Below.alloc ?_ (by first | exact Nat.le_refl _ | omega | (simp only [World.size_alloc, World.size_drew, size_drewN']; omega)) _)))⟩
set_option maxRecDepth 100000 in
set_option maxHeartbeats 4000000 in
theorem rcut_1 (many : Int)  (room now left n0 n1 : Int) (x0 x1 : ByteArray) (w : World) (hm : 0 ≤ many) (hf : many ≤ (x1.size : Int)) (h0 : left ≠ 0) (hl : LeftOk left) : Calls Try.prog 47 #[.agg #[.int .i64 room, .string x0, .string x1, .int .i64 n0, .int .i64 n1, .int .i64 now, .int .i64 left], .int .i64 1, .int .i64 many] w fun e w' => e = .returned (.tuple #[.agg #[.int .i64 room, .string x0, .string (x1.extract 0 many.toNat), .int .i64 n0, .int .i64 (if n1 < many then n1 else many), .int .i64 now, .int .i64 (decr left)], .int .i64 0]) ∧ Below w.heap.size w w' := by
  go_enter Try.func47, Try.ntmps47
  have hok : fileOk 1 = true := rfl
  have hneg : decide (many < 0) = false := by simpa using hm
  have hgt : decide (many > (x1.size : Int)) = false := by simpa using hf
  by_cases hlt : n1 < many
  · rw [if_pos hlt]
    go_wp2_with fail
    refine (rfile_c 1 _).mono ?_
    rintro e w' ⟨rfl, rfl⟩
    go_wp2_with fail
    refine (ract_1 room now left n0 n1 x0 x1 _ h0 hl).mono ?_
    rintro e w1 ⟨rfl, rfl⟩
    go_wp2_with fail
    go_region
    all_goals (go_wp2_with fail)
    all_goals refine ret_RT (cs := #[.int .i64 room, .string x0, .string (x1.extract 0 many.toNat), .int .i64 n0, .int .i64 n1, .int .i64 now, .int .i64 (decr left)]) rfl rfl (by (repeat (first | (with_reducible exact heap_new' _ _ _ (by first | (simp only [World.size_alloc, World.size_drew, size_drewN']; done) | (simp only [World.size_alloc, World.size_drew, size_drewN']; omega))) | (with_reducible refine heap_drew' ?_) | (with_reducible refine heap_drewN' ?_) | (with_reducible refine heap_old' (by first | omega | (simp only [World.size_alloc, World.size_drew, size_drewN']; omega)) ?_)))) rfl rfl ⟨rfl, by (repeat (first | (with_reducible exact Below.refl _ _) | (with_reducible refine Below.drew ?_) | (with_reducible refine below_drewN ?_ _) | (with_reducible refine Below.alloc ?_ (by first | exact Nat.le_refl _ | omega | (simp only [World.size_alloc, World.size_drew, size_drewN']; omega)) _)))⟩
  · rw [if_neg hlt]
    have hle : many ≤ n1 := by omega
    go_wp2_with fail
    refine (rfile_c 1 _).mono ?_
    rintro e w' ⟨rfl, rfl⟩
    go_wp2_with fail
    refine (ract_1 room now left n0 n1 x0 x1 _ h0 hl).mono ?_
    rintro e w1 ⟨rfl, rfl⟩
    go_wp2_with fail
    go_region
    all_goals (go_wp2_with fail)
    all_goals refine ret_RT (cs := #[.int .i64 room, .string x0, .string (x1.extract 0 many.toNat), .int .i64 n0, .int .i64 many, .int .i64 now, .int .i64 (decr left)]) rfl rfl (by (repeat (first | (with_reducible exact heap_new' _ _ _ (by first | (simp only [World.size_alloc, World.size_drew, size_drewN']; done) | (simp only [World.size_alloc, World.size_drew, size_drewN']; omega))) | (with_reducible refine heap_drew' ?_) | (with_reducible refine heap_drewN' ?_) | (with_reducible refine heap_old' (by first | omega | (simp only [World.size_alloc, World.size_drew, size_drewN']; omega)) ?_)))) rfl rfl ⟨rfl, by (repeat (first | (with_reducible exact Below.refl _ _) | (with_reducible refine Below.drew ?_) | (with_reducible refine below_drewN ?_ _) | (with_reducible refine Below.alloc ?_ (by first | exact Nat.le_refl _ | omega | (simp only [World.size_alloc, World.size_drew, size_drewN']; omega)) _)))⟩
end Go.Proofs.Ytknndpncdnhnpaa
