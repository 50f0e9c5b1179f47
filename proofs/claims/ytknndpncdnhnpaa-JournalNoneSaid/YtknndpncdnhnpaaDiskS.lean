import Derived.Test.YtknndpncdnhnpaaDiskR
import Derived.Test.YtknndpncdnhnpaaMix
namespace Go.Proofs.Ytknndpncdnhnpaa
open Go.RowKit Go.Cas
set_option linter.unusedSimpArgs false
set_option linter.unusedVariables false
attribute [local go_sem] Oper.semAt_some setCell_drewN alloc_drewN size_drewN'

set_option maxRecDepth 100000 in
set_option maxHeartbeats 4000000 in
theorem rsync_bad (n : Int)  (room now left n0 n1 : Int) (x0 x1 : ByteArray) (w : World) (h : fileOk n = false) : Calls Try.prog 27 #[.agg #[.int .i64 room, .string x0, .string x1, .int .i64 n0, .int .i64 n1, .int .i64 now, .int .i64 left], .int .i64 n] w fun e w' => e = .returned (.tuple #[.agg #[.int .i64 room, .string x0, .string x1, .int .i64 n0, .int .i64 n1, .int .i64 now, .int .i64 left], .int .i64 2]) ∧ Below w.heap.size w w' := by
  go_enter Try.func27, Try.ntmps27
  go_wp2_with fail
  refine (rfile_c n _).mono ?_
  rintro e w' ⟨rfl, rfl⟩
  go_wp2_with fail
  refine ret_RT (cs := #[.int .i64 room, .string x0, .string x1, .int .i64 n0, .int .i64 n1, .int .i64 now, .int .i64 left]) rfl rfl (by (repeat (first | (with_reducible exact heap_new' _ _ _ (by first | (simp only [World.size_alloc, World.size_drew, size_drewN']; done) | (simp only [World.size_alloc, World.size_drew, size_drewN']; omega))) | (with_reducible refine heap_drew' ?_) | (with_reducible refine heap_drewN' ?_) | (with_reducible refine heap_old' (by first | omega | (simp only [World.size_alloc, World.size_drew, size_drewN']; omega)) ?_)))) rfl rfl ⟨rfl, by (repeat (first | (with_reducible exact Below.refl _ _) | (with_reducible refine Below.drew ?_) | (with_reducible refine below_drewN ?_ _) | (with_reducible refine Below.alloc ?_ (by first | exact Nat.le_refl _ | omega | (simp only [World.size_alloc, World.size_drew, size_drewN']; omega)) _)))⟩
set_option maxRecDepth 100000 in
set_option maxHeartbeats 4000000 in
theorem rsync_s0  (room now left n0 n1 : Int) (x0 x1 : ByteArray) (w : World) : Calls Try.prog 27 #[.agg #[.int .i64 room, .string x0, .string x1, .int .i64 n0, .int .i64 n1, .int .i64 now, .int .i64 0], .int .i64 0] w fun e w' => e = .returned (.tuple #[.agg #[.int .i64 room, .string x0, .string x1, .int .i64 n0, .int .i64 n1, .int .i64 now, .int .i64 0], .int .i64 171]) ∧ Below w.heap.size w w' := by
  go_enter Try.func27, Try.ntmps27
  have hok : fileOk 0 = true := rfl
  go_wp2_with fail
  refine (rfile_c 0 _).mono ?_
  rintro e w' ⟨rfl, rfl⟩
  go_wp2_with fail
  refine (ract_0 room now 0 n0 n1 x0 x1 _ rfl).mono ?_
  rintro e w1 ⟨rfl, rfl⟩
  go_wp2_with fail
  refine ret_RT (cs := #[.int .i64 room, .string x0, .string x1, .int .i64 n0, .int .i64 n1, .int .i64 now, .int .i64 0]) rfl rfl (by (repeat (first | (with_reducible exact heap_new' _ _ _ (by first | (simp only [World.size_alloc, World.size_drew, size_drewN']; done) | (simp only [World.size_alloc, World.size_drew, size_drewN']; omega))) | (with_reducible refine heap_drew' ?_) | (with_reducible refine heap_drewN' ?_) | (with_reducible refine heap_old' (by first | omega | (simp only [World.size_alloc, World.size_drew, size_drewN']; omega)) ?_)))) rfl rfl ⟨rfl, by (repeat (first | (with_reducible exact Below.refl _ _) | (with_reducible refine Below.drew ?_) | (with_reducible refine below_drewN ?_ _) | (with_reducible refine Below.alloc ?_ (by first | exact Nat.le_refl _ | omega | (simp only [World.size_alloc, World.size_drew, size_drewN']; omega)) _)))⟩
set_option maxRecDepth 100000 in
set_option maxHeartbeats 4000000 in
theorem rsync_0  (room now left n0 n1 : Int) (x0 x1 : ByteArray) (w : World) (h0 : left ≠ 0) (hl : LeftOk left) : Calls Try.prog 27 #[.agg #[.int .i64 room, .string x0, .string x1, .int .i64 n0, .int .i64 n1, .int .i64 now, .int .i64 left], .int .i64 0] w fun e w' => e = .returned (.tuple #[.agg #[.int .i64 room, .string x0, .string x1, .int .i64 (x0.size : Int), .int .i64 n1, .int .i64 now, .int .i64 (decr left)], .int .i64 0]) ∧ Below w.heap.size w w' := by
  go_enter Try.func27, Try.ntmps27
  have hok : fileOk 0 = true := rfl
  go_wp2_with fail
  refine (rfile_c 0 _).mono ?_
  rintro e w' ⟨rfl, rfl⟩
  go_wp2_with fail
  refine (ract_1 room now left n0 n1 x0 x1 _ h0 hl).mono ?_
  rintro e w1 ⟨rfl, rfl⟩
  go_wp2_with fail
  refine ret_RT (cs := #[.int .i64 room, .string x0, .string x1, .int .i64 (x0.size : Int), .int .i64 n1, .int .i64 now, .int .i64 (decr left)]) rfl rfl (by (repeat (first | (with_reducible exact heap_new' _ _ _ (by first | (simp only [World.size_alloc, World.size_drew, size_drewN']; done) | (simp only [World.size_alloc, World.size_drew, size_drewN']; omega))) | (with_reducible refine heap_drew' ?_) | (with_reducible refine heap_drewN' ?_) | (with_reducible refine heap_old' (by first | omega | (simp only [World.size_alloc, World.size_drew, size_drewN']; omega)) ?_)))) rfl rfl ⟨rfl, by (repeat (first | (with_reducible exact Below.refl _ _) | (with_reducible refine Below.drew ?_) | (with_reducible refine below_drewN ?_ _) | (with_reducible refine Below.alloc ?_ (by first | exact Nat.le_refl _ | omega | (simp only [World.size_alloc, World.size_drew, size_drewN']; omega)) _)))⟩
set_option maxRecDepth 100000 in
set_option maxHeartbeats 4000000 in
theorem rsync_s1  (room now left n0 n1 : Int) (x0 x1 : ByteArray) (w : World) : Calls Try.prog 27 #[.agg #[.int .i64 room, .string x0, .string x1, .int .i64 n0, .int .i64 n1, .int .i64 now, .int .i64 0], .int .i64 1] w fun e w' => e = .returned (.tuple #[.agg #[.int .i64 room, .string x0, .string x1, .int .i64 n0, .int .i64 n1, .int .i64 now, .int .i64 0], .int .i64 171]) ∧ Below w.heap.size w w' := by
  go_enter Try.func27, Try.ntmps27
  have hok : fileOk 1 = true := rfl
  go_wp2_with fail
  refine (rfile_c 1 _).mono ?_
  rintro e w' ⟨rfl, rfl⟩
  go_wp2_with fail
  refine (ract_0 room now 0 n0 n1 x0 x1 _ rfl).mono ?_
  rintro e w1 ⟨rfl, rfl⟩
  go_wp2_with fail
  refine ret_RT (cs := #[.int .i64 room, .string x0, .string x1, .int .i64 n0, .int .i64 n1, .int .i64 now, .int .i64 0]) rfl rfl (by (repeat (first | (with_reducible exact heap_new' _ _ _ (by first | (simp only [World.size_alloc, World.size_drew, size_drewN']; done) | (simp only [World.size_alloc, World.size_drew, size_drewN']; omega))) | (with_reducible refine heap_drew' ?_) | (with_reducible refine heap_drewN' ?_) | (with_reducible refine heap_old' (by first | omega | (simp only [World.size_alloc, World.size_drew, size_drewN']; omega)) ?_)))) rfl rfl ⟨rfl, by (repeat (first | (with_reducible exact Below.refl _ _) | (with_reducible refine Below.drew ?_) | (with_reducible refine below_drewN ?_ _) | (with_reducible refine Below.alloc ?_ (by first | exact Nat.le_refl _ | omega | (simp only [World.size_alloc, World.size_drew, size_drewN']; omega)) _)))⟩
set_option maxRecDepth 100000 in
set_option maxHeartbeats 4000000 in
theorem rsync_1  (room now left n0 n1 : Int) (x0 x1 : ByteArray) (w : World) (h0 : left ≠ 0) (hl : LeftOk left) : Calls Try.prog 27 #[.agg #[.int .i64 room, .string x0, .string x1, .int .i64 n0, .int .i64 n1, .int .i64 now, .int .i64 left], .int .i64 1] w fun e w' => e = .returned (.tuple #[.agg #[.int .i64 room, .string x0, .string x1, .int .i64 n0, .int .i64 (x1.size : Int), .int .i64 now, .int .i64 (decr left)], .int .i64 0]) ∧ Below w.heap.size w w' := by
  go_enter Try.func27, Try.ntmps27
  have hok : fileOk 1 = true := rfl
  go_wp2_with fail
  refine (rfile_c 1 _).mono ?_
  rintro e w' ⟨rfl, rfl⟩
  go_wp2_with fail
  refine (ract_1 room now left n0 n1 x0 x1 _ h0 hl).mono ?_
  rintro e w1 ⟨rfl, rfl⟩
  go_wp2_with fail
  refine ret_RT (cs := #[.int .i64 room, .string x0, .string x1, .int .i64 n0, .int .i64 (x1.size : Int), .int .i64 now, .int .i64 (decr left)]) rfl rfl (by (repeat (first | (with_reducible exact heap_new' _ _ _ (by first | (simp only [World.size_alloc, World.size_drew, size_drewN']; done) | (simp only [World.size_alloc, World.size_drew, size_drewN']; omega))) | (with_reducible refine heap_drew' ?_) | (with_reducible refine heap_drewN' ?_) | (with_reducible refine heap_old' (by first | omega | (simp only [World.size_alloc, World.size_drew, size_drewN']; omega)) ?_)))) rfl rfl ⟨rfl, by (repeat (first | (with_reducible exact Below.refl _ _) | (with_reducible refine Below.drew ?_) | (with_reducible refine below_drewN ?_ _) | (with_reducible refine Below.alloc ?_ (by first | exact Nat.le_refl _ | omega | (simp only [World.size_alloc, World.size_drew, size_drewN']; omega)) _)))⟩
set_option maxRecDepth 100000 in
set_option maxHeartbeats 4000000 in
theorem rappend_bad (ad : Option Addr) (m cm : Nat) (bs : List UInt8) (n : Int)  (room now left n0 n1 : Int) (x0 x1 : ByteArray) (w : World) (h : fileOk n = false) : Calls Try.prog 15 #[.agg #[.int .i64 room, .string x0, .string x1, .int .i64 n0, .int .i64 n1, .int .i64 now, .int .i64 left], .int .i64 n, .slice ad m cm] w fun e w' => e = .returned (.tuple #[.agg #[.int .i64 room, .string x0, .string x1, .int .i64 n0, .int .i64 n1, .int .i64 now, .int .i64 left], .int .i64 2]) ∧ Below w.heap.size w w' := by
  go_enter Try.func15, Try.ntmps15
  go_wp2_with fail
  refine (rfile_c n _).mono ?_
  rintro e w' ⟨rfl, rfl⟩
  go_wp2_with fail
  refine ret_RT (cs := #[.int .i64 room, .string x0, .string x1, .int .i64 n0, .int .i64 n1, .int .i64 now, .int .i64 left]) rfl rfl (by (repeat (first | (with_reducible exact heap_new' _ _ _ (by first | (simp only [World.size_alloc, World.size_drew, size_drewN']; done) | (simp only [World.size_alloc, World.size_drew, size_drewN']; omega))) | (with_reducible refine heap_drew' ?_) | (with_reducible refine heap_drewN' ?_) | (with_reducible refine heap_old' (by first | omega | (simp only [World.size_alloc, World.size_drew, size_drewN']; omega)) ?_)))) rfl rfl ⟨rfl, by (repeat (first | (with_reducible exact Below.refl _ _) | (with_reducible refine Below.drew ?_) | (with_reducible refine below_drewN ?_ _) | (with_reducible refine Below.alloc ?_ (by first | exact Nat.le_refl _ | omega | (simp only [World.size_alloc, World.size_drew, size_drewN']; omega)) _)))⟩
set_option maxRecDepth 100000 in
set_option maxHeartbeats 4000000 in
theorem rappend_f0 (ad : Option Addr) (m cm : Nat) (bs : List UInt8)  (room now left n0 n1 : Int) (x0 x1 : ByteArray) (w : World) (hm : m ≤ 2 ^ 40) (hr : 0 ≤ room ∧ room ≤ 2 ^ 40) (hf : room - (m : Int) < (x0.size : Int)) : Calls Try.prog 15 #[.agg #[.int .i64 room, .string x0, .string x1, .int .i64 n0, .int .i64 n1, .int .i64 now, .int .i64 left], .int .i64 0, .slice ad m cm] w fun e w' => e = .returned (.tuple #[.agg #[.int .i64 room, .string x0, .string x1, .int .i64 n0, .int .i64 n1, .int .i64 now, .int .i64 left], .int .i64 170]) ∧ Below w.heap.size w w' := by
  go_enter Try.func15, Try.ntmps15
  have hok : fileOk 0 = true := rfl
  have hw := Go.IntWalk.i64_in (room - (m : Int)) (by omega)
  have hgt : decide ((x0.size : Int) > room - (m : Int)) = true := by simpa using hf
  go_wp2_with fail
  refine (rfile_c 0 _).mono ?_
  rintro e w' ⟨rfl, rfl⟩
  go_wp2_with fail
  go_quiet (fail)
  go_wp2_with fail
  refine ret_RT (cs := #[.int .i64 room, .string x0, .string x1, .int .i64 n0, .int .i64 n1, .int .i64 now, .int .i64 left]) rfl rfl (by (repeat (first | (with_reducible exact heap_new' _ _ _ (by first | (simp only [World.size_alloc, World.size_drew, size_drewN']; done) | (simp only [World.size_alloc, World.size_drew, size_drewN']; omega))) | (with_reducible refine heap_drew' ?_) | (with_reducible refine heap_drewN' ?_) | (with_reducible refine heap_old' (by first | omega | (simp only [World.size_alloc, World.size_drew, size_drewN']; omega)) ?_)))) rfl rfl ⟨rfl, by (repeat (first | (with_reducible exact Below.refl _ _) | (with_reducible refine Below.drew ?_) | (with_reducible refine below_drewN ?_ _) | (with_reducible refine Below.alloc ?_ (by first | exact Nat.le_refl _ | omega | (simp only [World.size_alloc, World.size_drew, size_drewN']; omega)) _)))⟩
set_option maxRecDepth 100000 in
set_option maxHeartbeats 4000000 in
theorem rappend_s0 (ad : Option Addr) (m cm : Nat) (bs : List UInt8)  (room now left n0 n1 : Int) (x0 x1 : ByteArray) (w : World) (hm : m ≤ 2 ^ 40) (hr : 0 ≤ room ∧ room ≤ 2 ^ 40) (hf : (x0.size : Int) ≤ room - (m : Int)) : Calls Try.prog 15 #[.agg #[.int .i64 room, .string x0, .string x1, .int .i64 n0, .int .i64 n1, .int .i64 now, .int .i64 0], .int .i64 0, .slice ad m cm] w fun e w' => e = .returned (.tuple #[.agg #[.int .i64 room, .string x0, .string x1, .int .i64 n0, .int .i64 n1, .int .i64 now, .int .i64 0], .int .i64 171]) ∧ Below w.heap.size w w' := by
  go_enter Try.func15, Try.ntmps15
  have hok : fileOk 0 = true := rfl
  have hw := Go.IntWalk.i64_in (room - (m : Int)) (by omega)
  have hgt : decide ((x0.size : Int) > room - (m : Int)) = false := by simpa using hf
  go_wp2_with fail
  refine (rfile_c 0 _).mono ?_
  rintro e w' ⟨rfl, rfl⟩
  go_wp2_with fail
  go_quiet (fail)
  go_wp2_with fail
  refine (ract_0 room now 0 n0 n1 x0 x1 _ rfl).mono ?_
  rintro e w1 ⟨rfl, rfl⟩
  go_wp2_with fail
  refine ret_RT (cs := #[.int .i64 room, .string x0, .string x1, .int .i64 n0, .int .i64 n1, .int .i64 now, .int .i64 0]) rfl rfl (by (repeat (first | (with_reducible exact heap_new' _ _ _ (by first | (simp only [World.size_alloc, World.size_drew, size_drewN']; done) | (simp only [World.size_alloc, World.size_drew, size_drewN']; omega))) | (with_reducible refine heap_drew' ?_) | (with_reducible refine heap_drewN' ?_) | (with_reducible refine heap_old' (by first | omega | (simp only [World.size_alloc, World.size_drew, size_drewN']; omega)) ?_)))) rfl rfl ⟨rfl, by (repeat (first | (with_reducible exact Below.refl _ _) | (with_reducible refine Below.drew ?_) | (with_reducible refine below_drewN ?_ _) | (with_reducible refine Below.alloc ?_ (by first | exact Nat.le_refl _ | omega | (simp only [World.size_alloc, World.size_drew, size_drewN']; omega)) _)))⟩
set_option maxRecDepth 100000 in
set_option maxHeartbeats 4000000 in
theorem rappend_0 (ad : Option Addr) (m cm : Nat) (bs : List UInt8)  (room now left n0 n1 : Int) (x0 x1 : ByteArray) (w : World) (hm : m ≤ 2 ^ 40) (hr : 0 ≤ room ∧ room ≤ 2 ^ 40) (hf : (x0.size : Int) ≤ room - (m : Int)) (hs : IsB w ad m cm bs) (h0 : left ≠ 0) (hl : LeftOk left) : Calls Try.prog 15 #[.agg #[.int .i64 room, .string x0, .string x1, .int .i64 n0, .int .i64 n1, .int .i64 now, .int .i64 left], .int .i64 0, .slice ad m cm] w fun e w' => e = .returned (.tuple #[.agg #[.int .i64 room, .string (x0 ++ strOf bs), .string x1, .int .i64 n0, .int .i64 n1, .int .i64 now, .int .i64 (decr left)], .int .i64 0]) ∧ Below w.heap.size w w' := by
  go_enter Try.func15, Try.ntmps15
  have hok : fileOk 0 = true := rfl
  have hw := Go.IntWalk.i64_in (room - (m : Int)) (by omega)
  have hgt : decide ((x0.size : Int) > room - (m : Int)) = false := by simpa using hf
  have hcat : ¬ (9223372036854775807 < x0.size + (strOf bs).size) := by have := strOf_size bs; have := hs.len; omega
  go_wp2_with fail
  refine (rfile_c 0 _).mono ?_
  rintro e w' ⟨rfl, rfl⟩
  go_wp2_with fail
  go_quiet (fail)
  go_wp2_with fail
  refine (ract_1 room now left n0 n1 x0 x1 _ h0 hl).mono ?_
  rintro e w1 ⟨rfl, rfl⟩
  go_wp2_with fail
  refine mix_begin 10 (Held fun w' => IsB w' ad m cm bs ∧ (convert 32 9 (.slice ad m cm)).run Try.prog w' = .ok (.string (strOf bs)) w' ∧ w'.cell? ⟨w.heap.size + 1 + 1 + 1 + 1, 1, none⟩ = some (.string x0)) (by kernel_rfl) (by kernel_rfl) (Held.mk ⟨hs.later (by (repeat (first | (with_reducible exact Below.refl _ _) | (with_reducible refine Below.drew ?_) | (with_reducible refine below_drewN ?_ _) | (with_reducible refine Below.alloc ?_ (by first | exact Nat.le_refl _ | omega | (simp only [World.size_alloc, World.size_drew, size_drewN']; omega)) _)))), conv_str (hs.later (by (repeat (first | (with_reducible exact Below.refl _ _) | (with_reducible refine Below.drew ?_) | (with_reducible refine below_drewN ?_ _) | (with_reducible refine Below.alloc ?_ (by first | exact Nat.le_refl _ | omega | (simp only [World.size_alloc, World.size_drew, size_drewN']; omega)) _))))), by (refine cell_heap (by (repeat (first | (with_reducible exact heap_new' _ _ _ (by first | (simp only [World.size_alloc, World.size_drew, size_drewN']; done) | (simp only [World.size_alloc, World.size_drew, size_drewN']; omega))) | (with_reducible refine heap_drew' ?_) | (with_reducible refine heap_drewN' ?_) | (with_reducible refine heap_old' (by first | omega | (simp only [World.size_alloc, World.size_drew, size_drewN']; omega)) ?_)))) rfl)⟩) (fun hS => ?_)
  refine mix_take (v := ?_) 0 rfl (by decide) (by kernel_rfl) (by kernel_rfl) (fun _ _ _ h => h) hS rfl ?_ ?_
  rotate_left
  · (intro w' hw'; first | (go_simp; done) | (go_simp; with_reducible rfl) | (obtain ⟨g1, g2, g3⟩ := hw'.out; first | (go_simp; done) | (go_simp; with_reducible rfl)))
  simp only [Act.put, List.setIfInBounds_toArray, List.set_cons_zero, List.set_cons_succ]
  refine mix_take (v := ?_) 1 rfl (by decide) (by kernel_rfl) (by kernel_rfl) (fun _ _ _ h => h) hS rfl ?_ ?_
  rotate_left
  · (intro w' hw'; first | (go_simp; done) | (go_simp; with_reducible rfl) | (obtain ⟨g1, g2, g3⟩ := hw'.out; first | (go_simp; done) | (go_simp; with_reducible rfl)))
  simp only [Act.put, List.setIfInBounds_toArray, List.set_cons_zero, List.set_cons_succ]
  refine mix_take (v := ?_) 2 rfl (by decide) (by kernel_rfl) (by kernel_rfl) (fun _ _ _ h => h) hS rfl ?_ ?_
  rotate_left
  · (intro w' hw'; first | (go_simp; done) | (go_simp; with_reducible rfl) | (obtain ⟨g1, g2, g3⟩ := hw'.out; first | (go_simp; done) | (go_simp; with_reducible rfl)))
  simp only [Act.put, List.setIfInBounds_toArray, List.set_cons_zero, List.set_cons_succ]
  refine mix_take (v := ?_) 3 rfl (by decide) (by kernel_rfl) (by kernel_rfl) (fun _ _ _ h => h) hS rfl ?_ ?_
  rotate_left
  · (intro w' hw'; first | (go_simp; done) | (go_simp; with_reducible rfl) | (obtain ⟨g1, g2, g3⟩ := hw'.out; first | (go_simp; done) | (go_simp; with_reducible rfl)))
  simp only [Act.put, List.setIfInBounds_toArray, List.set_cons_zero, List.set_cons_succ]
  refine mix_take (v := ?_) 4 rfl (by decide) (by kernel_rfl) (by kernel_rfl) (fun _ _ _ h => h) hS rfl ?_ ?_
  rotate_left
  · (intro w' hw'; first | (go_simp; done) | (go_simp; with_reducible rfl) | (obtain ⟨g1, g2, g3⟩ := hw'.out; first | (go_simp; done) | (go_simp; with_reducible rfl)))
  simp only [Act.put, List.setIfInBounds_toArray, List.set_cons_zero, List.set_cons_succ]
  refine mix_take (v := ?_) 5 rfl (by decide) (by kernel_rfl) (by kernel_rfl) (fun _ _ _ h => h) hS rfl ?_ ?_
  rotate_left
  · (intro w' hw'; first | (go_simp; done) | (go_simp; with_reducible rfl) | (obtain ⟨g1, g2, g3⟩ := hw'.out; first | (go_simp; done) | (go_simp; with_reducible rfl)))
  simp only [Act.put, List.setIfInBounds_toArray, List.set_cons_zero, List.set_cons_succ]
  refine mix_take (v := ?_) 6 rfl (by decide) (by kernel_rfl) (by kernel_rfl) (fun _ _ _ h => h) hS rfl ?_ ?_
  rotate_left
  · (intro w' hw'; first | (go_simp; done) | (go_simp; with_reducible rfl) | (obtain ⟨g1, g2, g3⟩ := hw'.out; first | (go_simp; done) | (go_simp; with_reducible rfl)))
  simp only [Act.put, List.setIfInBounds_toArray, List.set_cons_zero, List.set_cons_succ]
  refine mix_take (v := ?_) 7 rfl (by decide) (by kernel_rfl) (by kernel_rfl) (fun _ _ _ h => h) hS rfl ?_ ?_
  rotate_left
  · (intro w' hw'; first | (go_simp; done) | (go_simp; with_reducible rfl) | (obtain ⟨g1, g2, g3⟩ := hw'.out; first | (go_simp; done) | (go_simp; with_reducible rfl)))
  simp only [Act.put, List.setIfInBounds_toArray, List.set_cons_zero, List.set_cons_succ]
  refine mix_take (v := ?_) 8 rfl (by decide) (by kernel_rfl) (by kernel_rfl) (fun _ _ _ h => h) hS rfl ?_ ?_
  rotate_left
  · (intro w' hw'; first | (go_simp; done) | (go_simp; with_reducible rfl) | (obtain ⟨g1, g2, g3⟩ := hw'.out; first | (go_simp; done) | (go_simp; with_reducible rfl)))
  simp only [Act.put, List.setIfInBounds_toArray, List.set_cons_zero, List.set_cons_succ]
  refine mix_take (v := ?_) 9 rfl (by decide) (by kernel_rfl) (by kernel_rfl) (fun _ _ _ h => h) hS rfl ?_ ?_
  rotate_left
  · (intro w' hw'; first | (go_simp; done) | (go_simp; with_reducible rfl) | (obtain ⟨g1, g2, g3⟩ := hw'.out; first | (go_simp; done) | (go_simp; with_reducible rfl)))
  simp only [Act.put, List.setIfInBounds_toArray, List.set_cons_zero, List.set_cons_succ]
  refine mix_done (by kernel_rfl) ?_
  simp only [List.drop_succ_cons, List.drop_zero]
  go_wp2_with fail
  refine ret_RT (cs := #[.int .i64 room, .string (x0 ++ strOf bs), .string x1, .int .i64 n0, .int .i64 n1, .int .i64 now, .int .i64 (decr left)]) rfl rfl (by (repeat (first | (with_reducible exact heap_new' _ _ _ (by first | (simp only [World.size_alloc, World.size_drew, size_drewN']; done) | (simp only [World.size_alloc, World.size_drew, size_drewN']; omega))) | (with_reducible refine heap_drew' ?_) | (with_reducible refine heap_drewN' ?_) | (with_reducible refine heap_old' (by first | omega | (simp only [World.size_alloc, World.size_drew, size_drewN']; omega)) ?_)))) rfl rfl ⟨rfl, by (repeat (first | (with_reducible exact Below.refl _ _) | (with_reducible refine Below.drew ?_) | (with_reducible refine below_drewN ?_ _) | (with_reducible refine Below.alloc ?_ (by first | exact Nat.le_refl _ | omega | (simp only [World.size_alloc, World.size_drew, size_drewN']; omega)) _)))⟩
set_option maxRecDepth 100000 in
set_option maxHeartbeats 4000000 in
theorem rappend_f1 (ad : Option Addr) (m cm : Nat) (bs : List UInt8)  (room now left n0 n1 : Int) (x0 x1 : ByteArray) (w : World) (hm : m ≤ 2 ^ 40) (hr : 0 ≤ room ∧ room ≤ 2 ^ 40) (hf : room - (m : Int) < (x1.size : Int)) : Calls Try.prog 15 #[.agg #[.int .i64 room, .string x0, .string x1, .int .i64 n0, .int .i64 n1, .int .i64 now, .int .i64 left], .int .i64 1, .slice ad m cm] w fun e w' => e = .returned (.tuple #[.agg #[.int .i64 room, .string x0, .string x1, .int .i64 n0, .int .i64 n1, .int .i64 now, .int .i64 left], .int .i64 170]) ∧ Below w.heap.size w w' := by
  go_enter Try.func15, Try.ntmps15
  have hok : fileOk 1 = true := rfl
  have hw := Go.IntWalk.i64_in (room - (m : Int)) (by omega)
  have hgt : decide ((x1.size : Int) > room - (m : Int)) = true := by simpa using hf
  go_wp2_with fail
  refine (rfile_c 1 _).mono ?_
  rintro e w' ⟨rfl, rfl⟩
  go_wp2_with fail
  go_quiet (fail)
  go_wp2_with fail
  refine ret_RT (cs := #[.int .i64 room, .string x0, .string x1, .int .i64 n0, .int .i64 n1, .int .i64 now, .int .i64 left]) rfl rfl (by (repeat (first | (with_reducible exact heap_new' _ _ _ (by first | (simp only [World.size_alloc, World.size_drew, size_drewN']; done) | (simp only [World.size_alloc, World.size_drew, size_drewN']; omega))) | (with_reducible refine heap_drew' ?_) | (with_reducible refine heap_drewN' ?_) | (with_reducible refine heap_old' (by first | omega | (simp only [World.size_alloc, World.size_drew, size_drewN']; omega)) ?_)))) rfl rfl ⟨rfl, by (repeat (first | (with_reducible exact Below.refl _ _) | (with_reducible refine Below.drew ?_) | (with_reducible refine below_drewN ?_ _) | (with_reducible refine Below.alloc ?_ (by first | exact Nat.le_refl _ | omega | (simp only [World.size_alloc, World.size_drew, size_drewN']; omega)) _)))⟩
set_option maxRecDepth 100000 in
set_option maxHeartbeats 4000000 in
theorem rappend_s1 (ad : Option Addr) (m cm : Nat) (bs : List UInt8)  (room now left n0 n1 : Int) (x0 x1 : ByteArray) (w : World) (hm : m ≤ 2 ^ 40) (hr : 0 ≤ room ∧ room ≤ 2 ^ 40) (hf : (x1.size : Int) ≤ room - (m : Int)) : Calls Try.prog 15 #[.agg #[.int .i64 room, .string x0, .string x1, .int .i64 n0, .int .i64 n1, .int .i64 now, .int .i64 0], .int .i64 1, .slice ad m cm] w fun e w' => e = .returned (.tuple #[.agg #[.int .i64 room, .string x0, .string x1, .int .i64 n0, .int .i64 n1, .int .i64 now, .int .i64 0], .int .i64 171]) ∧ Below w.heap.size w w' := by
  go_enter Try.func15, Try.ntmps15
  have hok : fileOk 1 = true := rfl
  have hw := Go.IntWalk.i64_in (room - (m : Int)) (by omega)
  have hgt : decide ((x1.size : Int) > room - (m : Int)) = false := by simpa using hf
  go_wp2_with fail
  refine (rfile_c 1 _).mono ?_
  rintro e w' ⟨rfl, rfl⟩
  go_wp2_with fail
  go_quiet (fail)
  go_wp2_with fail
  refine (ract_0 room now 0 n0 n1 x0 x1 _ rfl).mono ?_
  rintro e w1 ⟨rfl, rfl⟩
  go_wp2_with fail
  refine ret_RT (cs := #[.int .i64 room, .string x0, .string x1, .int .i64 n0, .int .i64 n1, .int .i64 now, .int .i64 0]) rfl rfl (by (repeat (first | (with_reducible exact heap_new' _ _ _ (by first | (simp only [World.size_alloc, World.size_drew, size_drewN']; done) | (simp only [World.size_alloc, World.size_drew, size_drewN']; omega))) | (with_reducible refine heap_drew' ?_) | (with_reducible refine heap_drewN' ?_) | (with_reducible refine heap_old' (by first | omega | (simp only [World.size_alloc, World.size_drew, size_drewN']; omega)) ?_)))) rfl rfl ⟨rfl, by (repeat (first | (with_reducible exact Below.refl _ _) | (with_reducible refine Below.drew ?_) | (with_reducible refine below_drewN ?_ _) | (with_reducible refine Below.alloc ?_ (by first | exact Nat.le_refl _ | omega | (simp only [World.size_alloc, World.size_drew, size_drewN']; omega)) _)))⟩
set_option maxRecDepth 100000 in
set_option maxHeartbeats 4000000 in
theorem rappend_1 (ad : Option Addr) (m cm : Nat) (bs : List UInt8)  (room now left n0 n1 : Int) (x0 x1 : ByteArray) (w : World) (hm : m ≤ 2 ^ 40) (hr : 0 ≤ room ∧ room ≤ 2 ^ 40) (hf : (x1.size : Int) ≤ room - (m : Int)) (hs : IsB w ad m cm bs) (h0 : left ≠ 0) (hl : LeftOk left) : Calls Try.prog 15 #[.agg #[.int .i64 room, .string x0, .string x1, .int .i64 n0, .int .i64 n1, .int .i64 now, .int .i64 left], .int .i64 1, .slice ad m cm] w fun e w' => e = .returned (.tuple #[.agg #[.int .i64 room, .string x0, .string (x1 ++ strOf bs), .int .i64 n0, .int .i64 n1, .int .i64 now, .int .i64 (decr left)], .int .i64 0]) ∧ Below w.heap.size w w' := by
  go_enter Try.func15, Try.ntmps15
  have hok : fileOk 1 = true := rfl
  have hw := Go.IntWalk.i64_in (room - (m : Int)) (by omega)
  have hgt : decide ((x1.size : Int) > room - (m : Int)) = false := by simpa using hf
  have hcat : ¬ (9223372036854775807 < x1.size + (strOf bs).size) := by have := strOf_size bs; have := hs.len; omega
  go_wp2_with fail
  refine (rfile_c 1 _).mono ?_
  rintro e w' ⟨rfl, rfl⟩
  go_wp2_with fail
  go_quiet (fail)
  go_wp2_with fail
  refine (ract_1 room now left n0 n1 x0 x1 _ h0 hl).mono ?_
  rintro e w1 ⟨rfl, rfl⟩
  go_wp2_with fail
  refine mix_begin 10 (Held fun w' => IsB w' ad m cm bs ∧ (convert 32 9 (.slice ad m cm)).run Try.prog w' = .ok (.string (strOf bs)) w' ∧ w'.cell? ⟨w.heap.size + 1 + 1 + 1 + 1, 2, none⟩ = some (.string x1)) (by kernel_rfl) (by kernel_rfl) (Held.mk ⟨hs.later (by (repeat (first | (with_reducible exact Below.refl _ _) | (with_reducible refine Below.drew ?_) | (with_reducible refine below_drewN ?_ _) | (with_reducible refine Below.alloc ?_ (by first | exact Nat.le_refl _ | omega | (simp only [World.size_alloc, World.size_drew, size_drewN']; omega)) _)))), conv_str (hs.later (by (repeat (first | (with_reducible exact Below.refl _ _) | (with_reducible refine Below.drew ?_) | (with_reducible refine below_drewN ?_ _) | (with_reducible refine Below.alloc ?_ (by first | exact Nat.le_refl _ | omega | (simp only [World.size_alloc, World.size_drew, size_drewN']; omega)) _))))), by (refine cell_heap (by (repeat (first | (with_reducible exact heap_new' _ _ _ (by first | (simp only [World.size_alloc, World.size_drew, size_drewN']; done) | (simp only [World.size_alloc, World.size_drew, size_drewN']; omega))) | (with_reducible refine heap_drew' ?_) | (with_reducible refine heap_drewN' ?_) | (with_reducible refine heap_old' (by first | omega | (simp only [World.size_alloc, World.size_drew, size_drewN']; omega)) ?_)))) rfl)⟩) (fun hS => ?_)
  refine mix_take (v := ?_) 0 rfl (by decide) (by kernel_rfl) (by kernel_rfl) (fun _ _ _ h => h) hS rfl ?_ ?_
  rotate_left
  · (intro w' hw'; first | (go_simp; done) | (go_simp; with_reducible rfl) | (obtain ⟨g1, g2, g3⟩ := hw'.out; first | (go_simp; done) | (go_simp; with_reducible rfl)))
  simp only [Act.put, List.setIfInBounds_toArray, List.set_cons_zero, List.set_cons_succ]
  refine mix_take (v := ?_) 1 rfl (by decide) (by kernel_rfl) (by kernel_rfl) (fun _ _ _ h => h) hS rfl ?_ ?_
  rotate_left
  · (intro w' hw'; first | (go_simp; done) | (go_simp; with_reducible rfl) | (obtain ⟨g1, g2, g3⟩ := hw'.out; first | (go_simp; done) | (go_simp; with_reducible rfl)))
  simp only [Act.put, List.setIfInBounds_toArray, List.set_cons_zero, List.set_cons_succ]
  refine mix_take (v := ?_) 2 rfl (by decide) (by kernel_rfl) (by kernel_rfl) (fun _ _ _ h => h) hS rfl ?_ ?_
  rotate_left
  · (intro w' hw'; first | (go_simp; done) | (go_simp; with_reducible rfl) | (obtain ⟨g1, g2, g3⟩ := hw'.out; first | (go_simp; done) | (go_simp; with_reducible rfl)))
  simp only [Act.put, List.setIfInBounds_toArray, List.set_cons_zero, List.set_cons_succ]
  refine mix_take (v := ?_) 3 rfl (by decide) (by kernel_rfl) (by kernel_rfl) (fun _ _ _ h => h) hS rfl ?_ ?_
  rotate_left
  · (intro w' hw'; first | (go_simp; done) | (go_simp; with_reducible rfl) | (obtain ⟨g1, g2, g3⟩ := hw'.out; first | (go_simp; done) | (go_simp; with_reducible rfl)))
  simp only [Act.put, List.setIfInBounds_toArray, List.set_cons_zero, List.set_cons_succ]
  refine mix_take (v := ?_) 4 rfl (by decide) (by kernel_rfl) (by kernel_rfl) (fun _ _ _ h => h) hS rfl ?_ ?_
  rotate_left
  · (intro w' hw'; first | (go_simp; done) | (go_simp; with_reducible rfl) | (obtain ⟨g1, g2, g3⟩ := hw'.out; first | (go_simp; done) | (go_simp; with_reducible rfl)))
  simp only [Act.put, List.setIfInBounds_toArray, List.set_cons_zero, List.set_cons_succ]
  refine mix_take (v := ?_) 5 rfl (by decide) (by kernel_rfl) (by kernel_rfl) (fun _ _ _ h => h) hS rfl ?_ ?_
  rotate_left
  · (intro w' hw'; first | (go_simp; done) | (go_simp; with_reducible rfl) | (obtain ⟨g1, g2, g3⟩ := hw'.out; first | (go_simp; done) | (go_simp; with_reducible rfl)))
  simp only [Act.put, List.setIfInBounds_toArray, List.set_cons_zero, List.set_cons_succ]
  refine mix_take (v := ?_) 6 rfl (by decide) (by kernel_rfl) (by kernel_rfl) (fun _ _ _ h => h) hS rfl ?_ ?_
  rotate_left
  · (intro w' hw'; first | (go_simp; done) | (go_simp; with_reducible rfl) | (obtain ⟨g1, g2, g3⟩ := hw'.out; first | (go_simp; done) | (go_simp; with_reducible rfl)))
  simp only [Act.put, List.setIfInBounds_toArray, List.set_cons_zero, List.set_cons_succ]
  refine mix_take (v := ?_) 7 rfl (by decide) (by kernel_rfl) (by kernel_rfl) (fun _ _ _ h => h) hS rfl ?_ ?_
  rotate_left
  · (intro w' hw'; first | (go_simp; done) | (go_simp; with_reducible rfl) | (obtain ⟨g1, g2, g3⟩ := hw'.out; first | (go_simp; done) | (go_simp; with_reducible rfl)))
  simp only [Act.put, List.setIfInBounds_toArray, List.set_cons_zero, List.set_cons_succ]
  refine mix_take (v := ?_) 8 rfl (by decide) (by kernel_rfl) (by kernel_rfl) (fun _ _ _ h => h) hS rfl ?_ ?_
  rotate_left
  · (intro w' hw'; first | (go_simp; done) | (go_simp; with_reducible rfl) | (obtain ⟨g1, g2, g3⟩ := hw'.out; first | (go_simp; done) | (go_simp; with_reducible rfl)))
  simp only [Act.put, List.setIfInBounds_toArray, List.set_cons_zero, List.set_cons_succ]
  refine mix_take (v := ?_) 9 rfl (by decide) (by kernel_rfl) (by kernel_rfl) (fun _ _ _ h => h) hS rfl ?_ ?_
  rotate_left
  · (intro w' hw'; first | (go_simp; done) | (go_simp; with_reducible rfl) | (obtain ⟨g1, g2, g3⟩ := hw'.out; first | (go_simp; done) | (go_simp; with_reducible rfl)))
  simp only [Act.put, List.setIfInBounds_toArray, List.set_cons_zero, List.set_cons_succ]
  refine mix_done (by kernel_rfl) ?_
  simp only [List.drop_succ_cons, List.drop_zero]
  go_wp2_with fail
  refine ret_RT (cs := #[.int .i64 room, .string x0, .string (x1 ++ strOf bs), .int .i64 n0, .int .i64 n1, .int .i64 now, .int .i64 (decr left)]) rfl rfl (by (repeat (first | (with_reducible exact heap_new' _ _ _ (by first | (simp only [World.size_alloc, World.size_drew, size_drewN']; done) | (simp only [World.size_alloc, World.size_drew, size_drewN']; omega))) | (with_reducible refine heap_drew' ?_) | (with_reducible refine heap_drewN' ?_) | (with_reducible refine heap_old' (by first | omega | (simp only [World.size_alloc, World.size_drew, size_drewN']; omega)) ?_)))) rfl rfl ⟨rfl, by (repeat (first | (with_reducible exact Below.refl _ _) | (with_reducible refine Below.drew ?_) | (with_reducible refine below_drewN ?_ _) | (with_reducible refine Below.alloc ?_ (by first | exact Nat.le_refl _ | omega | (simp only [World.size_alloc, World.size_drew, size_drewN']; omega)) _)))⟩
end Go.Proofs.Ytknndpncdnhnpaa
