import Derived.Test.YtknndpncdnhnpaaDiskT
namespace Go.Proofs.Ytknndpncdnhnpaa
open Go.RowKit Go.Cas
set_option linter.unusedSimpArgs false
set_option linter.unusedVariables false
attribute [local go_sem] Oper.semAt_some setCell_drewN alloc_drewN size_drewN'

set_option maxRecDepth 100000 in
set_option maxHeartbeats 400000 in
theorem rcrash_neg (k0 k1 : Int)  (room now left n0 n1 : Int) (x0 x1 : ByteArray) (w : World) (h : k0 < 0 ∨ k1 < 0) : Calls Try.prog 30 #[.agg #[.int .i64 room, .string x0, .string x1, .int .i64 n0, .int .i64 n1, .int .i64 now, .int .i64 left], .agg #[.int .i64 k0, .int .i64 k1]] w fun e w' => e = .returned (.tuple #[.agg #[.int .i64 room, .string x0, .string x1, .int .i64 n0, .int .i64 n1, .int .i64 now, .int .i64 left], .int .i64 2]) ∧ Below w.heap.size w w' := by
  go_enter Try.func30, Try.ntmps30
  by_cases hk : k0 < 0
  · have hd : decide (k0 < 0) = true := by simpa using hk
    go_wp2_with fail
    refine ret_RT (cs := #[.int .i64 room, .string x0, .string x1, .int .i64 n0, .int .i64 n1, .int .i64 now, .int .i64 left]) rfl rfl (by (repeat (first | (with_reducible exact heap_new' _ _ _ (by first | (simp only [World.size_alloc, World.size_drew, size_drewN']; done) | (simp only [World.size_alloc, World.size_drew, size_drewN']; omega))) | (with_reducible refine heap_drew' ?_) | (with_reducible refine heap_drewN' ?_) | (with_reducible refine heap_old' (by first | omega | (simp only [World.size_alloc, World.size_drew, size_drewN']; omega)) ?_)))) rfl rfl ⟨rfl, by (repeat (first | (with_reducible exact Below.refl _ _) | (with_reducible refine Below.drew ?_) | (with_reducible refine below_drewN ?_ _) | (with_reducible refine Below.alloc ?_ (by first | exact Nat.le_refl _ | omega | (simp only [World.size_alloc, World.size_drew, size_drewN']; omega)) _)))⟩
  · have hd : decide (k0 < 0) = false := by simpa using hk
    have hd1 : decide (k1 < 0) = true := by simp; omega
    go_wp2_with fail
    refine ret_RT (cs := #[.int .i64 room, .string x0, .string x1, .int .i64 n0, .int .i64 n1, .int .i64 now, .int .i64 left]) rfl rfl (by (repeat (first | (with_reducible exact heap_new' _ _ _ (by first | (simp only [World.size_alloc, World.size_drew, size_drewN']; done) | (simp only [World.size_alloc, World.size_drew, size_drewN']; omega))) | (with_reducible refine heap_drew' ?_) | (with_reducible refine heap_drewN' ?_) | (with_reducible refine heap_old' (by first | omega | (simp only [World.size_alloc, World.size_drew, size_drewN']; omega)) ?_)))) rfl rfl ⟨rfl, by (repeat (first | (with_reducible exact Below.refl _ _) | (with_reducible refine Below.drew ?_) | (with_reducible refine below_drewN ?_ _) | (with_reducible refine Below.alloc ?_ (by first | exact Nat.le_refl _ | omega | (simp only [World.size_alloc, World.size_drew, size_drewN']; omega)) _)))⟩
set_option maxRecDepth 100000 in
set_option maxHeartbeats 400000 in
theorem rcrash_c (k0 k1 p0 p1 : Int)  (room now left n0 n1 : Int) (x0 x1 : ByteArray) (w : World) (h0 : 0 ≤ k0) (h1 : 0 ≤ k1) (hp0 : (if (x0.size : Int) - n0 < k0 then (x0.size : Int) - n0 else k0) = p0) (hq0 : 0 ≤ n0 ∧ n0 ≤ x0.size ∧ (x0.size : Int) ≤ 2 ^ 40) (hp1 : (if (x1.size : Int) - n1 < k1 then (x1.size : Int) - n1 else k1) = p1) (hq1 : 0 ≤ n1 ∧ n1 ≤ x1.size ∧ (x1.size : Int) ≤ 2 ^ 40) : Calls Try.prog 30 #[.agg #[.int .i64 room, .string x0, .string x1, .int .i64 n0, .int .i64 n1, .int .i64 now, .int .i64 left], .agg #[.int .i64 k0, .int .i64 k1]] w fun e w' => e = .returned (.tuple #[.agg #[.int .i64 room, .string (x0.extract 0 (n0 + p0).toNat), .string (x1.extract 0 (n1 + p1).toNat), .int .i64 (n0 + p0), .int .i64 (n1 + p1), .int .i64 now, .int .i64 (-1)], .int .i64 0]) ∧ Below w.heap.size w w' := by
  go_enter Try.func30, Try.ntmps30
  have hd0 : decide (k0 < 0) = false := by simpa using h0
  have hd1 : decide (k1 < 0) = false := by simpa using h1
  have e0 : 0 ≤ n0 + p0 ∧ n0 + p0 ≤ x0.size := by rw [← hp0]; split <;> omega
  have e1 : 0 ≤ n1 + p1 ∧ n1 + p1 ≤ x1.size := by rw [← hp1]; split <;> omega
  have a0 := Go.IntWalk.i64_in ((x0.size : Int) - n0) (by omega)
  have a1 := Go.IntWalk.i64_in ((x1.size : Int) - n1) (by omega)
  have b0 := Go.IntWalk.i64_in (n0 + p0) (by omega)
  have b1 := Go.IntWalk.i64_in (n1 + p1) (by omega)
  have m0 : max (n0 + p0) 0 = n0 + p0 := by omega
  have m1 : max (n1 + p1) 0 = n1 + p1 := by omega
  obtain ⟨u0, v0⟩ := e0
  obtain ⟨u1, v1⟩ := e1
  go_wp2_with fail
  go_loopw [6] (fun i wr => ∃ k : Nat, k ≤ 2 ∧ i = .int .i64 (k : Int) ∧ ∃ nq, wr = (if k = 0 then (((w.alloc (.cells #[.int .i64 room, .string x0, .string x1, .int .i64 n0, .int .i64 n1, .int .i64 now, .int .i64 left] 38)).alloc (.cells #[.int .i64 k0, .int .i64 k1] 36)).alloc (.cells #[.int .i64 0, .string { data := #[] }, .string { data := #[] }, .int .i64 0, .int .i64 0, .int .i64 0, .int .i64 0] 38)) else if k = 1 then (((w.alloc (.cells #[.int .i64 room, .string (x0.extract 0 (n0 + p0).toNat), .string x1, .int .i64 (n0 + p0), .int .i64 n1, .int .i64 now, .int .i64 left] 38)).alloc (.cells #[.int .i64 k0, .int .i64 k1] 36)).alloc (.cells #[.int .i64 0, .string { data := #[] }, .string { data := #[] }, .int .i64 0, .int .i64 0, .int .i64 0, .int .i64 0] 38)) else (((w.alloc (.cells #[.int .i64 room, .string (x0.extract 0 (n0 + p0).toNat), .string (x1.extract 0 (n1 + p1).toNat), .int .i64 (n0 + p0), .int .i64 (n1 + p1), .int .i64 now, .int .i64 left] 38)).alloc (.cells #[.int .i64 k0, .int .i64 k1] 36)).alloc (.cells #[.int .i64 0, .string { data := #[] }, .string { data := #[] }, .int .i64 0, .int .i64 0, .int .i64 0, .int .i64 0] 38))).drewN nq) (fun i _ => 2 - (intOf i).toNat)
  case atStart => exact ⟨0, by decide, rfl, 0, rfl⟩
  case round =>
    obtain ⟨k, hk, rfl, nq, rfl⟩ := hrel
    obtain rfl | rfl | rfl : k = 0 ∨ k = 1 ∨ k = 2 := by omega
    · simp only [if_true]
      go_wp2_with fail
      go_region
      all_goals (go_wp2_with fail)
      exact ⟨⟨1, by decide, rfl, nq + 1, rfl⟩, by simp [intOf]⟩
    · simp only [if_neg (show ¬ ((1 : Nat) = 0) by decide), if_true]
      go_wp2_with fail
      go_region
      all_goals (go_wp2_with fail)
      exact ⟨⟨2, by decide, rfl, nq + 1, rfl⟩, by simp [intOf]⟩
    · simp only [if_neg (show ¬ ((2 : Nat) = 0) by decide), if_neg (show ¬ ((2 : Nat) = 1) by decide)]
      go_wp2_with fail
      refine ret_RT (cs := #[.int .i64 room, .string (x0.extract 0 (n0 + p0).toNat), .string (x1.extract 0 (n1 + p1).toNat), .int .i64 (n0 + p0), .int .i64 (n1 + p1), .int .i64 now, .int .i64 (-1)]) rfl rfl (by (repeat (first | (with_reducible exact heap_new' _ _ _ (by first | (simp only [World.size_alloc, World.size_drew, size_drewN']; done) | (simp only [World.size_alloc, World.size_drew, size_drewN']; omega))) | (with_reducible refine heap_drew' ?_) | (with_reducible refine heap_drewN' ?_) | (with_reducible refine heap_old' (by first | omega | (simp only [World.size_alloc, World.size_drew, size_drewN']; omega)) ?_)))) rfl rfl ⟨rfl, by (repeat (first | (with_reducible exact Below.refl _ _) | (with_reducible refine Below.drew ?_) | (with_reducible refine below_drewN ?_ _) | (with_reducible refine Below.alloc ?_ (by first | exact Nat.le_refl _ | omega | (simp only [World.size_alloc, World.size_drew, size_drewN']; omega)) _)))⟩
end Go.Proofs.Ytknndpncdnhnpaa
