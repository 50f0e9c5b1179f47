import Derived.Test.YtknndpncdnhnpaaDiskV
import Derived.Test.YtknndpncdnhnpaaMix
namespace Go.Proofs.Ytknndpncdnhnpaa
open Go.RowKit Go.Cas

set_option maxRecDepth 100000 in
set_option maxHeartbeats 1000000 in
theorem cut_do0 (b Bf Bm : Nat) (s : DS) (many : Int) (w : World) (h : IsD w b s) (hcf : w.cell? ⟨Bf, 0, none⟩ = some (.pointer (some ⟨b, 3, none⟩))) (hcm : w.cell? ⟨Bm, 0, none⟩ = some (.int .i64 many))
    (hm : 0 ≤ many) (hmf : many ≤ (s.f0.length : Int)) (hbig : s.f0.length ≤ 2 ^ 40) :
    Calls Try.prog 57 #[.pointer (some ⟨Bf, 0, none⟩), .pointer (some ⟨Bm, 0, none⟩)] w fun e w' => e = .returned (.tuple #[]) ∧ IsD w' b ((s.setF 0 ((s.fl 0).take many.toNat)).setN 0 (min many.toNat (s.la 0))) ∧ w.grownBy w' (some b) := by
  obtain ⟨a0, l0, c0, a1, l1, c1, h⟩ := h
  have hg := h.g3
  have hge := h.g4
  have hlen := h.b0.len
  have hlc := h.b0.le
  have hle2 : many.toNat ≤ l0 := by omega
  have hle3 : many.toNat ≤ c0 := by omega
  have hmc : many ≤ (c0 : Int) := by omega
  have htl : (s.f0.take many.toNat).length = many.toNat := by rw [List.length_take]; omega
  have hmin : (if (s.n0 : Int) < many then (s.n0 : Int) else many) = ((min many.toNat s.n0 : Nat) : Int) := by split <;> omega
  have HL := Lib.hid hlen; clear hlen
  go_enter Try.func57, Try.ntmps57
  go_wp2_with fail
  refine mix_begin 18 (Held fun w' => w'.cell? ⟨Bf, 0, none⟩ = some (.pointer (some ⟨b, 3, none⟩)) ∧ w'.cell? ⟨Bm, 0, none⟩ = some (.int .i64 many) ∧ w'.cell? ⟨b, 4, none⟩ = some (.int .i64 (s.n0 : Int)) ∧ w.grownBy w' (some b)) (by kernel_rfl) (by kernel_rfl) (Held.mk ⟨hcf, hcm, hge, grown_of_below (below_drew w)⟩) (fun hS => ?_)
  refine mix_take (v := ?_) 0 rfl (by decide) (by kernel_rfl) (by kernel_rfl) (fun _ _ _ h => h) hS rfl ?_ ?_
  rotate_left
  · (intro w' hw'; first | (go_simp; done) | (go_simp; with_reducible rfl) | (obtain ⟨g1, g2, g3, g4⟩ := hw'.out; first | (go_simp; done) | (go_simp; with_reducible rfl)))
  simp only [Act.put, List.setIfInBounds_toArray, List.set_cons_zero, List.set_cons_succ]
  refine mix_take (v := ?_) 1 rfl (by decide) (by kernel_rfl) (by kernel_rfl) (fun _ _ _ h => h) hS rfl ?_ ?_
  rotate_left
  · (intro w' hw'; first | (go_simp; done) | (go_simp; with_reducible rfl) | (obtain ⟨g1, g2, g3, g4⟩ := hw'.out; first | (go_simp; done) | (go_simp; with_reducible rfl)))
  simp only [Act.put, List.setIfInBounds_toArray, List.set_cons_zero, List.set_cons_succ]
  refine mix_take (v := ?_) 2 rfl (by decide) (by kernel_rfl) (by kernel_rfl) (fun _ _ _ h => h) hS rfl ?_ ?_
  rotate_left
  · (intro w' hw'; first | (go_simp; done) | (go_simp; with_reducible rfl) | (obtain ⟨g1, g2, g3, g4⟩ := hw'.out; first | (go_simp; done) | (go_simp; with_reducible rfl)))
  simp only [Act.put, List.setIfInBounds_toArray, List.set_cons_zero, List.set_cons_succ]
  refine mix_take (v := ?_) 3 rfl (by decide) (by kernel_rfl) (by kernel_rfl) (fun _ _ _ h => h) hS rfl ?_ ?_
  rotate_left
  · (intro w' hw'; first | (go_simp; done) | (go_simp; with_reducible rfl) | (obtain ⟨g1, g2, g3, g4⟩ := hw'.out; first | (go_simp; done) | (go_simp; with_reducible rfl)))
  simp only [Act.put, List.setIfInBounds_toArray, List.set_cons_zero, List.set_cons_succ]
  refine mix_take (v := ?_) 4 rfl (by decide) (by kernel_rfl) (by kernel_rfl) (fun _ _ _ h => h) hS rfl ?_ ?_
  rotate_left
  · (intro w' hw'; first | (go_simp; done) | (go_simp; with_reducible rfl) | (obtain ⟨g1, g2, g3, g4⟩ := hw'.out; first | (go_simp; done) | (go_simp; with_reducible rfl)))
  simp only [Act.put, List.setIfInBounds_toArray, List.set_cons_zero, List.set_cons_succ]
  refine mix_take (v := ?_) 6 rfl (by decide) (by kernel_rfl) (by kernel_rfl) (fun _ _ _ h => h) hS rfl ?_ ?_
  rotate_left
  · (intro w' hw'; first | (go_simp; done) | (go_simp; with_reducible rfl) | (obtain ⟨g1, g2, g3, g4⟩ := hw'.out; first | (go_simp; done) | (go_simp; with_reducible rfl)))
  simp only [Act.put, List.setIfInBounds_toArray, List.set_cons_zero, List.set_cons_succ]
  refine mix_take (v := ?_) 9 rfl (by decide) (by kernel_rfl) (by kernel_rfl) (fun _ _ _ h => h) hS rfl ?_ ?_
  rotate_left
  · (intro w' hw'; first | (go_simp; done) | (go_simp; with_reducible rfl) | (obtain ⟨g1, g2, g3, g4⟩ := hw'.out; first | (go_simp; done) | (go_simp; with_reducible rfl)))
  simp only [Act.put, List.setIfInBounds_toArray, List.set_cons_zero, List.set_cons_succ]
  refine mix_take (v := ?_) 10 rfl (by decide) (by kernel_rfl) (by kernel_rfl) (fun _ _ _ h => h) hS rfl ?_ ?_
  rotate_left
  · (intro w' hw'; first | (go_simp; done) | (go_simp; with_reducible rfl) | (obtain ⟨g1, g2, g3, g4⟩ := hw'.out; first | (go_simp; done) | (go_simp; with_reducible rfl)))
  simp only [Act.put, List.setIfInBounds_toArray, List.set_cons_zero, List.set_cons_succ]
  refine mix_take (v := ?_) 11 rfl (by decide) (by kernel_rfl) (by kernel_rfl) (fun _ _ _ h => h) hS rfl ?_ ?_
  rotate_left
  · (intro w' hw'; first | (go_simp; done) | (go_simp; with_reducible rfl) | (obtain ⟨g1, g2, g3, g4⟩ := hw'.out; first | (go_simp; done) | (go_simp; with_reducible rfl)))
  simp only [Act.put, List.setIfInBounds_toArray, List.set_cons_zero, List.set_cons_succ]
  refine mix_take (v := ?_) 12 rfl (by decide) (by kernel_rfl) (by kernel_rfl) (fun _ _ _ h => h) hS rfl ?_ ?_
  rotate_left
  · (intro w' hw'; first | (go_simp; done) | (go_simp; with_reducible rfl) | (obtain ⟨g1, g2, g3, g4⟩ := hw'.out; first | (go_simp; done) | (go_simp; with_reducible rfl)))
  simp only [Act.put, List.setIfInBounds_toArray, List.set_cons_zero, List.set_cons_succ]
  refine mix_take (v := ?_) 13 rfl (by decide) (by kernel_rfl) (by kernel_rfl) (fun _ _ _ h => h) hS rfl ?_ ?_
  rotate_left
  · (intro w' hw'; first | (go_simp; done) | (go_simp; with_reducible rfl) | (obtain ⟨g1, g2, g3, g4⟩ := hw'.out; first | (go_simp; done) | (go_simp; with_reducible rfl)))
  simp only [Act.put, List.setIfInBounds_toArray, List.set_cons_zero, List.set_cons_succ]
  refine mix_take (v := ?_) 14 rfl (by decide) (by kernel_rfl) (by kernel_rfl) (fun _ _ _ h => h) hS rfl ?_ ?_
  rotate_left
  · (intro w' hw'; first | (go_simp; done) | (go_simp; with_reducible rfl) | (obtain ⟨g1, g2, g3, g4⟩ := hw'.out; first | (go_simp; done) | (go_simp; with_reducible rfl)))
  simp only [Act.put, List.setIfInBounds_toArray, List.set_cons_zero, List.set_cons_succ]
  refine mix_step 5 rfl (by decide) (by kernel_rfl) ?_
  have g := hS.out
  go_wp2_with fail
  refine mix_out (Held.mk g) (fun hS => ?_)
  refine mix_take (v := ?_) 7 rfl (by decide) (by kernel_rfl) (by kernel_rfl) (fun _ _ _ h => h) hS rfl ?_ ?_
  rotate_left
  · (intro w' hw'; first | (go_simp; done) | (go_simp; with_reducible rfl) | (obtain ⟨g1, g2, g3, g4⟩ := hw'.out; first | (go_simp; done) | (go_simp; with_reducible rfl)))
  simp only [Act.put, List.setIfInBounds_toArray, List.set_cons_zero, List.set_cons_succ]
  refine mix_step 8 rfl (by decide) (by kernel_rfl) ?_
  have hz := below_drew w
  have hp0 := (IsB_pre h.b0 (m := many.toNat) (c := c0) hle2 hle3 (Nat.le_refl _)).later hz
  go_wp2_with fail
  refine (clone_c a0 many.toNat c0 _ (by omega) _ hp0).mono ?_
  rintro e w3 ⟨v3, rfl, ho3, hb3⟩
  obtain ⟨a3, c3, rfl, hs3⟩ := ho3.slice
  rw [htl] at hs3
  have hd := h.later (below_then hz hb3)
  have hne3 : ∀ ad', a3 = some ad' → 0 < c3 → ad'.block ≠ b := fun ad' had _ => by have h1 := own_block ho3 ad' had; have h2 := h.lt; simp only [World.size_drew] at h1; omega
  go_wp2_with fail
  refine mix_out (Held.mk ⟨below_cell hb3 g.1, below_cell hb3 g.2.1, below_cell hb3 g.2.2.1, grown_of_below (below_then hz hb3)⟩) (fun hS => ?_)
  refine mix_take (v := ?_) 15 rfl (by decide) (by kernel_rfl) (by kernel_rfl) (fun _ _ _ h => h) hS rfl ?_ ?_
  rotate_left
  · (intro w' hw'; first | (go_simp; done) | (go_simp; with_reducible rfl) | (obtain ⟨g1, g2, g3, g4⟩ := hw'.out; first | (go_simp; done) | (go_simp; with_reducible rfl)))
  simp only [Act.put, List.setIfInBounds_toArray, List.set_cons_zero, List.set_cons_succ]
  refine mix_take (v := ?_) 16 rfl (by decide) (by kernel_rfl) (by kernel_rfl) (fun _ _ _ h => h) hS rfl ?_ ?_
  rotate_left
  · (intro w' hw'; first | (go_simp; done) | (go_simp; with_reducible rfl) | (obtain ⟨g1, g2, g3, g4⟩ := hw'.out; first | (go_simp; done) | (go_simp; with_reducible rfl)))
  simp only [Act.put, List.setIfInBounds_toArray, List.set_cons_zero, List.set_cons_succ]
  refine mix_step 17 rfl (by decide) (by kernel_rfl) ?_
  have g3 := hS.out
  have hf2 := hd.fz 3
  have hg3 := hd.g3
  have hd4 := hd.f0 hs3 hne3
  go_wp2_with fail
  refine mix_out (Held.mk ⟨by go_simp, by go_simp, hd4.g4, grown_trans g3.2.2.2 (grown_set _ _ _ _)⟩) (fun hS => ?_)
  refine mix_done (by kernel_rfl) ?_
  simp only [List.drop_succ_cons, List.drop_zero]
  have hf4 := hd4.fz 4
  have hg4 := hd4.g4
  go_wp2_with fail
  go_end0
  exact ⟨rfl, (hd4.n0 _).isD, grown_trans hS.out.2.2.2 (grown_set _ _ _ _)⟩
set_option maxRecDepth 100000 in
set_option maxHeartbeats 1000000 in
theorem cut_do1 (b Bf Bm : Nat) (s : DS) (many : Int) (w : World) (h : IsD w b s) (hcf : w.cell? ⟨Bf, 0, none⟩ = some (.pointer (some ⟨b, 5, none⟩))) (hcm : w.cell? ⟨Bm, 0, none⟩ = some (.int .i64 many))
    (hm : 0 ≤ many) (hmf : many ≤ (s.f1.length : Int)) (hbig : s.f1.length ≤ 2 ^ 40) :
    Calls Try.prog 57 #[.pointer (some ⟨Bf, 0, none⟩), .pointer (some ⟨Bm, 0, none⟩)] w fun e w' => e = .returned (.tuple #[]) ∧ IsD w' b ((s.setF 1 ((s.fl 1).take many.toNat)).setN 1 (min many.toNat (s.la 1))) ∧ w.grownBy w' (some b) := by
  obtain ⟨a0, l0, c0, a1, l1, c1, h⟩ := h
  have hg := h.g5
  have hge := h.g6
  have hlen := h.b1.len
  have hlc := h.b1.le
  have hle2 : many.toNat ≤ l1 := by omega
  have hle3 : many.toNat ≤ c1 := by omega
  have hmc : many ≤ (c1 : Int) := by omega
  have htl : (s.f1.take many.toNat).length = many.toNat := by rw [List.length_take]; omega
  have hmin : (if (s.n1 : Int) < many then (s.n1 : Int) else many) = ((min many.toNat s.n1 : Nat) : Int) := by split <;> omega
  have HL := Lib.hid hlen; clear hlen
  go_enter Try.func57, Try.ntmps57
  go_wp2_with fail
  refine mix_begin 18 (Held fun w' => w'.cell? ⟨Bf, 0, none⟩ = some (.pointer (some ⟨b, 5, none⟩)) ∧ w'.cell? ⟨Bm, 0, none⟩ = some (.int .i64 many) ∧ w'.cell? ⟨b, 6, none⟩ = some (.int .i64 (s.n1 : Int)) ∧ w.grownBy w' (some b)) (by kernel_rfl) (by kernel_rfl) (Held.mk ⟨hcf, hcm, hge, grown_of_below (below_drew w)⟩) (fun hS => ?_)
  refine mix_take (v := ?_) 0 rfl (by decide) (by kernel_rfl) (by kernel_rfl) (fun _ _ _ h => h) hS rfl ?_ ?_
  rotate_left
  · (intro w' hw'; first | (go_simp; done) | (go_simp; with_reducible rfl) | (obtain ⟨g1, g2, g3, g4⟩ := hw'.out; first | (go_simp; done) | (go_simp; with_reducible rfl)))
  simp only [Act.put, List.setIfInBounds_toArray, List.set_cons_zero, List.set_cons_succ]
  refine mix_take (v := ?_) 1 rfl (by decide) (by kernel_rfl) (by kernel_rfl) (fun _ _ _ h => h) hS rfl ?_ ?_
  rotate_left
  · (intro w' hw'; first | (go_simp; done) | (go_simp; with_reducible rfl) | (obtain ⟨g1, g2, g3, g4⟩ := hw'.out; first | (go_simp; done) | (go_simp; with_reducible rfl)))
  simp only [Act.put, List.setIfInBounds_toArray, List.set_cons_zero, List.set_cons_succ]
  refine mix_take (v := ?_) 2 rfl (by decide) (by kernel_rfl) (by kernel_rfl) (fun _ _ _ h => h) hS rfl ?_ ?_
  rotate_left
  · (intro w' hw'; first | (go_simp; done) | (go_simp; with_reducible rfl) | (obtain ⟨g1, g2, g3, g4⟩ := hw'.out; first | (go_simp; done) | (go_simp; with_reducible rfl)))
  simp only [Act.put, List.setIfInBounds_toArray, List.set_cons_zero, List.set_cons_succ]
  refine mix_take (v := ?_) 3 rfl (by decide) (by kernel_rfl) (by kernel_rfl) (fun _ _ _ h => h) hS rfl ?_ ?_
  rotate_left
  · (intro w' hw'; first | (go_simp; done) | (go_simp; with_reducible rfl) | (obtain ⟨g1, g2, g3, g4⟩ := hw'.out; first | (go_simp; done) | (go_simp; with_reducible rfl)))
  simp only [Act.put, List.setIfInBounds_toArray, List.set_cons_zero, List.set_cons_succ]
  refine mix_take (v := ?_) 4 rfl (by decide) (by kernel_rfl) (by kernel_rfl) (fun _ _ _ h => h) hS rfl ?_ ?_
  rotate_left
  · (intro w' hw'; first | (go_simp; done) | (go_simp; with_reducible rfl) | (obtain ⟨g1, g2, g3, g4⟩ := hw'.out; first | (go_simp; done) | (go_simp; with_reducible rfl)))
  simp only [Act.put, List.setIfInBounds_toArray, List.set_cons_zero, List.set_cons_succ]
  refine mix_take (v := ?_) 6 rfl (by decide) (by kernel_rfl) (by kernel_rfl) (fun _ _ _ h => h) hS rfl ?_ ?_
  rotate_left
  · (intro w' hw'; first | (go_simp; done) | (go_simp; with_reducible rfl) | (obtain ⟨g1, g2, g3, g4⟩ := hw'.out; first | (go_simp; done) | (go_simp; with_reducible rfl)))
  simp only [Act.put, List.setIfInBounds_toArray, List.set_cons_zero, List.set_cons_succ]
  refine mix_take (v := ?_) 9 rfl (by decide) (by kernel_rfl) (by kernel_rfl) (fun _ _ _ h => h) hS rfl ?_ ?_
  rotate_left
  · (intro w' hw'; first | (go_simp; done) | (go_simp; with_reducible rfl) | (obtain ⟨g1, g2, g3, g4⟩ := hw'.out; first | (go_simp; done) | (go_simp; with_reducible rfl)))
  simp only [Act.put, List.setIfInBounds_toArray, List.set_cons_zero, List.set_cons_succ]
  refine mix_take (v := ?_) 10 rfl (by decide) (by kernel_rfl) (by kernel_rfl) (fun _ _ _ h => h) hS rfl ?_ ?_
  rotate_left
  · (intro w' hw'; first | (go_simp; done) | (go_simp; with_reducible rfl) | (obtain ⟨g1, g2, g3, g4⟩ := hw'.out; first | (go_simp; done) | (go_simp; with_reducible rfl)))
  simp only [Act.put, List.setIfInBounds_toArray, List.set_cons_zero, List.set_cons_succ]
  refine mix_take (v := ?_) 11 rfl (by decide) (by kernel_rfl) (by kernel_rfl) (fun _ _ _ h => h) hS rfl ?_ ?_
  rotate_left
  · (intro w' hw'; first | (go_simp; done) | (go_simp; with_reducible rfl) | (obtain ⟨g1, g2, g3, g4⟩ := hw'.out; first | (go_simp; done) | (go_simp; with_reducible rfl)))
  simp only [Act.put, List.setIfInBounds_toArray, List.set_cons_zero, List.set_cons_succ]
  refine mix_take (v := ?_) 12 rfl (by decide) (by kernel_rfl) (by kernel_rfl) (fun _ _ _ h => h) hS rfl ?_ ?_
  rotate_left
  · (intro w' hw'; first | (go_simp; done) | (go_simp; with_reducible rfl) | (obtain ⟨g1, g2, g3, g4⟩ := hw'.out; first | (go_simp; done) | (go_simp; with_reducible rfl)))
  simp only [Act.put, List.setIfInBounds_toArray, List.set_cons_zero, List.set_cons_succ]
  refine mix_take (v := ?_) 13 rfl (by decide) (by kernel_rfl) (by kernel_rfl) (fun _ _ _ h => h) hS rfl ?_ ?_
  rotate_left
  · (intro w' hw'; first | (go_simp; done) | (go_simp; with_reducible rfl) | (obtain ⟨g1, g2, g3, g4⟩ := hw'.out; first | (go_simp; done) | (go_simp; with_reducible rfl)))
  simp only [Act.put, List.setIfInBounds_toArray, List.set_cons_zero, List.set_cons_succ]
  refine mix_take (v := ?_) 14 rfl (by decide) (by kernel_rfl) (by kernel_rfl) (fun _ _ _ h => h) hS rfl ?_ ?_
  rotate_left
  · (intro w' hw'; first | (go_simp; done) | (go_simp; with_reducible rfl) | (obtain ⟨g1, g2, g3, g4⟩ := hw'.out; first | (go_simp; done) | (go_simp; with_reducible rfl)))
  simp only [Act.put, List.setIfInBounds_toArray, List.set_cons_zero, List.set_cons_succ]
  refine mix_step 5 rfl (by decide) (by kernel_rfl) ?_
  have g := hS.out
  go_wp2_with fail
  refine mix_out (Held.mk g) (fun hS => ?_)
  refine mix_take (v := ?_) 7 rfl (by decide) (by kernel_rfl) (by kernel_rfl) (fun _ _ _ h => h) hS rfl ?_ ?_
  rotate_left
  · (intro w' hw'; first | (go_simp; done) | (go_simp; with_reducible rfl) | (obtain ⟨g1, g2, g3, g4⟩ := hw'.out; first | (go_simp; done) | (go_simp; with_reducible rfl)))
  simp only [Act.put, List.setIfInBounds_toArray, List.set_cons_zero, List.set_cons_succ]
  refine mix_step 8 rfl (by decide) (by kernel_rfl) ?_
  have hz := below_drew w
  have hp0 := (IsB_pre h.b1 (m := many.toNat) (c := c1) hle2 hle3 (Nat.le_refl _)).later hz
  go_wp2_with fail
  refine (clone_c a1 many.toNat c1 _ (by omega) _ hp0).mono ?_
  rintro e w3 ⟨v3, rfl, ho3, hb3⟩
  obtain ⟨a3, c3, rfl, hs3⟩ := ho3.slice
  rw [htl] at hs3
  have hd := h.later (below_then hz hb3)
  have hne3 : ∀ ad', a3 = some ad' → 0 < c3 → ad'.block ≠ b := fun ad' had _ => by have h1 := own_block ho3 ad' had; have h2 := h.lt; simp only [World.size_drew] at h1; omega
  go_wp2_with fail
  refine mix_out (Held.mk ⟨below_cell hb3 g.1, below_cell hb3 g.2.1, below_cell hb3 g.2.2.1, grown_of_below (below_then hz hb3)⟩) (fun hS => ?_)
  refine mix_take (v := ?_) 15 rfl (by decide) (by kernel_rfl) (by kernel_rfl) (fun _ _ _ h => h) hS rfl ?_ ?_
  rotate_left
  · (intro w' hw'; first | (go_simp; done) | (go_simp; with_reducible rfl) | (obtain ⟨g1, g2, g3, g4⟩ := hw'.out; first | (go_simp; done) | (go_simp; with_reducible rfl)))
  simp only [Act.put, List.setIfInBounds_toArray, List.set_cons_zero, List.set_cons_succ]
  refine mix_take (v := ?_) 16 rfl (by decide) (by kernel_rfl) (by kernel_rfl) (fun _ _ _ h => h) hS rfl ?_ ?_
  rotate_left
  · (intro w' hw'; first | (go_simp; done) | (go_simp; with_reducible rfl) | (obtain ⟨g1, g2, g3, g4⟩ := hw'.out; first | (go_simp; done) | (go_simp; with_reducible rfl)))
  simp only [Act.put, List.setIfInBounds_toArray, List.set_cons_zero, List.set_cons_succ]
  refine mix_step 17 rfl (by decide) (by kernel_rfl) ?_
  have g3 := hS.out
  have hf2 := hd.fz 5
  have hg3 := hd.g5
  have hd4 := hd.f1 hs3 hne3
  go_wp2_with fail
  refine mix_out (Held.mk ⟨by go_simp, by go_simp, hd4.g6, grown_trans g3.2.2.2 (grown_set _ _ _ _)⟩) (fun hS => ?_)
  refine mix_done (by kernel_rfl) ?_
  simp only [List.drop_succ_cons, List.drop_zero]
  have hf4 := hd4.fz 6
  have hg4 := hd4.g6
  go_wp2_with fail
  go_end0
  exact ⟨rfl, (hd4.n1 _).isD, grown_trans hS.out.2.2.2 (grown_set _ _ _ _)⟩
end Go.Proofs.Ytknndpncdnhnpaa
