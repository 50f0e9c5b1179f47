import Derived.Test.YtpobnbiakneoiaaDiskX
namespace Go.Proofs.Ytpobnbiakneoiaa
open Go.RowKit Go.Cas

set_option maxRecDepth 100000 in
set_option maxHeartbeats 1000000 in
theorem lasting_c0 (b : Nat) (s : DS) (w : World) (h : IsD w b s) : Calls Try.prog 21 #[.pointer (some ⟨b, 0, none⟩), .int .i64 0] w fun e w' =>
    e = .returned (.tuple #[.int .i64 (s.n0 : Int), .int .i64 0]) ∧ Below w.heap.size w w' := by
  have hA : firstA [(false, 1), (!fileOk 0, 2)] = 0 := by rfl
  have hat := at_c b s 0 _ (h.later (below_drew w)) (by decide) (by decide)
  have HH := Lib.hid h
  obtain ⟨a0, l0, c0, a1, l1, c1, hd⟩ := h
  have hg := hd.g4
  clear hd
  go_enter Try.func21, Try.ntmps21
  go_wp2_with fail
  refine mix_begin 10 (Held fun w' => w'.cell? ⟨b, 4, none⟩ = some (.int .i64 (s.n0 : Int)) ∧ Below w.heap.size w w') (by kernel_rfl) (by kernel_rfl) (Held.mk ⟨hg, below_drew w⟩) (fun hS => ?_)
  refine mix_take (v := ?_) 0 rfl (by decide) (by kernel_rfl) (by kernel_rfl) (fun _ _ _ h => h) hS rfl ?_ ?_
  rotate_left
  · (intro w' hw'; first | (go_simp; done) | (go_simp; with_reducible rfl) | (obtain ⟨g1, g2⟩ := hw'.out; first | (go_simp; done) | (go_simp; with_reducible rfl)))
  simp only [Act.put, List.setIfInBounds_toArray, List.set_cons_zero, List.set_cons_succ]
  refine mix_take (v := ?_) 1 rfl (by decide) (by kernel_rfl) (by kernel_rfl) (fun _ _ _ h => h) hS rfl ?_ ?_
  rotate_left
  · (intro w' hw'; first | (go_simp; done) | (go_simp; with_reducible rfl) | (obtain ⟨g1, g2⟩ := hw'.out; first | (go_simp; done) | (go_simp; with_reducible rfl)))
  simp only [Act.put, List.setIfInBounds_toArray, List.set_cons_zero, List.set_cons_succ]
  refine mix_take (v := ?_) 6 rfl (by decide) (by kernel_rfl) (by kernel_rfl) (fun _ _ _ h => h) hS rfl ?_ ?_
  rotate_left
  · (intro w' hw'; first | (go_simp; done) | (go_simp; with_reducible rfl) | (obtain ⟨g1, g2⟩ := hw'.out; first | (go_simp; done) | (go_simp; with_reducible rfl)))
  simp only [Act.put, List.setIfInBounds_toArray, List.set_cons_zero, List.set_cons_succ]
  refine mix_take (v := ?_) 7 rfl (by decide) (by kernel_rfl) (by kernel_rfl) (fun _ _ _ h => h) hS rfl ?_ ?_
  rotate_left
  · (intro w' hw'; first | (go_simp; done) | (go_simp; with_reducible rfl) | (obtain ⟨g1, g2⟩ := hw'.out; first | (go_simp; done) | (go_simp; with_reducible rfl)))
  simp only [Act.put, List.setIfInBounds_toArray, List.set_cons_zero, List.set_cons_succ]
  refine mix_step 2 rfl (by decide) (by kernel_rfl) ?_
  go_wp2_with fail
  refine hat.mono ?_
  rintro e w1 ⟨rfl, rfl⟩
  go_wp2_with fail
  refine mix_out (hS) (fun hS => ?_)
  refine mix_take (v := ?_) 3 rfl (by decide) (by kernel_rfl) (by kernel_rfl) (fun _ _ _ h => h) hS rfl ?_ ?_
  rotate_left
  · (intro w' hw'; first | (go_simp; done) | (go_simp; with_reducible rfl) | (obtain ⟨g1, g2⟩ := hw'.out; first | (go_simp; done) | (go_simp; with_reducible rfl)))
  simp only [Act.put, List.setIfInBounds_toArray, List.set_cons_zero, List.set_cons_succ]
  refine mix_take (v := ?_) 4 rfl (by decide) (by kernel_rfl) (by kernel_rfl) (fun _ _ _ h => h) hS rfl ?_ ?_
  rotate_left
  · (intro w' hw'; first | (go_simp; done) | (go_simp; with_reducible rfl) | (obtain ⟨g1, g2⟩ := hw'.out; first | (go_simp; done) | (go_simp; with_reducible rfl)))
  simp only [Act.put, List.setIfInBounds_toArray, List.set_cons_zero, List.set_cons_succ]
  refine mix_take (v := ?_) 5 rfl (by decide) (by kernel_rfl) (by kernel_rfl) (fun _ _ _ h => h) hS rfl ?_ ?_
  rotate_left
  · (intro w' hw'; first | (go_simp; done) | (go_simp; with_reducible rfl) | (obtain ⟨g1, g2⟩ := hw'.out; first | (go_simp; done) | (go_simp; with_reducible rfl)))
  simp only [Act.put, List.setIfInBounds_toArray, List.set_cons_zero, List.set_cons_succ]
  refine mix_step 8 rfl (by decide) (by kernel_rfl) ?_
  have g := hS.out
  go_wp2_with fail
  refine (of_c _ false 0 _ ((HH.out.later g.2).noneIs)).mono ?_
  rintro e w2 ⟨v2, rfl, ho2, hb2⟩
  obtain ⟨a2, ca2, rfl, hs2⟩ := ho2.slice
  go_wp2_with fail
  refine mix_out (Held.mk ⟨below_cell hb2 g.1, below_then g.2 hb2⟩) (fun hS => ?_)
  refine mix_step 9 rfl (by decide) (by kernel_rfl) ?_
  clear g
  have g := hS.out
  have hfi := first_c a2 2 ca2 _ (by decide) w2 rfl hs2
  rw [hA] at hfi
  go_wp2_with fail
  refine hfi.mono ?_
  rintro e w3 ⟨rfl, hb3⟩
  clear hfi
  go_wp2_with fail
  refine mix_out (Held.mk ⟨below_cell hb3 g.1, below_then g.2 hb3⟩) (fun hS => ?_)
  refine mix_done (by kernel_rfl) ?_
  simp only [List.drop_succ_cons, List.drop_zero]
  go_wp2_with fail
  go_ret2
  exact ⟨rfl, hS.out.2⟩
set_option maxRecDepth 100000 in
set_option maxHeartbeats 1000000 in
theorem lasting_c1 (b : Nat) (s : DS) (w : World) (h : IsD w b s) : Calls Try.prog 21 #[.pointer (some ⟨b, 0, none⟩), .int .i64 1] w fun e w' =>
    e = .returned (.tuple #[.int .i64 (s.n1 : Int), .int .i64 0]) ∧ Below w.heap.size w w' := by
  have hA : firstA [(false, 1), (!fileOk 1, 2)] = 0 := by rfl
  have hat := at_c b s 1 _ (h.later (below_drew w)) (by decide) (by decide)
  have HH := Lib.hid h
  obtain ⟨a0, l0, c0, a1, l1, c1, hd⟩ := h
  have hg := hd.g6
  clear hd
  go_enter Try.func21, Try.ntmps21
  go_wp2_with fail
  refine mix_begin 10 (Held fun w' => w'.cell? ⟨b, 6, none⟩ = some (.int .i64 (s.n1 : Int)) ∧ Below w.heap.size w w') (by kernel_rfl) (by kernel_rfl) (Held.mk ⟨hg, below_drew w⟩) (fun hS => ?_)
  refine mix_take (v := ?_) 0 rfl (by decide) (by kernel_rfl) (by kernel_rfl) (fun _ _ _ h => h) hS rfl ?_ ?_
  rotate_left
  · (intro w' hw'; first | (go_simp; done) | (go_simp; with_reducible rfl) | (obtain ⟨g1, g2⟩ := hw'.out; first | (go_simp; done) | (go_simp; with_reducible rfl)))
  simp only [Act.put, List.setIfInBounds_toArray, List.set_cons_zero, List.set_cons_succ]
  refine mix_take (v := ?_) 1 rfl (by decide) (by kernel_rfl) (by kernel_rfl) (fun _ _ _ h => h) hS rfl ?_ ?_
  rotate_left
  · (intro w' hw'; first | (go_simp; done) | (go_simp; with_reducible rfl) | (obtain ⟨g1, g2⟩ := hw'.out; first | (go_simp; done) | (go_simp; with_reducible rfl)))
  simp only [Act.put, List.setIfInBounds_toArray, List.set_cons_zero, List.set_cons_succ]
  refine mix_take (v := ?_) 6 rfl (by decide) (by kernel_rfl) (by kernel_rfl) (fun _ _ _ h => h) hS rfl ?_ ?_
  rotate_left
  · (intro w' hw'; first | (go_simp; done) | (go_simp; with_reducible rfl) | (obtain ⟨g1, g2⟩ := hw'.out; first | (go_simp; done) | (go_simp; with_reducible rfl)))
  simp only [Act.put, List.setIfInBounds_toArray, List.set_cons_zero, List.set_cons_succ]
  refine mix_take (v := ?_) 7 rfl (by decide) (by kernel_rfl) (by kernel_rfl) (fun _ _ _ h => h) hS rfl ?_ ?_
  rotate_left
  · (intro w' hw'; first | (go_simp; done) | (go_simp; with_reducible rfl) | (obtain ⟨g1, g2⟩ := hw'.out; first | (go_simp; done) | (go_simp; with_reducible rfl)))
  simp only [Act.put, List.setIfInBounds_toArray, List.set_cons_zero, List.set_cons_succ]
  refine mix_step 2 rfl (by decide) (by kernel_rfl) ?_
  go_wp2_with fail
  refine hat.mono ?_
  rintro e w1 ⟨rfl, rfl⟩
  go_wp2_with fail
  refine mix_out (hS) (fun hS => ?_)
  refine mix_take (v := ?_) 3 rfl (by decide) (by kernel_rfl) (by kernel_rfl) (fun _ _ _ h => h) hS rfl ?_ ?_
  rotate_left
  · (intro w' hw'; first | (go_simp; done) | (go_simp; with_reducible rfl) | (obtain ⟨g1, g2⟩ := hw'.out; first | (go_simp; done) | (go_simp; with_reducible rfl)))
  simp only [Act.put, List.setIfInBounds_toArray, List.set_cons_zero, List.set_cons_succ]
  refine mix_take (v := ?_) 4 rfl (by decide) (by kernel_rfl) (by kernel_rfl) (fun _ _ _ h => h) hS rfl ?_ ?_
  rotate_left
  · (intro w' hw'; first | (go_simp; done) | (go_simp; with_reducible rfl) | (obtain ⟨g1, g2⟩ := hw'.out; first | (go_simp; done) | (go_simp; with_reducible rfl)))
  simp only [Act.put, List.setIfInBounds_toArray, List.set_cons_zero, List.set_cons_succ]
  refine mix_take (v := ?_) 5 rfl (by decide) (by kernel_rfl) (by kernel_rfl) (fun _ _ _ h => h) hS rfl ?_ ?_
  rotate_left
  · (intro w' hw'; first | (go_simp; done) | (go_simp; with_reducible rfl) | (obtain ⟨g1, g2⟩ := hw'.out; first | (go_simp; done) | (go_simp; with_reducible rfl)))
  simp only [Act.put, List.setIfInBounds_toArray, List.set_cons_zero, List.set_cons_succ]
  refine mix_step 8 rfl (by decide) (by kernel_rfl) ?_
  have g := hS.out
  go_wp2_with fail
  refine (of_c _ false 1 _ ((HH.out.later g.2).noneIs)).mono ?_
  rintro e w2 ⟨v2, rfl, ho2, hb2⟩
  obtain ⟨a2, ca2, rfl, hs2⟩ := ho2.slice
  go_wp2_with fail
  refine mix_out (Held.mk ⟨below_cell hb2 g.1, below_then g.2 hb2⟩) (fun hS => ?_)
  refine mix_step 9 rfl (by decide) (by kernel_rfl) ?_
  clear g
  have g := hS.out
  have hfi := first_c a2 2 ca2 _ (by decide) w2 rfl hs2
  rw [hA] at hfi
  go_wp2_with fail
  refine hfi.mono ?_
  rintro e w3 ⟨rfl, hb3⟩
  clear hfi
  go_wp2_with fail
  refine mix_out (Held.mk ⟨below_cell hb3 g.1, below_then g.2 hb3⟩) (fun hS => ?_)
  refine mix_done (by kernel_rfl) ?_
  simp only [List.drop_succ_cons, List.drop_zero]
  go_wp2_with fail
  go_ret2
  exact ⟨rfl, hS.out.2⟩
end Go.Proofs.Ytpobnbiakneoiaa
