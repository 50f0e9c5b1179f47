import Derived.Test.YtknndpncdnhnpaaDiskI
namespace Go.Proofs.Ytknndpncdnhnpaa
open Go.RowKit Go.Cas

set_option maxRecDepth 100000 in
set_option maxHeartbeats 2000000 in
theorem crash_no (v : Value) (k0 k1 : Int) (w : World) (h : NoD w v) (hk : 0 ≤ k0) :
    Calls Try.prog 20 #[v, .agg #[.int .i64 k0, .int .i64 k1]] w fun e w' => e = .returned (.int .i64 1) ∧ Below w.heap.size w w' := by
  obtain ⟨p, rfl⟩ := h.ptr
  have HH := Lib.hid h; clear h
  have hk0 : decide (k0 < 0) = false := by simpa using hk
  go_enter Try.func20, Try.ntmps20
  go_wp2_with fail
  obtain ⟨w1, hw1⟩ : ∃ w1, w.alloc (.cells #[.int .i64 k0, .int .i64 k1] 36) = w1 := ⟨_, rfl⟩
  have hb1 : Below w.heap.size w w1 := by rw [← hw1]; exact below_alloc _ _
  have hc0 : w1.cell? ⟨w.heap.size, 0, none⟩ = some (.int .i64 k0) := by
    rw [← hw1]; have := heap_alloc_new w (.cells #[.int .i64 k0, .int .i64 k1] 36); simp only [World.cell?, this]; rfl
  have hc1 : w1.cell? ⟨w.heap.size, 1, none⟩ = some (.int .i64 k1) := by
    rw [← hw1]; have := heap_alloc_new w (.cells #[.int .i64 k0, .int .i64 k1] 36); simp only [World.cell?, this]; rfl
  rw [hw1]
  clear hw1
  refine mix_begin 14 (Held fun w' => w'.cell? ⟨w.heap.size, 0, none⟩ = some (.int .i64 k0) ∧ w'.cell? ⟨w.heap.size, 1, none⟩ = some (.int .i64 k1) ∧ Below w1.heap.size w1 w') (by kernel_rfl) (by kernel_rfl) (Held.mk ⟨hc0, hc1, below_drew _⟩) (fun hS => ?_)
  refine mix_take (v := ?_) 0 rfl (by decide) (by kernel_rfl) (by kernel_rfl) (fun _ _ _ h => h) hS rfl ?_ ?_
  rotate_left
  · (intro w' hw'; first | (go_simp; done) | (go_simp; with_reducible rfl) | (obtain ⟨g1, g2, g3⟩ := hw'.out; first | (go_simp; done) | (go_simp; with_reducible rfl)))
  simp only [Act.put, List.setIfInBounds_toArray, List.set_cons_zero, List.set_cons_succ]
  refine mix_take (v := ?_) 2 rfl (by decide) (by kernel_rfl) (by kernel_rfl) (fun _ _ _ h => h) hS rfl ?_ ?_
  rotate_left
  · (intro w' hw'; first | (go_simp; done) | (go_simp; with_reducible rfl) | (obtain ⟨g1, g2, g3⟩ := hw'.out; first | (go_simp; done) | (go_simp; with_reducible rfl)))
  simp only [Act.put, List.setIfInBounds_toArray, List.set_cons_zero, List.set_cons_succ]
  refine mix_take (v := ?_) 3 rfl (by decide) (by kernel_rfl) (by kernel_rfl) (fun _ _ _ h => h) hS rfl ?_ ?_
  rotate_left
  · (intro w' hw'; first | (go_simp; done) | (go_simp; with_reducible rfl) | (obtain ⟨g1, g2, g3⟩ := hw'.out; first | (go_simp; done) | (go_simp; with_reducible rfl)))
  simp only [Act.put, List.setIfInBounds_toArray, List.set_cons_zero, List.set_cons_succ]
  refine mix_take (v := ?_) 4 rfl (by decide) (by kernel_rfl) (by kernel_rfl) (fun _ _ _ h => h) hS rfl ?_ ?_
  rotate_left
  · (intro w' hw'; first | (go_simp; done) | (go_simp; with_reducible rfl) | (obtain ⟨g1, g2, g3⟩ := hw'.out; first | (go_simp; done) | (go_simp; with_reducible rfl)))
  simp only [Act.put, List.setIfInBounds_toArray, List.set_cons_zero, List.set_cons_succ]
  refine mix_step 1 rfl (by decide) (by kernel_rfl) ?_
  have g := hS.out
  go_wp2_with fail
  refine (of_c _ true 0 _ ((HH.out.later hb1).later g.2.2).noneIs).mono ?_
  rintro e w3 ⟨v3, rfl, ho3, hb3⟩
  obtain ⟨a2, ca2, rfl, hs3⟩ := ho3.slice
  replace ho3 := ho3.mono (base' := w1.heap.size) g.2.2.size
  go_wp2_with fail
  refine mix_out (Held.mk ⟨below_cell hb3 g.1, below_cell hb3 g.2.1, below_then g.2.2 hb3⟩) (fun hS => ?_)
  refine mix_take (v := ?_) 5 rfl (by decide) (by kernel_rfl) (by kernel_rfl) (fun _ _ _ h => h) hS rfl ?_ ?_
  rotate_left
  · (intro w' hw'; first | (go_simp; done) | (go_simp; with_reducible rfl) | (obtain ⟨g1, g2, g3⟩ := hw'.out; first | (go_simp; done) | (go_simp; with_reducible rfl)))
  simp only [Act.put, List.setIfInBounds_toArray, List.set_cons_zero, List.set_cons_succ]
  refine mix_take (v := ?_) 6 rfl (by decide) (by kernel_rfl) (by kernel_rfl) (fun _ _ _ h => h) hS rfl ?_ ?_
  rotate_left
  · (intro w' hw'; first | (go_simp; done) | (go_simp; with_reducible rfl) | (obtain ⟨g1, g2, g3⟩ := hw'.out; first | (go_simp; done) | (go_simp; with_reducible rfl)))
  simp only [Act.put, List.setIfInBounds_toArray, List.set_cons_zero, List.set_cons_succ]
  refine mix_take (v := ?_) 7 rfl (by decide) (by kernel_rfl) (by kernel_rfl) (fun _ _ _ h => h) hS rfl ?_ ?_
  rotate_left
  · (intro w' hw'; first | (go_simp; done) | (go_simp; with_reducible rfl) | (obtain ⟨g1, g2, g3⟩ := hw'.out; first | (go_simp; done) | (go_simp; with_reducible rfl)))
  simp only [Act.put, List.setIfInBounds_toArray, List.set_cons_zero, List.set_cons_succ]
  refine mix_take (v := ?_) 8 rfl (by decide) (by kernel_rfl) (by kernel_rfl) (fun _ _ _ h => h) hS rfl ?_ ?_
  rotate_left
  · (intro w' hw'; first | (go_simp; done) | (go_simp; with_reducible rfl) | (obtain ⟨g1, g2, g3⟩ := hw'.out; first | (go_simp; done) | (go_simp; with_reducible rfl)))
  simp only [Act.put, List.setIfInBounds_toArray, List.set_cons_zero, List.set_cons_succ]
  refine mix_take (v := ?_) 9 rfl (by decide) (by kernel_rfl) (by kernel_rfl) (fun _ _ _ h => h) hS rfl ?_ ?_
  rotate_left
  · (intro w' hw'; first | (go_simp; done) | (go_simp; with_reducible rfl) | (obtain ⟨g1, g2, g3⟩ := hw'.out; first | (go_simp; done) | (go_simp; with_reducible rfl)))
  simp only [Act.put, List.setIfInBounds_toArray, List.set_cons_zero, List.set_cons_succ]
  refine mix_take (v := ?_) 10 rfl (by decide) (by kernel_rfl) (by kernel_rfl) (fun _ _ _ h => h) hS rfl ?_ ?_
  rotate_left
  · (intro w' hw'; first | (go_simp; done) | (go_simp; with_reducible rfl) | (obtain ⟨g1, g2, g3⟩ := hw'.out; first | (go_simp; done) | (go_simp; with_reducible rfl)))
  simp only [Act.put, List.setIfInBounds_toArray, List.set_cons_zero, List.set_cons_succ]
  refine mix_step 11 rfl (by decide) (by kernel_rfl) ?_
  clear g
  have g := hS.out
  have hbk := below_alloc w3 (.cells #[.bool (decide (k1 < 0)), .int .i64 2] 88)
  have hnew := ask_new w3 (decide (k1 < 0)) 2
  have ho4 := ho3.later hbk
  go_wp2_with fail
  refine mix_out (Held.mk ⟨below_cell hbk g.1, below_cell hbk g.2.1, below_then g.2.2 hbk⟩) (fun hS => ?_)
  refine mix_step 12 rfl (by decide) (by kernel_rfl) ?_
  clear g
  have g := hS.out
  refine wpList_append_ask rfl _ _ rfl w1.heap.size a2 2 ca2 _ rfl ho4 _ 1 1 _ rfl hnew rfl rfl (by decide) g.2.2.size ?_
  intro a5 c5 w5 ho5 hb5
  go_wp2_with fail
  refine mix_out (Held.mk ⟨(hb5.cell (by have := hb1.size; have := World.block_lt_of_cell? w1 _ hc0; exact this)).trans g.1, (hb5.cell (by have := World.block_lt_of_cell? w1 _ hc1; exact this)).trans g.2.1, g.2.2.trans hb5⟩) (fun hS => ?_)
  refine mix_step 13 rfl (by decide) (by kernel_rfl) ?_
  clear g
  have g := hS.out
  obtain ⟨hs5, -⟩ := ho5.sl
  have hfi := first_c a5 3 c5 _ (by decide) w5 rfl hs5
  rw [show firstA ([(true, 1), (!fileOk 0, 2)] ++ [(decide (k1 < 0), 2)]) = 1 from rfl] at hfi
  go_wp2_with fail
  refine hfi.mono ?_
  rintro e w6 ⟨rfl, hb6⟩
  clear hfi
  go_wp2_with fail
  refine mix_out (Held.mk ⟨below_cell hb6 g.1, below_cell hb6 g.2.1, below_then g.2.2 hb6⟩) (fun hS => ?_)
  refine mix_done (by kernel_rfl) ?_
  simp only [List.drop_succ_cons, List.drop_zero]
  go_wp2_with fail
  go_ret
  exact ⟨rfl, below_then hb1 hS.out.2.2⟩
end Go.Proofs.Ytknndpncdnhnpaa
