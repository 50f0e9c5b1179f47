import Derived.Test.YtknndpncdnhnpaaDiskH
namespace Go.Proofs.Ytknndpncdnhnpaa
open Go.RowKit Go.Cas

theorem OwnA.mono {w : World} {base base' : Nat} {v : Value} {l : List (Bool × Int)} (h : OwnA w base v l) (hb : base' ≤ base) : OwnA w base' v l := ownsRow_mono h hb
theorem ask_new2 (w : World) (x : Bool) (y : Int) (x' : Bool) (y' : Int) : Sl (w.alloc (.cells #[.bool x, .int .i64 y, .bool x', .int .i64 y'] 88)) 2 (some ⟨w.heap.size, 0, none⟩) 2 2 (askV [(x, y), (x', y')]) := by
  refine ⟨rfl, Nat.le_refl _, by decide, (fun h => nomatch h), fun ad had _ => ?_⟩
  obtain rfl := Option.some.inj had
  exact ⟨rfl, _, _, _, heap_alloc_new w _, by simp, fun i hi => by simp [askV]⟩
set_option maxRecDepth 100000 in
set_option maxHeartbeats 2000000 in
theorem cut_no (v : Value) (bo : Bool) (n many : Int) (w : World) (h : NoneIs w v bo) (hbad : bo = true ∨ fileOk n = false) :
    Calls Try.prog 32 #[v, .int .i64 n, .int .i64 many] w fun e w' => e = .returned (.int .i64 (errOf bo)) ∧ Below w.heap.size w w' := by
  obtain ⟨p, rfl⟩ := h.ptr
  have hb0 := below_alloc w (.cells #[.int .i64 many] 3)
  have h0 := h.later hb0
  have hat := at_no _ bo n _ h0 (bad_file hbad)
  have HH := Lib.hid h0; clear h0 h
  have hA2 := firstA_err bo n hbad [(decide (many < 0), 2), (decide (0 < many), 4)]
  have hne := errOf_ne bo
  have HB := Lib.hid hbad; clear hbad
  go_enter Try.func32, Try.ntmps32
  go_wp2_with fail
  refine hat.mono ?_
  rintro e wx ⟨rfl, rfl⟩
  clear hat
  go_wp2_with fail
  obtain ⟨w1, hw1⟩ : ∃ w1, ((w.alloc (.cells #[.int .i64 many] 3)).alloc (.cells #[.slice none 0 0, .int .i64 0] 71)).alloc (.cells #[.pointer (some ⟨w.heap.size + 1, 0, none⟩)] 81) = w1 := ⟨_, rfl⟩
  have hb1 : Below (w.alloc (.cells #[.int .i64 many] 3)).heap.size (w.alloc (.cells #[.int .i64 many] 3)) w1 := by rw [← hw1]; exact below_then (below_alloc _ _) (below_alloc _ _)
  have hm1 : w1.cell? ⟨w.heap.size, 0, none⟩ = some (.int .i64 many) := below_cell hb1 (Box.new w _ _).cell
  have hq1 : w1.cell? ⟨w.heap.size + 1, 0, none⟩ = some (.slice none 0 0) := by
    rw [← hw1]
    refine below_cell (below_alloc _ _) ?_
    have := heap_alloc_new (w.alloc (.cells #[.int .i64 many] 3)) (.cells #[.slice none 0 0, .int .i64 0] 71)
    rw [World.size_alloc] at this
    simp only [World.cell?, this]
    rfl
  have hf1 : w1.cell? ⟨w.heap.size + 1 + 1, 0, none⟩ = some (.pointer (some ⟨w.heap.size + 1, 0, none⟩)) := by
    rw [← hw1]
    exact (Box.mk _ _ _ (by simp)).cell
  rw [hw1]
  have hz1 : w.heap.size + 3 = w1.heap.size := by rw [← hw1]; simp
  have HZ := Lib.hid hz1; clear hz1 hw1
  have h1 := HH.out.later hb1
  have HN := Lib.hid h1; clear h1
  refine mix_begin 18 (Held fun w' => w'.cell? ⟨w.heap.size, 0, none⟩ = some (.int .i64 many) ∧ w'.cell? ⟨w.heap.size + 1, 0, none⟩ = some (.slice none 0 0) ∧ w'.cell? ⟨w.heap.size + 1 + 1, 0, none⟩ = some (.pointer (some ⟨w.heap.size + 1, 0, none⟩)) ∧ Below w1.heap.size w1 w') (by kernel_rfl) (by kernel_rfl) (Held.mk ⟨hm1, hq1, hf1, below_drew _⟩) (fun hS => ?_)
  refine mix_take (v := ?_) 0 rfl (by decide) (by kernel_rfl) (by kernel_rfl) (fun _ _ _ h => h) hS rfl ?_ ?_
  rotate_left
  · (intro w' hw'; first | (go_simp; done) | (go_simp; with_reducible rfl) | (obtain ⟨g1, g2, g3, g4⟩ := hw'.out; first | (go_simp; done) | (go_simp; with_reducible rfl)))
  simp only [Act.put, List.setIfInBounds_toArray, List.set_cons_zero, List.set_cons_succ]
  refine mix_take (v := ?_) 1 rfl (by decide) (by kernel_rfl) (by kernel_rfl) (fun _ _ _ h => h) hS rfl ?_ ?_
  rotate_left
  · (intro w' hw'; first | (go_simp; done) | (go_simp; with_reducible rfl) | (obtain ⟨g1, g2, g3, g4⟩ := hw'.out; first | (go_simp; done) | (go_simp; with_reducible rfl)))
  simp only [Act.put, List.setIfInBounds_toArray, List.set_cons_zero, List.set_cons_succ]
  refine mix_take (v := ?_) 2 rfl (by decide) (by kernel_rfl) (by kernel_rfl) (fun _ _ _ h => h) hS rfl ?_ ?_
  rotate_left
  · (intro w' hw'; first | (go_simp; done) | (go_simp; with_reducible rfl) | (obtain ⟨g1, g2, g3, g4⟩ := hw'.out; first | (go_simp; done) | (go_simp; with_reducible rfl)))
  simp only [Act.put, List.setIfInBounds_toArray, List.set_cons_zero, List.set_cons_succ]
  refine mix_take (v := ?_) 3 rfl (by decide) (by kernel_rfl) (by kernel_rfl) (fun _ _ _ h => h) hS rfl ?_ ?_
  rotate_left
  · (intro w' hw'; first | (go_simp; done) | (go_simp; with_reducible rfl) | (obtain ⟨g1, g2, g3, g4⟩ := hw'.out; first | (go_simp; done) | (go_simp; with_reducible rfl)))
  simp only [Act.put, List.setIfInBounds_toArray, List.set_cons_zero, List.set_cons_succ]
  refine mix_take (v := ?_) 5 rfl (by decide) (by kernel_rfl) (by kernel_rfl) (fun _ _ _ h => h) hS rfl ?_ ?_
  rotate_left
  · (intro w' hw'; first | (go_simp; done) | (go_simp; with_reducible rfl) | (obtain ⟨g1, g2, g3, g4⟩ := hw'.out; first | (go_simp; done) | (go_simp; with_reducible rfl)))
  simp only [Act.put, List.setIfInBounds_toArray, List.set_cons_zero, List.set_cons_succ]
  refine mix_take (v := ?_) 6 rfl (by decide) (by kernel_rfl) (by kernel_rfl) (fun _ _ _ h => h) hS rfl ?_ ?_
  rotate_left
  · (intro w' hw'; first | (go_simp; done) | (go_simp; with_reducible rfl) | (obtain ⟨g1, g2, g3, g4⟩ := hw'.out; first | (go_simp; done) | (go_simp; with_reducible rfl)))
  simp only [Act.put, List.setIfInBounds_toArray, List.set_cons_zero, List.set_cons_succ]
  refine mix_take (v := ?_) 7 rfl (by decide) (by kernel_rfl) (by kernel_rfl) (fun _ _ _ h => h) hS rfl ?_ ?_
  rotate_left
  · (intro w' hw'; first | (go_simp; done) | (go_simp; with_reducible rfl) | (obtain ⟨g1, g2, g3, g4⟩ := hw'.out; first | (go_simp; done) | (go_simp; with_reducible rfl)))
  simp only [Act.put, List.setIfInBounds_toArray, List.set_cons_zero, List.set_cons_succ]
  refine mix_take (v := ?_) 8 rfl (by decide) (by kernel_rfl) (by kernel_rfl) (fun _ _ _ h => h) hS rfl ?_ ?_
  rotate_left
  · (intro w' hw'; first | (go_simp; done) | (go_simp; with_reducible rfl) | (obtain ⟨g1, g2, g3, g4⟩ := hw'.out; first | (go_simp; done) | (go_simp; with_reducible rfl)))
  simp only [Act.put, List.setIfInBounds_toArray, List.set_cons_zero, List.set_cons_succ]
  refine mix_take (v := ?_) 9 rfl (by decide) (by kernel_rfl) (by kernel_rfl) (fun _ _ _ h => h) hS rfl ?_ ?_
  rotate_left
  · (intro w' hw'; first | (go_simp; done) | (go_simp; with_reducible rfl) | (obtain ⟨g1, g2, g3, g4⟩ := hw'.out; first | (go_simp; done) | (go_simp; with_reducible rfl)))
  simp only [Act.put, List.setIfInBounds_toArray, List.set_cons_zero, List.set_cons_succ]
  refine mix_take (v := ?_) 10 rfl (by decide) (by kernel_rfl) (by kernel_rfl) (fun _ _ _ h => h) hS rfl ?_ ?_
  rotate_left
  · (intro w' hw'; first | (go_simp; done) | (go_simp; with_reducible rfl) | (obtain ⟨g1, g2, g3, g4⟩ := hw'.out; first | (go_simp; done) | (go_simp; with_reducible rfl)))
  simp only [Act.put, List.setIfInBounds_toArray, List.set_cons_zero, List.set_cons_succ]
  refine mix_take (v := ?_) 11 rfl (by decide) (by kernel_rfl) (by kernel_rfl) (fun _ _ _ h => h) hS rfl ?_ ?_
  rotate_left
  · (intro w' hw'; first | (go_simp; done) | (go_simp; with_reducible rfl) | (obtain ⟨g1, g2, g3, g4⟩ := hw'.out; first | (go_simp; done) | (go_simp; with_reducible rfl)))
  simp only [Act.put, List.setIfInBounds_toArray, List.set_cons_zero, List.set_cons_succ]
  refine mix_take (v := ?_) 12 rfl (by decide) (by kernel_rfl) (by kernel_rfl) (fun _ _ _ h => h) hS rfl ?_ ?_
  rotate_left
  · (intro w' hw'; first | (go_simp; done) | (go_simp; with_reducible rfl) | (obtain ⟨g1, g2, g3, g4⟩ := hw'.out; first | (go_simp; done) | (go_simp; with_reducible rfl)))
  simp only [Act.put, List.setIfInBounds_toArray, List.set_cons_zero, List.set_cons_succ]
  refine mix_take (v := ?_) 13 rfl (by decide) (by kernel_rfl) (by kernel_rfl) (fun _ _ _ h => h) hS rfl ?_ ?_
  rotate_left
  · (intro w' hw'; first | (go_simp; done) | (go_simp; with_reducible rfl) | (obtain ⟨g1, g2, g3, g4⟩ := hw'.out; first | (go_simp; done) | (go_simp; with_reducible rfl)))
  simp only [Act.put, List.setIfInBounds_toArray, List.set_cons_zero, List.set_cons_succ]
  refine mix_take (v := ?_) 14 rfl (by decide) (by kernel_rfl) (by kernel_rfl) (fun _ _ _ h => h) hS rfl ?_ ?_
  rotate_left
  · (intro w' hw'; first | (go_simp; done) | (go_simp; with_reducible rfl) | (obtain ⟨g1, g2, g3, g4⟩ := hw'.out; first | (go_simp; done) | (go_simp; with_reducible rfl)))
  simp only [Act.put, List.setIfInBounds_toArray, List.set_cons_zero, List.set_cons_succ]
  refine mix_take (v := ?_) 15 rfl (by decide) (by kernel_rfl) (by kernel_rfl) (fun _ _ _ h => h) hS rfl ?_ ?_
  rotate_left
  · (intro w' hw'; first | (go_simp; done) | (go_simp; with_reducible rfl) | (obtain ⟨g1, g2, g3, g4⟩ := hw'.out; first | (go_simp; done) | (go_simp; with_reducible rfl)))
  simp only [Act.put, List.setIfInBounds_toArray, List.set_cons_zero, List.set_cons_succ]
  refine mix_two 4 16 rfl rfl (by decide) (by decide) (by kernel_rfl) ?_ ?_
  · have g := hS.out
    go_wp2_with fail
    refine (of_c _ bo n _ (HN.out.later g.2.2.2)).mono ?_
    rintro e w3 ⟨v3, rfl, ho3, hb3⟩
    obtain ⟨a2, ca2, rfl, hs3⟩ := ho3.slice
    replace ho3 := ho3.mono (base' := w1.heap.size) g.2.2.2.size
    go_wp2_with fail
    refine mix_out (Held.mk ⟨below_cell hb3 g.1, below_cell hb3 g.2.1, below_cell hb3 g.2.2.1, below_then g.2.2.2 hb3⟩) (fun hS => ?_)
    refine mix_step 16 rfl (by decide) (by kernel_rfl) ?_
    clear g
    have g := hS.out
    have hbk := below_alloc w3 (.cells #[.bool (decide (many < 0)), .int .i64 2, .bool (decide (0 < many)), .int .i64 4] 88)
    have hnew := ask_new2 w3 (decide (many < 0)) 2 (decide (0 < many)) 4
    have ho4 := ho3.later hbk
    go_wp2_with fail
    refine mix_out (Held.mk ⟨below_cell hbk g.1, below_cell hbk g.2.1, below_cell hbk g.2.2.1, below_then g.2.2.2 hbk⟩) (fun hS => ?_)
    refine mix_step 17 rfl (by decide) (by kernel_rfl) ?_
    clear g
    have g := hS.out
    refine wpList_append_ask rfl _ _ rfl w1.heap.size a2 2 ca2 _ rfl ho4 _ 2 2 _ rfl hnew rfl rfl (by decide) g.2.2.2.size ?_
    intro a5 c5 w5 ho5 hb5
    go_wp2_with fail
    refine mix_out (Held.mk ⟨(hb5.cell (by have := HZ.out; show w.heap.size < _; omega)).trans g.1, (hb5.cell (by have := HZ.out; show w.heap.size + 1 < _; omega)).trans g.2.1, (hb5.cell (by have := HZ.out; show w.heap.size + 1 + 1 < _; omega)).trans g.2.2.1, g.2.2.2.trans hb5⟩) (fun hS => ?_)
    refine mix_done (by kernel_rfl) ?_
    simp only [List.drop_succ_cons, List.drop_zero]
    obtain ⟨hs5, -⟩ := ho5.sl
    have hact := fun dv => act_no (.pointer p) dv a5 4 c5 _ (by decide) w5 rfl hs5 (by rw [hA2]; exact hne)
    rw [hA2] at hact
    have HA := Lib.hid hact; clear hact
    go_wp2_with fail
    refine (HA.out _).mono ?_
    rintro e w6 ⟨rfl, hb6⟩
    go_wp2_with fail
    go_ret
    exact ⟨rfl, below_then (below_then hb0 (below_then hb1 hS.out.2.2.2)) hb6⟩
  · have g := hS.out
    have hbk := below_alloc w1.drew (.cells #[.bool (decide (many < 0)), .int .i64 2, .bool (decide (0 < many)), .int .i64 4] 88)
    have hnew := ask_new2 w1.drew (decide (many < 0)) 2 (decide (0 < many)) 4
    go_wp2_with fail
    refine mix_out (Held.mk ⟨below_cell hbk g.1, below_cell hbk g.2.1, below_cell hbk g.2.2.1, below_then g.2.2.2 hbk⟩) (fun hS => ?_)
    refine mix_step 4 rfl (by decide) (by kernel_rfl) ?_
    clear g
    have g := hS.out
    go_wp2_with fail
    refine (of_c _ bo n _ (HN.out.later g.2.2.2)).mono ?_
    rintro e w3 ⟨v3, rfl, ho3, hb3⟩
    obtain ⟨a2, ca2, rfl, hs3⟩ := ho3.slice
    replace ho3 := ho3.mono (base' := w1.heap.size) g.2.2.2.size
    have hnew2 := hnew.later hb3
    go_wp2_with fail
    refine mix_out (Held.mk ⟨below_cell hb3 g.1, below_cell hb3 g.2.1, below_cell hb3 g.2.2.1, below_then g.2.2.2 hb3⟩) (fun hS => ?_)
    refine mix_step 17 rfl (by decide) (by kernel_rfl) ?_
    clear g
    have g := hS.out
    refine wpList_append_ask rfl _ _ rfl w1.heap.size a2 2 ca2 _ rfl ho3 _ 2 2 _ rfl hnew2 rfl rfl (by decide) g.2.2.2.size ?_
    intro a5 c5 w5 ho5 hb5
    go_wp2_with fail
    refine mix_out (Held.mk ⟨(hb5.cell (by have := HZ.out; show w.heap.size < _; omega)).trans g.1, (hb5.cell (by have := HZ.out; show w.heap.size + 1 < _; omega)).trans g.2.1, (hb5.cell (by have := HZ.out; show w.heap.size + 1 + 1 < _; omega)).trans g.2.2.1, g.2.2.2.trans hb5⟩) (fun hS => ?_)
    refine mix_done (by kernel_rfl) ?_
    simp only [List.drop_succ_cons, List.drop_zero]
    obtain ⟨hs5, -⟩ := ho5.sl
    have hact := fun dv => act_no (.pointer p) dv a5 4 c5 _ (by decide) w5 rfl hs5 (by rw [hA2]; exact hne)
    rw [hA2] at hact
    have HA := Lib.hid hact; clear hact
    go_wp2_with fail
    refine (HA.out _).mono ?_
    rintro e w6 ⟨rfl, hb6⟩
    go_wp2_with fail
    go_ret
    exact ⟨rfl, below_then (below_then hb0 (below_then hb1 hS.out.2.2.2)) hb6⟩
end Go.Proofs.Ytknndpncdnhnpaa
