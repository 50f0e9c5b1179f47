import Derived.Test.YtpobnbiakneoiaaDiskK
import Derived.Test.YtpobnbiakneoiaaLeave
namespace Go.Proofs.Ytpobnbiakneoiaa
open Go.RowKit Go.Cas

/-! ### Read, Lasting -/
theorem fl_big {s : DS} (h : s.fine) (n : Int) : (s.fl n).length ≤ 2 ^ 40 := by
  unfold DS.fl
  split
  · exact h.2.2.1
  · exact h.2.2.2
set_option maxRecDepth 100000 in
theorem read_c (b : Nat) (s : DS) (n : Int) (w : World) (h : IsD w b s) (hf : s.fine) (hok : fileOk n = true) : Calls Try.prog 20 #[.pointer (some ⟨b, 0, none⟩), .int .i64 n] w fun e w' =>
    ∃ v, e = .returned (.tuple #[v, .int .i64 0]) ∧ OwnB w' w.heap.size 5 v (s.fl n) ∧ Below w.heap.size w w' := by
  have hbig := fl_big hf n
  have hr := (fileOk_iff n).1 hok
  have hA : firstA [(false, 1), (!fileOk n, 2)] = 0 := by simp [firstA, hok]
  rcases file_two hok with rfl | rfl
  · have hat := fun W (hW : IsD W b s) => at_c b s 0 W hW (by decide) (by decide)
    have HH := Lib.hid h; clear h
    have HB := Lib.hid hbig; clear hbig
    clear hr hok hf
    go_enter Try.func20, Try.ntmps20
    go_wp2_with fail
    refine (of_c _ false 0 _ HH.out.noneIs).mono ?_
    rintro e w2 ⟨v2, rfl, ho2, hb2⟩
    obtain ⟨a2, ca2, rfl, hs2⟩ := ho2.slice
    have hfi := first_c a2 2 ca2 _ (by decide) w2 rfl hs2
    rw [hA] at hfi
    have HF := Lib.hid hfi; clear hfi hA
    go_wp2_with fail
    refine HF.out.mono ?_
    rintro e w3 ⟨rfl, hb3⟩
    have hb := below_then hb2 hb3
    have h3 := HH.out.later hb
    have hat3 := hat w3 h3
    clear hat
    obtain ⟨a0, l0, c0, a1, l1, c1, hd⟩ := h3
    have hg := hd.g3
    have hlen := hd.b0.len
    go_wp2_with fail
    refine hat3.mono ?_
    rintro e w' ⟨rfl, rfl⟩
    have HL := Lib.hid hlen; clear hlen
    go_wp2_with fail
    refine (clone_c a0 l0 c0 _ (by rw [← HL.out]; exact HB.out) w3 hd.b0).mono ?_
    rintro e w4 ⟨v4, rfl, ho4, hb4⟩
    go_wp2_with fail
    go_ret2
    exact ⟨v4, rfl, ho4.mono hb.size, below_then hb hb4⟩
  · have hat := fun W (hW : IsD W b s) => at_c b s 1 W hW (by decide) (by decide)
    have HH := Lib.hid h; clear h
    have HB := Lib.hid hbig; clear hbig
    clear hr hok hf
    go_enter Try.func20, Try.ntmps20
    go_wp2_with fail
    refine (of_c _ false 1 _ HH.out.noneIs).mono ?_
    rintro e w2 ⟨v2, rfl, ho2, hb2⟩
    obtain ⟨a2, ca2, rfl, hs2⟩ := ho2.slice
    have hfi := first_c a2 2 ca2 _ (by decide) w2 rfl hs2
    rw [hA] at hfi
    have HF := Lib.hid hfi; clear hfi hA
    go_wp2_with fail
    refine HF.out.mono ?_
    rintro e w3 ⟨rfl, hb3⟩
    have hb := below_then hb2 hb3
    have h3 := HH.out.later hb
    have hat3 := hat w3 h3
    clear hat
    obtain ⟨a0, l0, c0, a1, l1, c1, hd⟩ := h3
    have hg := hd.g5
    have hlen := hd.b1.len
    go_wp2_with fail
    refine hat3.mono ?_
    rintro e w' ⟨rfl, rfl⟩
    have HL := Lib.hid hlen; clear hlen
    go_wp2_with fail
    refine (clone_c a1 l1 c1 _ (by rw [← HL.out]; exact HB.out) w3 hd.b1).mono ?_
    rintro e w4 ⟨v4, rfl, ho4, hb4⟩
    go_wp2_with fail
    go_ret2
    exact ⟨v4, rfl, ho4.mono hb.size, below_then hb hb4⟩
theorem read_no (v : Value) (bo : Bool) (n : Int) (w : World) (h : NoneIs w v bo) (hbad : bo = true ∨ fileOk n = false) : Calls Try.prog 20 #[v, .int .i64 n] w fun e w' =>
    e = .returned (.tuple #[.slice none 0 0, .int .i64 (errOf bo)]) ∧ Below w.heap.size w w' := by
  obtain ⟨p, rfl⟩ := h.ptr
  have hA := firstA_err bo n hbad []
  rw [List.append_nil] at hA
  have hne := errOf_ne bo
  have hne2 : (errOf bo != 0) = true := by simpa using hne
  have HH := Lib.hid h; clear h
  go_enter Try.func20, Try.ntmps20
  go_wp2_with fail
  refine (of_c _ bo n _ HH.out).mono ?_
  rintro e w2 ⟨v2, rfl, ho2, hb2⟩
  obtain ⟨a2, ca2, rfl, hs2⟩ := ho2.slice
  have hfi := first_c a2 2 ca2 _ (by decide) w2 rfl hs2
  rw [hA] at hfi
  have HF := Lib.hid hfi; clear hfi
  go_wp2_with fail
  refine HF.out.mono ?_
  rintro e w3 ⟨rfl, hb3⟩
  go_wp2_with fail
  go_ret2
  exact ⟨rfl, below_then hb2 hb3⟩
set_option maxRecDepth 100000 in
set_option maxHeartbeats 1000000 in
theorem lasting_no (v : Value) (bo : Bool) (n : Int) (w : World) (h : NoneIs w v bo) (hbad : bo = true ∨ fileOk n = false) : Calls Try.prog 21 #[v, .int .i64 n] w fun e w' =>
    e = .returned (.tuple #[.int .i64 0, .int .i64 (errOf bo)]) ∧ Below w.heap.size w w' := by
  obtain ⟨p, rfl⟩ := h.ptr
  have hA := firstA_err bo n hbad []
  rw [List.append_nil] at hA
  have hat := at_no _ bo n _ (h.later (below_drew w)) (bad_file hbad)
  have HH := Lib.hid h; clear h
  go_enter Try.func21, Try.ntmps21
  go_wp2_with fail
  refine mix_begin 10 (Held fun w' => Below w.heap.size w w') (by kernel_rfl) (by kernel_rfl) (Held.mk (below_drew w)) (fun hS => ?_)
  refine mix_take (v := ?_) 0 rfl (by decide) (by kernel_rfl) (by kernel_rfl) (fun _ _ _ h => h) hS rfl ?_ ?_
  rotate_left
  · (intro w' hw'; first | (go_simp; done) | (go_simp; with_reducible rfl) | (obtain ⟨g1⟩ := hw'.out; first | (go_simp; done) | (go_simp; with_reducible rfl)))
  simp only [Act.put, List.setIfInBounds_toArray, List.set_cons_zero, List.set_cons_succ]
  refine mix_take (v := ?_) 1 rfl (by decide) (by kernel_rfl) (by kernel_rfl) (fun _ _ _ h => h) hS rfl ?_ ?_
  rotate_left
  · (intro w' hw'; first | (go_simp; done) | (go_simp; with_reducible rfl) | (obtain ⟨g1⟩ := hw'.out; first | (go_simp; done) | (go_simp; with_reducible rfl)))
  simp only [Act.put, List.setIfInBounds_toArray, List.set_cons_zero, List.set_cons_succ]
  refine mix_take (v := ?_) 6 rfl (by decide) (by kernel_rfl) (by kernel_rfl) (fun _ _ _ h => h) hS rfl ?_ ?_
  rotate_left
  · (intro w' hw'; first | (go_simp; done) | (go_simp; with_reducible rfl) | (obtain ⟨g1⟩ := hw'.out; first | (go_simp; done) | (go_simp; with_reducible rfl)))
  simp only [Act.put, List.setIfInBounds_toArray, List.set_cons_zero, List.set_cons_succ]
  refine mix_take (v := ?_) 7 rfl (by decide) (by kernel_rfl) (by kernel_rfl) (fun _ _ _ h => h) hS rfl ?_ ?_
  rotate_left
  · (intro w' hw'; first | (go_simp; done) | (go_simp; with_reducible rfl) | (obtain ⟨g1⟩ := hw'.out; first | (go_simp; done) | (go_simp; with_reducible rfl)))
  simp only [Act.put, List.setIfInBounds_toArray, List.set_cons_zero, List.set_cons_succ]
  refine mix_step 2 rfl (by decide) (by kernel_rfl) ?_
  go_wp2_with fail
  refine hat.mono ?_
  rintro e w1 ⟨rfl, hw1⟩
  have hb1 : Below w.drew.heap.size w.drew w1 := by rw [← hw1]; exact below_alloc _ _
  have hc1 : w1.cell? ⟨w.heap.size, 1, none⟩ = some (.int .i64 0) := by
    rw [← hw1]
    have := heap_alloc_new w.drew (.cells #[.slice none 0 0, .int .i64 0] 55)
    simp only [World.cell?]
    rw [show w.heap.size = w.drew.heap.size from rfl, this]
    rfl
  clear hw1
  go_wp2_with fail
  refine mix_out (Held.mk (below_then (below_drew w) hb1)) (fun hS => ?_)
  refine mix_take (v := ?_) 3 rfl (by decide) (by kernel_rfl) (by kernel_rfl) (fun _ _ _ h => h) hS rfl ?_ ?_
  rotate_left
  · (intro w' hw'; first | (go_simp; done) | (go_simp; with_reducible rfl) | (obtain ⟨g1⟩ := hw'.out; first | (go_simp; done) | (go_simp; with_reducible rfl)))
  simp only [Act.put, List.setIfInBounds_toArray, List.set_cons_zero, List.set_cons_succ]
  refine mix_take (v := ?_) 4 rfl (by decide) (by kernel_rfl) (by kernel_rfl) (fun _ _ _ h => h) hS rfl ?_ ?_
  rotate_left
  · (intro w' hw'; first | (go_simp; done) | (go_simp; with_reducible rfl) | (obtain ⟨g1⟩ := hw'.out; first | (go_simp; done) | (go_simp; with_reducible rfl)))
  simp only [Act.put, List.setIfInBounds_toArray, List.set_cons_zero, List.set_cons_succ]
  refine mix_two 5 8 rfl rfl (by decide) (by decide) (by kernel_rfl) ?_ ?_
  · have hcl := hc1
    go_wp2_with fail
    refine mix_out (hS) (fun hS => ?_)
    refine mix_step 8 rfl (by decide) (by kernel_rfl) ?_
    have g := hS.out
    go_wp2_with fail
    refine (of_c _ bo n _ (HH.out.later g)).mono ?_
    rintro e w2 ⟨v2, rfl, ho2, hb2⟩
    obtain ⟨a2, ca2, rfl, hs2⟩ := ho2.slice
    have hc2 := below_cell hb2 hc1
    go_wp2_with fail
    refine mix_out (Held.mk (below_then g hb2)) (fun hS => ?_)
    refine mix_step 9 rfl (by decide) (by kernel_rfl) ?_
    clear g
    have g := hS.out
    have hfi := first_c a2 2 ca2 _ (by decide) w2 rfl hs2
    rw [hA] at hfi
    go_wp2_with fail
    refine hfi.mono ?_
    rintro e w3 ⟨rfl, hb3⟩
    clear hfi
    have hc3 := below_cell hb3 hc2
    go_wp2_with fail
    refine mix_out (Held.mk (below_then g hb3)) (fun hS => ?_)
    refine mix_done (by kernel_rfl) ?_
    simp only [List.drop_succ_cons, List.drop_zero]
    go_wp2_with fail
    go_ret2
    exact ⟨rfl, hS.out⟩
  · have g := hS.out
    go_wp2_with fail
    refine (of_c _ bo n _ (HH.out.later g)).mono ?_
    rintro e w2 ⟨v2, rfl, ho2, hb2⟩
    obtain ⟨a2, ca2, rfl, hs2⟩ := ho2.slice
    have hc2 := below_cell hb2 hc1
    go_wp2_with fail
    refine mix_out (Held.mk (below_then g hb2)) (fun hS => ?_)
    refine mix_two 5 9 rfl rfl (by decide) (by decide) (by kernel_rfl) ?_ ?_
    · have hcl := hc2
      go_wp2_with fail
      refine mix_out (hS) (fun hS => ?_)
      refine mix_step 9 rfl (by decide) (by kernel_rfl) ?_
      clear g
      have g := hS.out
      have hfi := first_c a2 2 ca2 _ (by decide) w2 rfl hs2
      rw [hA] at hfi
      go_wp2_with fail
      refine hfi.mono ?_
      rintro e w3 ⟨rfl, hb3⟩
      clear hfi
      have hc3 := below_cell hb3 hc2
      go_wp2_with fail
      refine mix_out (Held.mk (below_then g hb3)) (fun hS => ?_)
      refine mix_done (by kernel_rfl) ?_
      simp only [List.drop_succ_cons, List.drop_zero]
      go_wp2_with fail
      go_ret2
      exact ⟨rfl, hS.out⟩
    · clear g
      have g := hS.out
      have hfi := first_c a2 2 ca2 _ (by decide) w2 rfl hs2
      rw [hA] at hfi
      go_wp2_with fail
      refine hfi.mono ?_
      rintro e w3 ⟨rfl, hb3⟩
      clear hfi
      have hc3 := below_cell hb3 hc2
      go_wp2_with fail
      refine mix_out (Held.mk (below_then g hb3)) (fun hS => ?_)
      refine mix_step 5 rfl (by decide) (by kernel_rfl) ?_
      have hcl := hc3
      go_wp2_with fail
      refine mix_out (hS) (fun hS => ?_)
      refine mix_done (by kernel_rfl) ?_
      simp only [List.drop_succ_cons, List.drop_zero]
      go_wp2_with fail
      go_ret2
      exact ⟨rfl, hS.out⟩
/-! ### Copy, Same, Bytes: of none -/
theorem copy_no (v : Value) (w : World) (h : NoD w v) : Calls Try.prog 17 #[v] w fun e w' => e = .returned (.pointer none) ∧ w = w' := by
  have hn := none_c _ _ _ h.noneIs
  obtain ⟨p, rfl⟩ := h.ptr
  go_enter Try.func17, Try.ntmps17
  go_wp2_with (go_at_call 50; refine hn.mono ?_; rintro e w' ⟨rfl, rfl⟩)
  go_ret
  exact ⟨rfl, rfl⟩
theorem same_none (v v' : Value) (w : World) (h : NoD w v) (h' : NoD w v') : Calls Try.prog 18 #[v, v'] w fun e w' => e = .returned (.bool true) ∧ w = w' := by
  have hn := none_c _ _ _ h.noneIs
  have hn' := none_c _ _ _ h'.noneIs
  obtain ⟨p, rfl⟩ := h.ptr
  obtain ⟨p', rfl⟩ := h'.ptr
  go_enter Try.func18, Try.ntmps18
  go_wp2_with fail
  refine hn.mono ?_
  rintro e w' ⟨rfl, rfl⟩
  go_wp2_with fail
  refine hn.mono ?_
  rintro e w' ⟨rfl, rfl⟩
  go_wp2_with fail
  refine hn'.mono ?_
  rintro e w' ⟨rfl, rfl⟩
  go_wp2_with fail
  go_ret
  exact ⟨rfl, rfl⟩
theorem same_one (v v' : Value) (w : World) (h : NoneIs w v false) (h' : NoD w v') : Calls Try.prog 18 #[v, v'] w fun e w' => e = .returned (.bool false) ∧ w = w' := by
  have hn := none_c _ _ _ h
  have hn' := none_c _ _ _ h'.noneIs
  obtain ⟨p, rfl⟩ := h.ptr
  obtain ⟨p', rfl⟩ := h'.ptr
  go_enter Try.func18, Try.ntmps18
  go_wp2_with fail
  refine hn.mono ?_
  rintro e w' ⟨rfl, rfl⟩
  go_wp2_with fail
  refine hn'.mono ?_
  rintro e w' ⟨rfl, rfl⟩
  go_wp2_with fail
  refine hn.mono ?_
  rintro e w' ⟨rfl, rfl⟩
  go_wp2_with fail
  go_ret
  exact ⟨rfl, rfl⟩
end Go.Proofs.Ytpobnbiakneoiaa
