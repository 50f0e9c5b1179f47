import Derived.Test.YtknndpncdnhnpaaDiskD
namespace Go.Proofs.Ytknndpncdnhnpaa
open Go.RowKit Go.Cas

theorem firstA1 (n : Int) : firstA [(true, 1), (!fileOk n, 2)] = 1 := rfl
theorem firstA2' (n : Int) (h : fileOk n = false) : firstA [(false, 1), (!fileOk n, 2)] = 2 := by simp [firstA, h]
/-! ### Sync -/
def DS.sync (s : DS) (n : Int) : DS × Int := if fileOk n = true then (if s.left = 0 then (s, 171) else (s.acted.setN n (s.fl n).length, 0)) else (s, 2)
set_option maxRecDepth 100000 in
theorem sync_do0 (b Bf : Nat) (s : DS) (w : World) (h : IsD w b s) (hc : w.cell? ⟨Bf, 0, none⟩ = some (.pointer (some ⟨b, 3, none⟩))) :
    Calls Try.prog 67 #[.pointer (some ⟨Bf, 0, none⟩)] w fun e w' => e = .returned (.tuple #[]) ∧ IsD w' b (s.setN 0 (s.fl 0).length) ∧ w.grownBy w' (some b) := by
  obtain ⟨a0, l0, c0, a1, l1, c1, h⟩ := h
  have hg := h.g3
  have hl := h.b0.len
  go_enter Try.func67, Try.ntmps67
  go_wp2_with fail
  refine mix_begin 6 (Held fun w' => w'.cell? ⟨Bf, 0, none⟩ = some (.pointer (some ⟨b, 3, none⟩)) ∧ w'.cell? ⟨b, 3, none⟩ = some (.slice a0 l0 c0)) (by kernel_rfl) (by kernel_rfl) (Held.mk ⟨hc, hg⟩) (fun hS => ?_)
  refine mix_take (v := ?_) 0 rfl (by decide) (by kernel_rfl) (by kernel_rfl) (fun _ _ _ h => h) hS rfl ?_ ?_
  rotate_left
  · (intro w' hw'; first | (go_simp; done) | (go_simp; with_reducible rfl) | (obtain ⟨g1, g2⟩ := hw'.out; first | (go_simp; done) | (go_simp; with_reducible rfl)))
  simp only [Act.put, List.setIfInBounds_toArray, List.set_cons_zero, List.set_cons_succ]
  refine mix_take (v := ?_) 1 rfl (by decide) (by kernel_rfl) (by kernel_rfl) (fun _ _ _ h => h) hS rfl ?_ ?_
  rotate_left
  · (intro w' hw'; first | (go_simp; done) | (go_simp; with_reducible rfl) | (obtain ⟨g1, g2⟩ := hw'.out; first | (go_simp; done) | (go_simp; with_reducible rfl)))
  simp only [Act.put, List.setIfInBounds_toArray, List.set_cons_zero, List.set_cons_succ]
  refine mix_take (v := ?_) 2 rfl (by decide) (by kernel_rfl) (by kernel_rfl) (fun _ _ _ h => h) hS rfl ?_ ?_
  rotate_left
  · (intro w' hw'; first | (go_simp; done) | (go_simp; with_reducible rfl) | (obtain ⟨g1, g2⟩ := hw'.out; first | (go_simp; done) | (go_simp; with_reducible rfl)))
  simp only [Act.put, List.setIfInBounds_toArray, List.set_cons_zero, List.set_cons_succ]
  refine mix_take (v := ?_) 3 rfl (by decide) (by kernel_rfl) (by kernel_rfl) (fun _ _ _ h => h) hS rfl ?_ ?_
  rotate_left
  · (intro w' hw'; first | (go_simp; done) | (go_simp; with_reducible rfl) | (obtain ⟨g1, g2⟩ := hw'.out; first | (go_simp; done) | (go_simp; with_reducible rfl)))
  simp only [Act.put, List.setIfInBounds_toArray, List.set_cons_zero, List.set_cons_succ]
  refine mix_take (v := ?_) 4 rfl (by decide) (by kernel_rfl) (by kernel_rfl) (fun _ _ _ h => h) hS rfl ?_ ?_
  rotate_left
  · (intro w' hw'; first | (go_simp; done) | (go_simp; with_reducible rfl) | (obtain ⟨g1, g2⟩ := hw'.out; first | (go_simp; done) | (go_simp; with_reducible rfl)))
  simp only [Act.put, List.setIfInBounds_toArray, List.set_cons_zero, List.set_cons_succ]
  refine mix_take (v := ?_) 5 rfl (by decide) (by kernel_rfl) (by kernel_rfl) (fun _ _ _ h => h) hS rfl ?_ ?_
  rotate_left
  · (intro w' hw'; first | (go_simp; done) | (go_simp; with_reducible rfl) | (obtain ⟨g1, g2⟩ := hw'.out; first | (go_simp; done) | (go_simp; with_reducible rfl)))
  simp only [Act.put, List.setIfInBounds_toArray, List.set_cons_zero, List.set_cons_succ]
  refine mix_done (by kernel_rfl) ?_
  simp only [List.drop_succ_cons, List.drop_zero]
  have hd := h.later (below_drew w)
  have hf2 := hd.fz 4
  have hg2 := hd.g4
  have HL := Lib.hid hl; clear hl
  go_wp2_with fail
  go_end0
  refine ⟨rfl, ?_, grown_trans (grown_of_below (below_drew w)) (grown_set _ _ _ _)⟩
  have := (hd.n0 l0).isD
  rw [← HL.out] at this
  exact HL.out ▸ this
set_option maxRecDepth 100000 in
theorem sync_do1 (b Bf : Nat) (s : DS) (w : World) (h : IsD w b s) (hc : w.cell? ⟨Bf, 0, none⟩ = some (.pointer (some ⟨b, 5, none⟩))) :
    Calls Try.prog 67 #[.pointer (some ⟨Bf, 0, none⟩)] w fun e w' => e = .returned (.tuple #[]) ∧ IsD w' b (s.setN 1 (s.fl 1).length) ∧ w.grownBy w' (some b) := by
  obtain ⟨a0, l0, c0, a1, l1, c1, h⟩ := h
  have hg := h.g5
  have hl := h.b1.len
  go_enter Try.func67, Try.ntmps67
  go_wp2_with fail
  refine mix_begin 6 (Held fun w' => w'.cell? ⟨Bf, 0, none⟩ = some (.pointer (some ⟨b, 5, none⟩)) ∧ w'.cell? ⟨b, 5, none⟩ = some (.slice a1 l1 c1)) (by kernel_rfl) (by kernel_rfl) (Held.mk ⟨hc, hg⟩) (fun hS => ?_)
  refine mix_take (v := ?_) 0 rfl (by decide) (by kernel_rfl) (by kernel_rfl) (fun _ _ _ h => h) hS rfl ?_ ?_
  rotate_left
  · (intro w' hw'; first | (go_simp; done) | (go_simp; with_reducible rfl) | (obtain ⟨g1, g2⟩ := hw'.out; first | (go_simp; done) | (go_simp; with_reducible rfl)))
  simp only [Act.put, List.setIfInBounds_toArray, List.set_cons_zero, List.set_cons_succ]
  refine mix_take (v := ?_) 1 rfl (by decide) (by kernel_rfl) (by kernel_rfl) (fun _ _ _ h => h) hS rfl ?_ ?_
  rotate_left
  · (intro w' hw'; first | (go_simp; done) | (go_simp; with_reducible rfl) | (obtain ⟨g1, g2⟩ := hw'.out; first | (go_simp; done) | (go_simp; with_reducible rfl)))
  simp only [Act.put, List.setIfInBounds_toArray, List.set_cons_zero, List.set_cons_succ]
  refine mix_take (v := ?_) 2 rfl (by decide) (by kernel_rfl) (by kernel_rfl) (fun _ _ _ h => h) hS rfl ?_ ?_
  rotate_left
  · (intro w' hw'; first | (go_simp; done) | (go_simp; with_reducible rfl) | (obtain ⟨g1, g2⟩ := hw'.out; first | (go_simp; done) | (go_simp; with_reducible rfl)))
  simp only [Act.put, List.setIfInBounds_toArray, List.set_cons_zero, List.set_cons_succ]
  refine mix_take (v := ?_) 3 rfl (by decide) (by kernel_rfl) (by kernel_rfl) (fun _ _ _ h => h) hS rfl ?_ ?_
  rotate_left
  · (intro w' hw'; first | (go_simp; done) | (go_simp; with_reducible rfl) | (obtain ⟨g1, g2⟩ := hw'.out; first | (go_simp; done) | (go_simp; with_reducible rfl)))
  simp only [Act.put, List.setIfInBounds_toArray, List.set_cons_zero, List.set_cons_succ]
  refine mix_take (v := ?_) 4 rfl (by decide) (by kernel_rfl) (by kernel_rfl) (fun _ _ _ h => h) hS rfl ?_ ?_
  rotate_left
  · (intro w' hw'; first | (go_simp; done) | (go_simp; with_reducible rfl) | (obtain ⟨g1, g2⟩ := hw'.out; first | (go_simp; done) | (go_simp; with_reducible rfl)))
  simp only [Act.put, List.setIfInBounds_toArray, List.set_cons_zero, List.set_cons_succ]
  refine mix_take (v := ?_) 5 rfl (by decide) (by kernel_rfl) (by kernel_rfl) (fun _ _ _ h => h) hS rfl ?_ ?_
  rotate_left
  · (intro w' hw'; first | (go_simp; done) | (go_simp; with_reducible rfl) | (obtain ⟨g1, g2⟩ := hw'.out; first | (go_simp; done) | (go_simp; with_reducible rfl)))
  simp only [Act.put, List.setIfInBounds_toArray, List.set_cons_zero, List.set_cons_succ]
  refine mix_done (by kernel_rfl) ?_
  simp only [List.drop_succ_cons, List.drop_zero]
  have hd := h.later (below_drew w)
  have hf2 := hd.fz 6
  have hg2 := hd.g6
  have HL := Lib.hid hl; clear hl
  go_wp2_with fail
  go_end0
  refine ⟨rfl, ?_, grown_trans (grown_of_below (below_drew w)) (grown_set _ _ _ _)⟩
  have := (hd.n1 l1).isD
  rw [← HL.out] at this
  exact HL.out ▸ this
set_option maxRecDepth 100000 in
theorem sync_c (b : Nat) (s : DS) (n : Int) (w : World) (h : IsD w b s) (hsl : LeftOk s.left) :
    Calls Try.prog 49 #[.pointer (some ⟨b, 0, none⟩), .int .i64 n] w fun e w' => e = .returned (.int .i64 (s.sync n).2) ∧ IsD w' b (s.sync n).1 ∧ w.grownBy w' (some b) := by
  have hblt := h.lt
  by_cases hok : fileOk n = true
  · rcases file_two hok with rfl | rfl
    · have hat := at_c b s 0 w h (by decide) (by decide)
      have hfin : ∀ (W : World) (a : Option Addr) (c : Nat), IsD W b s → W.cell? ⟨w.heap.size, 0, none⟩ = some (.pointer (some ⟨b, 3, none⟩)) → Sl W 2 a 2 c (askV [(false, 1), (!fileOk 0, 2)]) →
          Calls Try.prog 40 #[.pointer (some ⟨b, 0, none⟩), .func (.func 67) #[] #[.pointer (some ⟨w.heap.size, 0, none⟩)], .slice a 2 c] W fun e w' => e = .returned (.int .i64 (s.sync 0).2) ∧ IsD w' b (s.sync 0).1 ∧ W.grownBy w' (some b) := by
        intro W a c hW hc hs
        refine (act_c b s (s.acted.setN 0 (s.fl 0).length) 67 #[.pointer (some ⟨w.heap.size, 0, none⟩)] a 2 c _ (by decide) W hW hsl rfl hs (enters_of Try.func67 (by kernel_rfl) rfl) (fun _ _ w1 hd1 hg1 => sync_do0 b w.heap.size s.acted w1 hd1 (grown_cell hg1 hc (by omega)))).mono fun e w' ⟨he, h1, h2⟩ => ?_
        have h0 : firstA [(false, 1), (!fileOk 0, 2)] = 0 := rfl
        simp only [h0, ne_eq, not_true_eq_false, if_false] at he h1
        simp only [DS.sync, hok, if_true]
        by_cases hl : s.left = 0
        · simp only [hl, if_true] at he h1 ⊢; exact ⟨he, h1, h2⟩
        · simp only [hl, if_false] at he h1 ⊢; exact ⟨he, h1, h2⟩
      generalize s.sync 0 = X at *
      go_enter Try.func49, Try.ntmps49
      go_wp2_with fail
      refine hat.mono ?_
      rintro e w1 ⟨rfl, rfl⟩
      go_wp2_with fail
      have h1 := h.later (below_alloc w (.cells #[.pointer (some ⟨b, 3, none⟩)] 81))
      have hc1 := (Box.new w (.pointer (some ⟨b, 3, none⟩)) 81).cell
      have hb1 := below_alloc w (.cells #[.pointer (some ⟨b, 3, none⟩)] 81)
      refine (of_c _ _ 0 _ h1.noneIs).mono ?_
      rintro e w2 ⟨v2, rfl, ho2, hb2⟩
      obtain ⟨a2, c2, rfl, hs2⟩ := ho2.slice
      have h2 := h1.later hb2
      have hc2 := below_cell hb2 hc1
      have HF := Lib.hid (hfin w2 a2 c2 h2 hc2 hs2)
      clear hfin hat h1 hc1
      go_wp2_with fail
      refine HF.out.mono ?_
      rintro e w3 ⟨rfl, hd3, hg3⟩
      go_wp2_with fail
      go_ret
      exact ⟨rfl, hd3, grown_trans (grown_of_below (below_then hb1 hb2)) hg3⟩
    · have hat := at_c b s 1 w h (by decide) (by decide)
      have hfin : ∀ (W : World) (a : Option Addr) (c : Nat), IsD W b s → W.cell? ⟨w.heap.size, 0, none⟩ = some (.pointer (some ⟨b, 5, none⟩)) → Sl W 2 a 2 c (askV [(false, 1), (!fileOk 1, 2)]) →
          Calls Try.prog 40 #[.pointer (some ⟨b, 0, none⟩), .func (.func 67) #[] #[.pointer (some ⟨w.heap.size, 0, none⟩)], .slice a 2 c] W fun e w' => e = .returned (.int .i64 (s.sync 1).2) ∧ IsD w' b (s.sync 1).1 ∧ W.grownBy w' (some b) := by
        intro W a c hW hc hs
        refine (act_c b s (s.acted.setN 1 (s.fl 1).length) 67 #[.pointer (some ⟨w.heap.size, 0, none⟩)] a 2 c _ (by decide) W hW hsl rfl hs (enters_of Try.func67 (by kernel_rfl) rfl) (fun _ _ w1 hd1 hg1 => sync_do1 b w.heap.size s.acted w1 hd1 (grown_cell hg1 hc (by omega)))).mono fun e w' ⟨he, h1, h2⟩ => ?_
        have h0 : firstA [(false, 1), (!fileOk 1, 2)] = 0 := rfl
        simp only [h0, ne_eq, not_true_eq_false, if_false] at he h1
        simp only [DS.sync, hok, if_true]
        by_cases hl : s.left = 0
        · simp only [hl, if_true] at he h1 ⊢; exact ⟨he, h1, h2⟩
        · simp only [hl, if_false] at he h1 ⊢; exact ⟨he, h1, h2⟩
      generalize s.sync 1 = X at *
      go_enter Try.func49, Try.ntmps49
      go_wp2_with fail
      refine hat.mono ?_
      rintro e w1 ⟨rfl, rfl⟩
      go_wp2_with fail
      have h1 := h.later (below_alloc w (.cells #[.pointer (some ⟨b, 5, none⟩)] 81))
      have hc1 := (Box.new w (.pointer (some ⟨b, 5, none⟩)) 81).cell
      have hb1 := below_alloc w (.cells #[.pointer (some ⟨b, 5, none⟩)] 81)
      refine (of_c _ _ 1 _ h1.noneIs).mono ?_
      rintro e w2 ⟨v2, rfl, ho2, hb2⟩
      obtain ⟨a2, c2, rfl, hs2⟩ := ho2.slice
      have h2 := h1.later hb2
      have hc2 := below_cell hb2 hc1
      have HF := Lib.hid (hfin w2 a2 c2 h2 hc2 hs2)
      clear hfin hat h1 hc1
      go_wp2_with fail
      refine HF.out.mono ?_
      rintro e w3 ⟨rfl, hd3, hg3⟩
      go_wp2_with fail
      go_ret
      exact ⟨rfl, hd3, grown_trans (grown_of_below (below_then hb1 hb2)) hg3⟩
  · have hn : n < 0 ∨ 2 ≤ n := by
      rw [fileOk_iff] at hok
      omega
    have hf : fileOk n = false := by simpa using hok
    have hat := at_no _ _ n w h.noneIs (.inr hn)
    have hr : s.sync n = (s, 2) := by simp [DS.sync, hf]
    rw [hr]
    have hA := firstA2' n hf
    clear hr
    go_enter Try.func49, Try.ntmps49
    go_wp2_with fail
    refine hat.mono ?_
    rintro e w1 ⟨rfl, rfl⟩
    go_wp2_with fail
    have hb1 := below_then (below_alloc w (.cells #[.slice none 0 0, .int .i64 0] 71)) (below_alloc _ (.cells #[.pointer (some ⟨w.heap.size, 0, none⟩)] 81))
    refine (of_c _ _ n _ (h.later hb1).noneIs).mono ?_
    rintro e w2 ⟨v2, rfl, ho2, hb2⟩
    obtain ⟨a2, c2, rfl, hs2⟩ := ho2.slice
    have hact := fun dv => act_no (.pointer (some ⟨b, 0, none⟩)) dv a2 2 c2 _ (by decide) w2 rfl hs2 (by rw [hA]; decide)
    rw [hA] at hact
    have HF := Lib.hid hact
    clear hact hat
    go_wp2_with fail
    refine (HF.out _).mono ?_
    rintro e w3 ⟨rfl, hb3⟩
    go_wp2_with fail
    go_ret
    have hb := below_then (below_then hb1 hb2) hb3
    exact ⟨rfl, h.later hb, grown_of_below hb⟩
theorem sync_no (v : Value) (n : Int) (w : World) (h : NoD w v) : Calls Try.prog 49 #[v, .int .i64 n] w fun e w' => e = .returned (.int .i64 1) ∧ Below w.heap.size w w' := by
  obtain ⟨p, rfl⟩ := h.ptr
  have hat := at_no _ _ n w h.noneIs (.inl rfl)
  have hA := firstA1 n
  have HH := Lib.hid h; clear h
  go_enter Try.func49, Try.ntmps49
  go_wp2_with fail
  refine hat.mono ?_
  rintro e w1 ⟨rfl, rfl⟩
  go_wp2_with fail
  have hb1 := below_then (below_alloc w (.cells #[.slice none 0 0, .int .i64 0] 71)) (below_alloc _ (.cells #[.pointer (some ⟨w.heap.size, 0, none⟩)] 81))
  refine (of_c _ _ n _ (HH.out.later hb1).noneIs).mono ?_
  rintro e w2 ⟨v2, rfl, ho2, hb2⟩
  obtain ⟨a2, c2, rfl, hs2⟩ := ho2.slice
  have hact := fun dv => act_no (.pointer p) dv a2 2 c2 _ (by decide) w2 rfl hs2 (by rw [hA]; decide)
  rw [hA] at hact
  have HF := Lib.hid hact
  clear hact hat
  go_wp2_with fail
  refine (HF.out _).mono ?_
  rintro e w3 ⟨rfl, hb3⟩
  go_wp2_with fail
  go_ret
  exact ⟨rfl, below_then (below_then hb1 hb2) hb3⟩
end Go.Proofs.Ytknndpncdnhnpaa
