import Derived.Test.YtknndpncdnhnpaaDiskG
namespace Go.Proofs.Ytknndpncdnhnpaa
open Go.RowKit Go.Cas

theorem NoneIs.ptr {w : World} {v : Value} {bo : Bool} (h : NoneIs w v bo) : ∃ p, v = .pointer p := by
  rcases h with ⟨_, h⟩ | ⟨_, b, rfl, _⟩
  · exact h.ptr
  · exact ⟨_, rfl⟩
def errOf (bo : Bool) : Int := if bo = true then 1 else 2
theorem firstA_err (bo : Bool) (n : Int) (h : bo = true ∨ fileOk n = false) (l : List (Bool × Int)) : firstA ([(bo, 1), (!fileOk n, 2)] ++ l) = errOf bo := by
  cases bo with
  | true => rfl
  | false =>
    have hf : fileOk n = false := by rcases h with h | h; cases h; exact h
    simp [firstA, hf, errOf]
theorem errOf_ne (bo : Bool) : errOf bo ≠ 0 := by cases bo <;> decide
theorem bad_file {bo : Bool} {n : Int} (h : bo = true ∨ fileOk n = false) : bo = true ∨ n < 0 ∨ 2 ≤ n := by
  rcases h with h | h
  · exact .inl h
  · right
    have : ¬ (0 ≤ n ∧ n < 2) := fun hh => by rw [(fileOk_iff n).2 hh] at h; cases h
    omega
set_option maxRecDepth 100000 in
set_option maxHeartbeats 2000000 in
theorem append_no (v : Value) (bo : Bool) (n : Int) (a : Option Addr) (m cm : Nat) (w : World) (h : NoneIs w v bo) (hbad : bo = true ∨ fileOk n = false) :
    Calls Try.prog 13 #[v, .int .i64 n, .slice a m cm] w fun e w' => e = .returned (.int .i64 (errOf bo)) ∧ Below w.heap.size w w' := by
  obtain ⟨p, rfl⟩ := h.ptr
  have hb0 := below_alloc w (.cells #[.slice a m cm] 32)
  have h0 := h.later hb0
  have hat := at_no _ bo n _ h0 (bad_file hbad)
  have HH := Lib.hid h0; clear h0 h
  have hA := firstA_err bo n hbad []
  rw [List.append_nil] at hA
  have hA2 := firstA_err bo n hbad [(false, 170)]
  have hne := errOf_ne bo
  have hne2 : (errOf bo == 0) = false := by simpa using hne
  have HB := Lib.hid hbad; clear hbad
  go_enter Try.func13, Try.ntmps13
  go_wp2_with fail
  refine hat.mono ?_
  rintro e wx ⟨rfl, rfl⟩
  clear hat
  go_wp2_with fail
  obtain ⟨w1, hw1⟩ : ∃ w1, ((w.alloc (.cells #[.slice a m cm] 32)).alloc (.cells #[.slice none 0 0, .int .i64 0] 71)).alloc (.cells #[.pointer (some ⟨w.heap.size + 1, 0, none⟩)] 81) = w1 := ⟨_, rfl⟩
  have hb1 : Below (w.alloc (.cells #[.slice a m cm] 32)).heap.size (w.alloc (.cells #[.slice a m cm] 32)) w1 := by rw [← hw1]; exact below_then (below_alloc _ _) (below_alloc _ _)
  rw [hw1]
  clear hw1
  refine (of_c _ bo n _ (HH.out.later hb1)).mono ?_
  rintro e w2 ⟨v2, rfl, ho2, hb2⟩
  obtain ⟨a2, ca2, rfl, hs2⟩ := ho2.slice
  go_wp2_with fail
  refine mix_begin 22 (Held fun w' => Below w1.heap.size w1 w') (by kernel_rfl) (by kernel_rfl) (Held.mk hb2.drew) (fun hS => ?_)
  refine mix_take (v := ?_) 0 rfl (by decide) (by kernel_rfl) (by kernel_rfl) (fun _ _ _ h => h) hS rfl ?_ ?_
  rotate_left
  · (intro w' hw'; first | (go_simp; done) | (go_simp; with_reducible rfl) | (obtain ⟨g1⟩ := hw'.out; first | (go_simp; done) | (go_simp; with_reducible rfl)))
  simp only [Act.put, List.setIfInBounds_toArray, List.set_cons_zero, List.set_cons_succ]
  refine mix_take (v := ?_) 1 rfl (by decide) (by kernel_rfl) (by kernel_rfl) (fun _ _ _ h => h) hS rfl ?_ ?_
  rotate_left
  · (intro w' hw'; first | (go_simp; done) | (go_simp; with_reducible rfl) | (obtain ⟨g1⟩ := hw'.out; first | (go_simp; done) | (go_simp; with_reducible rfl)))
  simp only [Act.put, List.setIfInBounds_toArray, List.set_cons_zero, List.set_cons_succ]
  refine mix_take (v := ?_) 2 rfl (by decide) (by kernel_rfl) (by kernel_rfl) (fun _ _ _ h => h) hS rfl ?_ ?_
  rotate_left
  · (intro w' hw'; first | (go_simp; done) | (go_simp; with_reducible rfl) | (obtain ⟨g1⟩ := hw'.out; first | (go_simp; done) | (go_simp; with_reducible rfl)))
  simp only [Act.put, List.setIfInBounds_toArray, List.set_cons_zero, List.set_cons_succ]
  refine mix_take (v := ?_) 3 rfl (by decide) (by kernel_rfl) (by kernel_rfl) (fun _ _ _ h => h) hS rfl ?_ ?_
  rotate_left
  · (intro w' hw'; first | (go_simp; done) | (go_simp; with_reducible rfl) | (obtain ⟨g1⟩ := hw'.out; first | (go_simp; done) | (go_simp; with_reducible rfl)))
  simp only [Act.put, List.setIfInBounds_toArray, List.set_cons_zero, List.set_cons_succ]
  refine mix_step 4 rfl (by decide) (by kernel_rfl) ?_
  have g := hS.out
  have hof := ho2.later (below_drew w2)
  have hfi := first_c a2 2 ca2 _ (by decide) _ rfl (hs2.later (below_drew w2))
  rw [hA] at hfi
  go_wp2_with fail
  refine hfi.mono ?_
  rintro e w3 ⟨rfl, hb3⟩
  clear hfi
  go_wp2_with fail
  refine mix_out (Held.mk (below_then g hb3)) (fun hS => ?_)
  refine mix_take (v := ?_) 5 rfl (by decide) (by kernel_rfl) (by kernel_rfl) (fun _ _ _ h => h) hS rfl ?_ ?_
  rotate_left
  · (intro w' hw'; first | (go_simp; done) | (go_simp; with_reducible rfl) | (obtain ⟨g1⟩ := hw'.out; first | (go_simp; done) | (go_simp; with_reducible rfl)))
  simp only [Act.put, List.setIfInBounds_toArray, List.set_cons_zero, List.set_cons_succ]
  refine mix_take (v := ?_) 6 rfl (by decide) (by kernel_rfl) (by kernel_rfl) (fun _ _ _ h => h) hS rfl ?_ ?_
  rotate_left
  · (intro w' hw'; first | (go_simp; done) | (go_simp; with_reducible rfl) | (obtain ⟨g1⟩ := hw'.out; first | (go_simp; done) | (go_simp; with_reducible rfl)))
  simp only [Act.put, List.setIfInBounds_toArray, List.set_cons_zero, List.set_cons_succ]
  refine mix_skip 7 rfl (by decide) (by kernel_rfl) (by kernel_rfl) (fun _ _ _ h => h) hS rfl ?_
  simp only [Act.put, List.setIfInBounds_toArray, List.set_cons_zero, List.set_cons_succ]
  refine mix_skip 8 rfl (by decide) (by kernel_rfl) (by kernel_rfl) (fun _ _ _ h => h) hS rfl ?_
  simp only [Act.put, List.setIfInBounds_toArray, List.set_cons_zero, List.set_cons_succ]
  refine mix_skip 9 rfl (by decide) (by kernel_rfl) (by kernel_rfl) (fun _ _ _ h => h) hS rfl ?_
  simp only [Act.put, List.setIfInBounds_toArray, List.set_cons_zero, List.set_cons_succ]
  refine mix_skip 10 rfl (by decide) (by kernel_rfl) (by kernel_rfl) (fun _ _ _ h => h) hS rfl ?_
  simp only [Act.put, List.setIfInBounds_toArray, List.set_cons_zero, List.set_cons_succ]
  refine mix_skip 11 rfl (by decide) (by kernel_rfl) (by kernel_rfl) (fun _ _ _ h => h) hS rfl ?_
  simp only [Act.put, List.setIfInBounds_toArray, List.set_cons_zero, List.set_cons_succ]
  refine mix_skip 12 rfl (by decide) (by kernel_rfl) (by kernel_rfl) (fun _ _ _ h => h) hS rfl ?_
  simp only [Act.put, List.setIfInBounds_toArray, List.set_cons_zero, List.set_cons_succ]
  refine mix_skip 13 rfl (by decide) (by kernel_rfl) (by kernel_rfl) (fun _ _ _ h => h) hS rfl ?_
  simp only [Act.put, List.setIfInBounds_toArray, List.set_cons_zero, List.set_cons_succ]
  refine mix_skip 14 rfl (by decide) (by kernel_rfl) (by kernel_rfl) (fun _ _ _ h => h) hS rfl ?_
  simp only [Act.put, List.setIfInBounds_toArray, List.set_cons_zero, List.set_cons_succ]
  refine mix_skip 15 rfl (by decide) (by kernel_rfl) (by kernel_rfl) (fun _ _ _ h => h) hS rfl ?_
  simp only [Act.put, List.setIfInBounds_toArray, List.set_cons_zero, List.set_cons_succ]
  refine mix_skip 16 rfl (by decide) (by kernel_rfl) (by kernel_rfl) (fun _ _ _ h => h) hS rfl ?_
  simp only [Act.put, List.setIfInBounds_toArray, List.set_cons_zero, List.set_cons_succ]
  refine mix_skip 17 rfl (by decide) (by kernel_rfl) (by kernel_rfl) (fun _ _ _ h => h) hS rfl ?_
  simp only [Act.put, List.setIfInBounds_toArray, List.set_cons_zero, List.set_cons_succ]
  refine mix_take (v := ?_) 18 rfl (by decide) (by kernel_rfl) (by kernel_rfl) (fun _ _ _ h => h) hS rfl ?_ ?_
  rotate_left
  · (intro w' hw'; first | (go_simp; done) | (go_simp; with_reducible rfl) | (obtain ⟨g1⟩ := hw'.out; first | (go_simp; done) | (go_simp; with_reducible rfl)))
  simp only [Act.put, List.setIfInBounds_toArray, List.set_cons_zero, List.set_cons_succ]
  refine mix_take (v := ?_) 19 rfl (by decide) (by kernel_rfl) (by kernel_rfl) (fun _ _ _ h => h) hS rfl ?_ ?_
  rotate_left
  · (intro w' hw'; first | (go_simp; done) | (go_simp; with_reducible rfl) | (obtain ⟨g1⟩ := hw'.out; first | (go_simp; done) | (go_simp; with_reducible rfl)))
  simp only [Act.put, List.setIfInBounds_toArray, List.set_cons_zero, List.set_cons_succ]
  refine mix_step 20 rfl (by decide) (by kernel_rfl) ?_
  clear g
  have g := hS.out
  have hof3 := hof.later hb3
  have hbk := below_alloc w3 (.cells #[.bool false, .int .i64 170] 88)
  go_wp2_with fail
  refine mix_out (Held.mk (below_then g hbk)) (fun hS => ?_)
  refine mix_step 21 rfl (by decide) (by kernel_rfl) ?_
  clear g
  have g := hS.out
  have hof4 := hof3.later hbk
  have hnew := ask_new w3 false 170
  refine wpList_append_ask rfl _ _ rfl w1.heap.size a2 2 ca2 _ rfl hof4 _ 1 1 _ rfl hnew rfl rfl (by decide) g.size ?_
  intro a5 c5 w5 ho5 hb5
  go_wp2_with fail
  refine mix_out (Held.mk (g.trans hb5)) (fun hS => ?_)
  refine mix_done (by kernel_rfl) ?_
  simp only [List.drop_succ_cons, List.drop_zero]
  obtain ⟨hs5, -⟩ := ho5.sl
  have hact := fun dv => act_no (.pointer p) dv a5 3 c5 _ (by decide) w5 rfl hs5 (by rw [hA2]; exact hne)
  rw [hA2] at hact
  have HA := Lib.hid hact; clear hact
  go_wp2_with fail
  refine (HA.out _).mono ?_
  rintro e w6 ⟨rfl, hb6⟩
  go_wp2_with fail
  go_ret
  exact ⟨rfl, below_then (below_then hb0 (below_then hb1 hS.out)) hb6⟩

/-! ### Stop -/
def DS.stop (s : DS) (x : Int) : DS × Int := if x < 0 then (s, 2) else ({ s with left := x }, 0)
set_option maxRecDepth 100000 in
theorem stop_any (v : Value) (bo : Bool) (x : Int) (w : World) (h : NoneIs w v bo) : ∀ (R : World → Prop), (bo = true ∨ x < 0 → ∀ w', Below w.heap.size w w' → R w') →
    (bo = false → 0 ≤ x → ∀ b w1, v = .pointer (some ⟨b, 0, none⟩) → Below w.heap.size w w1 → (∃ y, w1.cell? ⟨b, 2, none⟩ = some y) ∧ w1.frozen? ⟨b, 2, none⟩ = false ∧ R (w1.setCell ⟨b, 2, none⟩ (.int .i64 x))) →
    Calls Try.prog 29 #[v, .int .i64 x] w fun e w' => e = .returned (.int .i64 (if bo = true then 1 else if x < 0 then 2 else 0)) ∧ R w' := by
  intro R hR1 hR2
  obtain ⟨p, rfl⟩ := h.ptr
  have hR1' := Lib.hid hR1; clear hR1
  have hR2' := Lib.hid hR2; clear hR2
  have HH := Lib.hid h; clear h
  go_enter Try.func29, Try.ntmps29
  go_wp2_with fail
  refine (of_c _ bo 0 _ HH.out).mono ?_
  rintro e w2 ⟨v2, rfl, ho2, hb2⟩
  obtain ⟨a2, ca2, rfl, hs2⟩ := ho2.slice
  have hof := ho2.later (below_alloc w2 (.cells #[.bool (decide (x < 0)), .int .i64 2] 88))
  have hnew := ask_new w2 (decide (x < 0)) 2
  have hsz := hb2.size
  go_wp2_with (at_builtin; refine wpList_append_ask rfl _ _ rfl w.heap.size a2 2 ca2 _ rfl hof _ 1 1 _ rfl hnew rfl rfl (by decide) (by simp; omega) ?_; intro a5 c5 w5 ho5 hb5)
  obtain ⟨hs5, -⟩ := ho5.sl
  have hb := hb2.trans (((below_alloc w2 (.cells #[.bool (decide (x < 0)), .int .i64 2] 88)).mono hb2.size).trans hb5)
  have hfi := first_c a5 3 c5 _ (by decide) w5 rfl hs5
  refine hfi.mono ?_
  rintro e w6 ⟨rfl, hb6⟩
  clear hfi
  have hb' := below_then hb hb6
  cases bo with
  | true =>
    rw [show firstA ([(true, 1), (!fileOk 0, 2)] ++ [(decide (x < 0), 2)]) = 1 from rfl]
    go_wp2_with fail
    go_ret
    exact ⟨rfl, hR1'.out (by simp) _ hb'⟩
  | false =>
    rw [firstA3 (decide (x < 0)) 2 0 rfl]
    by_cases hx : x < 0
    · simp only [hx, decide_true, if_true]
      go_wp2_with fail
      go_ret
      exact ⟨rfl, hR1'.out (.inr hx) _ hb'⟩
    · simp only [hx, decide_false, if_false, Bool.false_eq_true]
      rcases HH.out with ⟨hh, _⟩ | ⟨_, b, hv, _⟩
      · cases hh
      obtain rfl : p = some ⟨b, 0, none⟩ := by simpa using hv
      obtain ⟨⟨y, hc⟩, hf, hr⟩ := hR2'.out rfl (by omega) b w6 rfl hb'
      go_wp2_with fail
      go_ret
      exact ⟨rfl, hr⟩
theorem stop_c (b : Nat) (s : DS) (x : Int) (w : World) (h : IsD w b s) :
    Calls Try.prog 29 #[.pointer (some ⟨b, 0, none⟩), .int .i64 x] w fun e w' => e = .returned (.int .i64 (s.stop x).2) ∧ IsD w' b (s.stop x).1 ∧ w.grownBy w' (some b) := by
  refine (stop_any _ false x w h.noneIs (fun w' => IsD w' b (s.stop x).1 ∧ w.grownBy w' (some b)) ?_ ?_).mono fun e w' ⟨he, h1, h2⟩ => ⟨?_, h1, h2⟩
  · rintro (hh | hx) w' hb
    · cases hh
    · simp only [DS.stop, hx, if_true]; exact ⟨h.later hb, grown_of_below hb⟩
  · rintro - hx b' w1 hv hb
    obtain rfl : b = b' := by simpa using hv
    obtain ⟨a0, l0, c0, a1, l1, c1, hd⟩ := h.later hb
    refine ⟨⟨_, hd.g2⟩, hd.fz 2, ?_, grown_trans (grown_of_below hb) (grown_set _ _ _ _)⟩
    have : ¬ x < 0 := by omega
    simp only [DS.stop, this, if_false]
    exact (hd.left x).isD
  · subst he
    simp only [DS.stop, Bool.false_eq_true, if_false]
    split <;> rfl
theorem stop_no (v : Value) (x : Int) (w : World) (h : NoD w v) : Calls Try.prog 29 #[v, .int .i64 x] w fun e w' => e = .returned (.int .i64 1) ∧ Below w.heap.size w w' := by
  refine (stop_any v true x w h.noneIs (fun w' => Below w.heap.size w w') (fun _ _ h => h) (fun h => by cases h)).mono fun e w' ⟨he, h1⟩ => ⟨by rw [he]; rfl, h1⟩
end Go.Proofs.Ytknndpncdnhnpaa
