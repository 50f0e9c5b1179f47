import Derived.Test.YtpobnbiakneoiaaDiskZ
namespace Go.Proofs.Ytpobnbiakneoiaa
open Go.RowKit Go.Cas
attribute [local go_sem] Oper.semAt_some

theorem ix0 (x y z v : Value) (w : World) : (Instr.index 56 (.agg #[x, y, z, v]) (.int .i64 0)).run Try.prog w = .ok (.agg #[x, y]) w := by kernel_rfl
theorem ix1 (x y z v : Value) (w : World) : (Instr.index 56 (.agg #[x, y, z, v]) (.int .i64 1)).run Try.prog w = .ok (.agg #[z, v]) w := by kernel_rfl
def DS.same (s s' : DS) : Bool := decide (s.f0 = s'.f0 ∧ s.n0 = s'.n0 ∧ s.f1 = s'.f1 ∧ s.n1 = s'.n1 ∧ s.room = s'.room ∧ s.now = s'.now ∧ s.left = s'.left)
set_option maxRecDepth 100000 in
set_option maxHeartbeats 1000000 in
theorem same_c (b b' : Nat) (s s' : DS) (w : World) (h : IsD w b s) (h' : IsD w b' s') (hf : s.fine) (hf' : s'.fine) : Calls Try.prog 18 #[.pointer (some ⟨b, 0, none⟩), .pointer (some ⟨b', 0, none⟩)] w fun e w' =>
    e = .returned (.bool (s.same s')) ∧ Below w.heap.size w w' := by
  have hx0 := ix0
  have hx1 := ix1
  have hn := none_c _ _ _ h.noneIs
  have hn' := none_c _ _ _ h'.noneIs
  obtain ⟨a0, l0, c0, a1, l1, c1, h⟩ := h
  obtain ⟨x0, m0, d0, x1, m1, d1, h'⟩ := h'
  have g3 := h.g3
  have g4 := h.g4
  have g5 := h.g5
  have g6 := h.g6
  have HH := Lib.hid h; clear h
  have HH' := Lib.hid h'; clear h'
  go_enter Try.func18, Try.ntmps18
  go_wp2_with fail
  refine hn.mono ?_
  rintro e w' ⟨rfl, rfl⟩
  go_wp2_with fail
  refine hn'.mono ?_
  rintro e w' ⟨rfl, rfl⟩
  go_wp2_with fail
  clear g3 g4 g5 g6 hn hn'
  go_loopw [25] (fun i wr => ∃ k : Nat, k ≤ 2 ∧ i = .int .i64 (k : Int) ∧ Below w.heap.size w wr ∧ (0 < k → s.f0 = s'.f0 ∧ s.n0 = s'.n0) ∧ (1 < k → s.f1 = s'.f1 ∧ s.n1 = s'.n1)) (fun i _ => 2 - (intOf i).toNat)
  case atStart => exact ⟨0, by decide, rfl, Below.refl _ _, fun h => absurd h (by decide), fun h => absurd h (by decide)⟩
  case round =>
    obtain ⟨k, hk, rfl, hbr, he0, he1⟩ := hrel
    have hd := HH.out.later hbr
    have hd' := HH'.out.later hbr
    have HE0 := Lib.hid he0
    have HE1 := Lib.hid he1
    clear he0 he1
    obtain rfl | rfl | rfl : k = 0 ∨ k = 1 ∨ k = 2 := by omega
    · have q3 := fun o => below_cell (below_alloc wr o) hd'.g3
      have q4 := fun o => below_cell (below_alloc wr o) hd'.g4
      have hz1 : l0 ≤ 2 ^ 40 := by have := hd.b0.len; have := hf.2.2.1; have := hf.2.2.2; omega
      have hz2 : m0 ≤ 2 ^ 40 := by have := hd'.b0.len; have := hf'.2.2.1; have := hf'.2.2.2; omega
      by_cases hnn : s.n0 = s'.n0
      · have HNN := Lib.hid hnn
        have hnn' : ((s.n0 : Int) != (s'.n0 : Int)) = false := by simp [hnn]
        clear hnn
        go_wp2_with fail
        have hbb := fun A B => below_then (below_alloc wr A) (below_alloc (wr.alloc A) B)
        refine (equal_c _ _ _ _ _ _ _ _ hz1 hz2 _ (hd.b0.later (hbb _ _)) (hd'.b0.later (hbb _ _))).mono ?_
        · rintro e w3 ⟨rfl, hb3⟩
          by_cases hff : s.f0 = s'.f0
          · rw [decide_eq_true hff]
            go_wp2_with fail
            exact ⟨⟨1, by decide, rfl, hbr.trans (((hbb _ _).trans (hb3.mono (hbb _ _).size)).mono hbr.size), fun _ => ⟨hff, HNN.out⟩, fun h => absurd h (by decide)⟩, by simp [intOf]⟩
          · rw [decide_eq_false hff]
            go_wp2_with fail
            go_ret
            exact ⟨by rw [show s.same s' = false from decide_eq_false (fun h => by obtain ⟨h1, h2, h3, h4, h5⟩ := h; exact hff (by assumption))]; rfl, hbr.trans (((hbb _ _).trans (hb3.mono (hbb _ _).size)).mono hbr.size)⟩
      · have hnn' : ((s.n0 : Int) != (s'.n0 : Int)) = true := by simp; omega
        go_wp2_with fail
        go_ret
        exact ⟨by rw [show s.same s' = false from decide_eq_false (fun h => by obtain ⟨h1, h2, h3, h4, h5⟩ := h; exact hnn (by assumption))]; rfl, hbr.trans ((below_then (below_alloc wr _) (below_alloc (wr.alloc _) _)).mono hbr.size)⟩
    · have q3 := fun o => below_cell (below_alloc wr o) hd'.g5
      have q4 := fun o => below_cell (below_alloc wr o) hd'.g6
      have hz1 : l1 ≤ 2 ^ 40 := by have := hd.b1.len; have := hf.2.2.1; have := hf.2.2.2; omega
      have hz2 : m1 ≤ 2 ^ 40 := by have := hd'.b1.len; have := hf'.2.2.1; have := hf'.2.2.2; omega
      by_cases hnn : s.n1 = s'.n1
      · have HNN := Lib.hid hnn
        have hnn' : ((s.n1 : Int) != (s'.n1 : Int)) = false := by simp [hnn]
        clear hnn
        go_wp2_with fail
        have hbb := fun A B => below_then (below_alloc wr A) (below_alloc (wr.alloc A) B)
        refine (equal_c _ _ _ _ _ _ _ _ hz1 hz2 _ (hd.b1.later (hbb _ _)) (hd'.b1.later (hbb _ _))).mono ?_
        · rintro e w3 ⟨rfl, hb3⟩
          by_cases hff : s.f1 = s'.f1
          · rw [decide_eq_true hff]
            go_wp2_with fail
            exact ⟨⟨2, by decide, rfl, hbr.trans (((hbb _ _).trans (hb3.mono (hbb _ _).size)).mono hbr.size), fun _ => HE0.out (by decide), fun _ => ⟨hff, HNN.out⟩⟩, by simp [intOf]⟩
          · rw [decide_eq_false hff]
            go_wp2_with fail
            go_ret
            exact ⟨by rw [show s.same s' = false from decide_eq_false (fun h => by obtain ⟨h1, h2, h3, h4, h5⟩ := h; exact hff (by assumption))]; rfl, hbr.trans (((hbb _ _).trans (hb3.mono (hbb _ _).size)).mono hbr.size)⟩
      · have hnn' : ((s.n1 : Int) != (s'.n1 : Int)) = true := by simp; omega
        go_wp2_with fail
        go_ret
        exact ⟨by rw [show s.same s' = false from decide_eq_false (fun h => by obtain ⟨h1, h2, h3, h4, h5⟩ := h; exact hnn (by assumption))]; rfl, hbr.trans ((below_then (below_alloc wr _) (below_alloc (wr.alloc _) _)).mono hbr.size)⟩
    · have q0 := hd.g0
      have q1 := hd.g1
      have q2 := hd.g2
      have r0 := hd'.g0
      have r1 := hd'.g1
      have r2 := hd'.g2
      by_cases hr : s.room = s'.room
      · have qroom : (s.room == s'.room) = true := by simp [hr]
        have Hroom := Lib.hid hr; clear hr
        by_cases hn : s.now = s'.now
        · have qnow : (s.now == s'.now) = true := by simp [hn]
          have Hnow := Lib.hid hn; clear hn
          by_cases hl : s.left = s'.left
          · have qleft : (s.left == s'.left) = true := by simp [hl]
            have Hleft := Lib.hid hl; clear hl
            go_wp2_with fail
            go_quiet (fail)
            go_wp2_with fail
            go_ret
            exact ⟨by rw [show s.same s' = true from decide_eq_true ⟨(HE0.out (by decide)).1, (HE0.out (by decide)).2, (HE1.out (by decide)).1, (HE1.out (by decide)).2, Hroom.out, Hnow.out, Hleft.out⟩]; rfl, below_drewN hbr _⟩
          · have qleft : (s.left == s'.left) = false := by simp [hl]
            have Hleft := Lib.hid hl; clear hl
            go_wp2_with fail
            go_quiet (fail)
            go_wp2_with fail
            go_ret
            exact ⟨by rw [show s.same s' = false from decide_eq_false (fun h => Hleft.out h.2.2.2.2.2.2)]; rfl, below_drewN hbr _⟩
        · have qnow : (s.now == s'.now) = false := by simp [hn]
          have Hnow := Lib.hid hn; clear hn
          go_wp2_with fail
          go_quiet (fail)
          go_wp2_with fail
          go_ret
          exact ⟨by rw [show s.same s' = false from decide_eq_false (fun h => Hnow.out h.2.2.2.2.2.1)]; rfl, below_drewN hbr _⟩
      · have qroom : (s.room == s'.room) = false := by simp [hr]
        have Hroom := Lib.hid hr; clear hr
        go_wp2_with fail
        go_quiet (fail)
        go_wp2_with fail
        go_ret
        exact ⟨by rw [show s.same s' = false from decide_eq_false (fun h => Hroom.out h.2.2.2.2.1)]; rfl, below_drewN hbr _⟩
end Go.Proofs.Ytpobnbiakneoiaa
