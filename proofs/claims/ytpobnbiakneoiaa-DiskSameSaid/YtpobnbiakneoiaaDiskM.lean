import Derived.Test.YtpobnbiakneoiaaDiskL
namespace Go.Proofs.Ytpobnbiakneoiaa
open Go.RowKit Go.Cas
attribute [local go_sem] Oper.semAt_some

/-- An iterator over nothing. -/
theorem iter_nil {α : Type} {P : Program} {g : Nat} {lb : Array Value} {E : Nat → α → Array Value → World → Prop} {c : Nat} {R : Nat → Prop} {w : World}
    (h : ∀ l W, Hold R w W → w.heap.size ≤ W.heap.size → Calls P g (#[.func (.yield l) #[] #[]] ++ lb) W fun e B => (∃ v, e = .returned v) ∧ Below W.heap.size W B) : Iter P g lb E ([] : List α) c R w := by
  intro l J Jx W hW hsz hJ _ _ h0
  refine (callsIn_wide.2 (h l W hW hsz)).mono ?_
  rintro e B ⟨hv, hb⟩
  exact ⟨hv, .inl (hJ 0 W B h0 (Keep.of_below hb))⟩
def ENo (_ : Nat) (_ : Unit) (_ : Array Value) (_ : World) : Prop := False

theorem all_c (a : Option Addr) (n cap : Nat) (w : World) : Calls Try.prog 57 #[.slice a n cap] w fun e w' =>
    e = .returned (.func (.func 77) #[] #[.pointer (some ⟨w.heap.size, 0, none⟩)]) ∧ w.alloc (.cells #[.slice a n cap] 36) = w' := by
  go_enter Try.func57, Try.ntmps57
  go_wp2
  go_ret
  exact ⟨rfl, rfl⟩
theorem enter_all1 : ∀ args w, (callFunc 77 args).run Try.prog w = .ok (.enter 77 args) w := enters_of Try.func77 (by kernel_rfl) rfl
theorem all1_nil (l Bs : Nat) (sa : Option Addr) (sc : Nat) (W : World) (hc : W.cell? ⟨Bs, 0, none⟩ = some (.slice sa 0 sc)) : Calls Try.prog 77 #[.func (.yield l) #[] #[], .pointer (some ⟨Bs, 0, none⟩)] W fun e B => (∃ v, e = .returned v) ∧ Below W.heap.size W B := by
  go_enter Try.func77, Try.ntmps77
  go_wp2
  go_loop [7] (fun i => i = .int .i64 0) (fun _ => 0)
  case atStart => rfl
  case round =>
    subst hrel
    go_wp2
    go_end0
    exact ⟨⟨_, rfl⟩, Below.refl _ _⟩
set_option maxRecDepth 100000 in
set_option maxHeartbeats 1000000 in
theorem bytes1_nil (l Bs : Nat) (sa : Option Addr) (sc : Nat) (W : World) (hc : W.cell? ⟨Bs, 0, none⟩ = some (.slice sa 0 sc)) : Calls Try.prog 56 #[.func (.yield l) #[] #[], .pointer (some ⟨Bs, 0, none⟩)] W fun e B => (∃ v, e = .returned v) ∧ Below W.heap.size W B := by
  refine calls_of_wp_marks Try.func56 rfl ?_
  simp only [Try.ntmps56, List.size_toArray, List.length_cons, List.length_nil, Nat.reduceAdd, Nat.reduceSub, Array.replicate_succ, Array.replicate_zero, List.push_toArray, List.append_toArray, List.nil_append, List.cons_append]
  go_wp2_with fail
  refine wp_scope_straight ?_
  go_wp2_with fail
  refine wp_label ?_
  have hb0 := below_alloc W (.cells #[.func (.yield l) #[] #[]] 103)
  have hc0 := below_cell hb0 hc
  go_wp2_with fail
  refine (all_c sa 0 sc _).mono ?_
  rintro e w1 ⟨rfl, hw1⟩
  have hb1 := below_then hb0 (by rw [← hw1]; exact below_alloc _ _ : Below (W.alloc (.cells #[.func (.yield l) #[] #[]] 103)).heap.size _ w1)
  have hcb : w1.cell? ⟨W.heap.size + 1, 0, none⟩ = some (.slice sa 0 sc) := by rw [← hw1]; exact (Box.mk _ _ _ (by simp)).cell
  go_wp2_with fail
  refine wp_range (gf := 77) (lb := #[.pointer (some ⟨W.heap.size + 1, 0, none⟩)]) rfl enter_all1
    (iter_nil (E := ENo) (c := 0) (R := fun k => k = W.heap.size + 1) (w := w1) (fun l' W' hW' _ => all1_nil l' _ sa sc W' ((hW'.cell rfl).trans hcb))) (Hold.refl _ _) (Nat.le_refl _) ?hR ?hps ?hE
    (fun i A => Below W.heap.size W A) (fun _ _ _ => False) ?hI ?hIx hb1 (fun _ => { tmps := #[], defers := [] }) ?hassign ?hbody ?hdone ?hstop
  case hR => rintro k rfl; exact World.block_lt_of_cell? w1 _ hcb
  case hps => exact fun _ _ _ h => h.elim
  case hE => exact fun x vs A B h _ => h
  case hI =>
    intro i A B hA hk
    have := hb1.size
    exact hA.trans (hk.below hA.size fun k hk' hs => by unfold Span at hs; omega)
  case hIx => exact fun _ _ _ _ h _ => h
  case hassign => exact fun _ _ _ _ _ h => h.elim
  case hbody => exact fun l' i hi => absurd hi (by simp)
  case hdone =>
    intro B hBs hB hD
    go_wp2_with fail
    simp only [Exit.noGoto]
    exact leave1_end hD (results_none rfl _ _ _) ⟨⟨_, rfl⟩, below_putObj hB (by have := hb1.size; omega) _⟩
  case hstop => exact fun _ _ _ _ _ h => h.elim
theorem enter_bytes1 : ∀ args w, (callFunc 56 args).run Try.prog w = .ok (.enter 56 args) w := enters_of Try.func56 (by kernel_rfl) rfl
theorem bytes_no (v : Value) (n : Int) (w : World) (h : NoD w v) : Calls Try.prog 22 #[v, .int .i64 n] w fun e w' =>
    ∃ B sa sc, e = .returned (.func (.func 56) #[] #[.pointer (some ⟨B, 0, none⟩)]) ∧ w'.cell? ⟨B, 0, none⟩ = some (.slice sa 0 sc) ∧ Below w.heap.size w w' := by
  obtain ⟨p, rfl⟩ := h.ptr
  have hat := at_no _ _ n w h.noneIs (.inl rfl)
  have HH := Lib.hid h; clear h
  go_enter Try.func22, Try.ntmps22
  go_wp2_with fail
  refine hat.mono ?_
  rintro e w1 ⟨rfl, hw1⟩
  have hb1 : Below w.heap.size w w1 := by rw [← hw1]; exact below_alloc _ _
  have hc1 : w1.cell? ⟨w.heap.size, 0, none⟩ = some (.slice none 0 0) := by
    rw [← hw1]
    have := heap_alloc_new w (.cells #[.slice none 0 0, .int .i64 0] 55)
    simp only [World.cell?, this]
    rfl
  clear hw1 hat
  go_wp2_with fail
  refine (clone_c none 0 0 [] (by decide) w1 (IsB.nil _)).mono ?_
  rintro e w2 ⟨v2, rfl, ho2, hb2⟩
  obtain ⟨a2, c2, rfl, hs2⟩ := ho2.slice
  go_wp2_with fail
  go_ret
  exact ⟨w2.heap.size, a2, c2, rfl, (Box.new w2 _ _).cell, below_then (below_then hb1 hb2) (below_alloc _ _)⟩
end Go.Proofs.Ytpobnbiakneoiaa
