import Derived.Test.YtknndpncdnhnpaaFrB
import Derived.Test.YtknndpncdnhnpaaPlainC
namespace Go.Proofs.Ytknndpncdnhnpaa
open Go.RowKit Go.Cas
attribute [local go_sem] Oper.semAt_some

theorem below_then' {w w1 w2 : World} (h : Below w.heap.size w w1) (h' : Below w1.heap.size w1 w2) : Below w.heap.size w w2 := below_then h h'
set_option maxRecDepth 100000 in
set_option maxHeartbeats 4000000 in
theorem whole_c (a : Option Addr) (n cap : Nat) (l : List UInt8) (hn : n ≤ 2 ^ 40) (w : World) (h : IsB w a n cap l) : Calls Try.prog 31 #[.slice a n cap] w fun e w' => e = .returned (.int .i64 (wholeB l : Int)) ∧ Below w.heap.size w w' := by
  have hl := h.len
  have hcap := h.le
  refine calls_of_wp_marks Try.func31 rfl ?_
  simp only [Try.ntmps31, List.size_toArray, List.length_cons, List.length_nil, Nat.reduceAdd, Nat.reduceSub, Array.replicate_succ, Array.replicate_zero, List.push_toArray, List.append_toArray, List.nil_append, List.cons_append]
  go_wp2_with (go_at_call 52; refine (callFrames_c a n cap l hn _ ((h.alloc _).alloc _)).mono ?_; rintro e w' ⟨B, a', n', cap', rfl, hB, hbox, hs', hblk, hb'⟩)
  have hb2 := below_then (below_then (below_alloc w (.cells #[.slice a n cap] 32)) (below_alloc _ (.cells #[.int .i64 0] 3))) hb'
  simp only [World.size_alloc] at hB hblk
  refine wp_at (fun w3 => Box w3 w.heap.size (.slice a n cap) ∧ Box w3 (w.heap.size + 1) (.int .i64 0) ∧ Box w3 B (.slice a' n' cap') ∧ IsB w3 a' n' cap' l ∧ Below w.heap.size w w3)
    ⟨((Box.new w _ _).alloc _).later hb', (Box.mk (w.alloc (.cells #[.slice a n cap] 32)) _ _ (World.size_alloc _ _).symm).later hb', hbox, hs', hb2⟩ ?_
  clear hb' hb2 hbox hs' w'
  rintro w3 ⟨hB0, hB1, hB2, hs3, hb3⟩
  have hz3 := hB1.lt
  have hz2 := hB2.lt
  have hw0 : endB l 0 = 0 := rfl
  refine wp_range (gf := 68) (lb := #[.pointer (some ⟨B, 0, none⟩)]) rfl enter_frames1
    (frames_iter B a' n' cap' l (by rw [← hs3.len, hl]; exact hn) w3 hs3 hB2.cell) (Hold.refl _ _) (Nat.le_refl _) ?hR ?hps ?hE
    (fun i A => Box A w.heap.size (.slice a n cap) ∧ Box A (w.heap.size + 1) (.int .i64 (endB l i : Int)) ∧ Below w.heap.size w A)
    (fun _ _ _ => False) ?hI ?hIx ⟨hB0, by rw [hw0]; exact hB1, hb3⟩
    (fun vs => { tmps := #[.slice a n cap, .pointer (some ⟨w.heap.size, 0, none⟩), .int .i64 0, .pointer (some ⟨w.heap.size + 1, 0, none⟩), vs.getD 0 undef, undef, undef, undef, .slice a n cap, .func (.func 68) #[] #[.pointer (some ⟨B, 0, none⟩)], vs.getD 0 undef, vs.getD 1 undef, undef, undef, undef, undef, undef, undef, undef, undef, undef, undef, undef, undef], defers := [] }) ?hassign ?hbody ?hdone ?hstop
  case hR => rintro k (rfl | ⟨h0, ad, ha, rfl⟩); exact hz2; exact hs3.lt ha h0
  case hps => rintro x vs A ⟨_, _, _, rfl, _⟩; rfl
  case hE =>
    rintro x vs A A' ⟨a2, n2, c2, rfl, h2, h3⟩ hk
    exact ⟨a2, n2, c2, rfl, hk.isB h2 (fun ad ha hsp => by have := h3 ad ha; unfold Span at hsp; omega), h3⟩
  case hI =>
    rintro i A A' ⟨h1, h2, h4⟩ hk
    have hn : ∀ k, k < w3.heap.size → ¬ Span w3.heap.size (0 + 2) k := fun k hk h => by unfold Span at h; omega
    exact ⟨h1.keep hk (hn _ (by omega)), h2.keep hk (hn _ (by omega)), h4.trans (hk.below h4.size (fun k hk => hn k (by omega)))⟩
  case hIx => exact fun _ _ _ _ h _ => h
  case hassign =>
    rintro L x vs W K ⟨a2, n2, c2, rfl, _⟩ hK
    gi_wp2
    exact hK
  case hbody =>
    rintro L i hi vs A ⟨h1, h2, h4⟩ ⟨a2, n2, c2, rfl, _⟩ hsz
    have hm := frames_mem l (List.getElem_mem hi)
    have hend := endB_succ l hi
    generalize (framesB l)[i] = x at *
    obtain ⟨p, O⟩ := x
    dsimp only at hm hend
    rw [show (#[Value.int .i64 (p : Int), Value.slice a2 n2 c2] : Array Value).getD 0 undef = .int .i64 (p : Int) from rfl, show (#[Value.int .i64 (p : Int), Value.slice a2 n2 c2] : Array Value).getD 1 undef = .slice a2 n2 c2 from rfl]
    have hA := h.later h4
    have hob := openB_bound (l.drop p)
    rw [List.length_drop] at hob
    have hrest := IsB_rest hA p (lo := p) rfl (by omega) rfl rfl rfl
    have hcp : ¬ cap = p := by have := hob.1 hm.2.1; omega
    rw [if_neg hcp] at hrest
    have hopen := open_c _ (n - p) (cap - p) (l.drop p) (by omega) _ hrest
    have hp1 : (p : Int) ≤ (n : Int) := by omega
    have hW : IntKind.i64.wrap ((p : Int) + ((openB (l.drop p)).2.1 : Int)) = (p : Int) + ((openB (l.drop p)).2.1 : Int) := i64_in (by omega) (by omega)
    generalize openB (l.drop p) = Q at *
    have hc1 := h1.cell
    have HE := Lib.hid hend; clear hend
    gi_wp2_with fail
    refine ⟨trivial, rfl, (CallsIn.inRound L (callsIn_wide.2 hopen)).mono ?_⟩
    rintro e w4 ⟨v4, rfl, ho4, hb4⟩
    have h24 := h2.later hb4
    have hc2 := h24.cell
    have hf2 := h24.fz
    gi_wp2
    have hRs : ∀ k, (RSlice B a' cap' k ∨ Span w3.heap.size (0 + 2) k) → k < A.heap.size ∧ k ≠ w.heap.size + 1 := by
      rintro k ((rfl | ⟨h0, ad, ha, rfl⟩) | hk)
      · omega
      · have := hs3.lt ha h0; have := hblk ad ha; omega
      · unfold Span at hk; omega
    refine ⟨(Hold.of_below hb4 fun k hk => (hRs k hk).1).trans (Hold.setCell _ _ (fun hk => (hRs _ hk).2 rfl) _), (h1.later hb4).other (by simp) _, ?_, (below_then' h4 hb4).setCell (by simp) _⟩
    rw [HE.out]
    push_cast
    exact h24.set _
  case hdone =>
    rintro A hBs ⟨h1, h2, h4⟩ hD
    rw [endB_all] at h2
    have hc0 := h2.cell
    go_wp2
    refine leave1 hD (results_tmp rfl _ _ _) ⟨rfl, below_putObj h4 (by omega) _⟩
  case hstop => exact fun _ _ _ _ _ h => h.elim
end Go.Proofs.Ytknndpncdnhnpaa
