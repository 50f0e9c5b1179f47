import Derived.Test.YtknndpncdnhnpaaIter
namespace Go.Cas
open Go.RowKit

/-- It hands xs to its loop, one by one, as E says; it writes no block that was there ahead of it; a round writes none of R's and none that was made behind. -/
def IterW {α : Type} (P : Program) (g : Nat) (lb : Array Value) (E : Nat → α → Array Value → World → Prop) (xs : List α) (R : Nat → Prop) (w : World) : Prop :=
  ∀ (l : Nat) (J Jx : Nat → World → Prop) (W : World), Hold R w W → w.heap.size ≤ W.heap.size →
    (∀ i A B, J i A → Keep (fun k => W.heap.size ≤ k) A B → J i B) → (∀ i A B, Jx i A → Keep (fun k => W.heap.size ≤ k) A B → Jx i B) →
    (∀ i (hi : i < xs.length) vs A, J i A → E W.heap.size xs[i] vs A → W.heap.size ≤ A.heap.size →
      YieldAt Fence.wide 0 P l vs A fun e B => (e = .returned (.bool true) ∧ J (i + 1) B ∧ Hold (fun k => R k ∨ (W.heap.size ≤ k ∧ k < A.heap.size)) A B) ∨ (e = .returned (.bool false) ∧ Jx (i + 1) B ∧ Hold (fun k => R k ∨ (W.heap.size ≤ k ∧ k < A.heap.size)) A B)) →
    J 0 W → CallsIn Fence.wide 0 P g (#[.func (.yield l) #[] #[]] ++ lb) W fun e B => (∃ v, e = .returned v) ∧ (J xs.length B ∨ ∃ i, i ≤ xs.length ∧ Jx i B)


/-- 'for .. := range g { .. }' -/
theorem wp_rangeW {α : Type} {P : Program} {g : Operand} {ps : Array Tmp} {assign body : Code} {Q : Exit → Act → World → Prop} {a : Act} {w : World}
    {gf : Nat} {lb : Array Value} (hg : a.eval g = .func (.func gf) #[] lb) (eg : ∀ args w, (callFunc gf args).run P w = .ok (.enter gf args) w)
    {E : Nat → α → Array Value → World → Prop} {xs : List α} {R : Nat → Prop} {w0 : World} (hit : IterW P gf lb E xs R w0) (hw0 : Hold R w0 w) (hsz0 : w0.heap.size ≤ w.heap.size) (hR : ∀ k, R k → k < w.heap.size)
    (hps : ∀ x vs A, E (w.heap.size + 2) x vs A → vs.size = ps.size) (hE : ∀ x vs A B, E (w.heap.size + 2) x vs A → Keep (fun k => w.heap.size ≤ k ∧ k < w.heap.size + 2) A B → E (w.heap.size + 2) x vs B)
    (I : Nat → World → Prop) (Ix : Code → Nat → World → Prop) (hI : ∀ i A B, I i A → Keep (fun k => w.heap.size ≤ k) A B → I i B) (hIx : ∀ k i A B, Ix k i A → Keep (fun k => w.heap.size ≤ k) A B → Ix k i B)
    (h0 : I 0 w) (a₁ : Array Value → Act)
    (hassign : ∀ (l : Nat) (x : α) (vs : Array Value) (W : World) (K : Act → World → Prop), E (w.heap.size + 2) x vs W → K (a₁ vs) W →
      assign.wpIn (Fence.wide.inRound l) 0 P (Exit.then K (fun _ _ _ => False)) { tmps := (ps.zip vs).foldl (fun t (p, v) => t.setIfInBounds p v) a.tmps, defers := [] } W)
    (hbody : ∀ (l : Nat) (i : Nat) (hi : i < xs.length) (vs : Array Value) (A : World), I i A → E (w.heap.size + 2) xs[i] vs A → w.heap.size + 2 ≤ A.heap.size →
      body.wpIn (Fence.wide.inRound l) 0 P (roundEnds (fun k => R k ∨ (w.heap.size ≤ k ∧ k < A.heap.size)) I Ix i A) (a₁ vs) A)
    (hdone : ∀ B, w.heap.size + 2 ≤ B.heap.size → I xs.length B → B.heap[w.heap.size]? = some (.deferred (some [])) → Q .normal { a with defers := { target := .collected w.heap.size, args := #[] } :: a.defers } B)
    (hstop : ∀ k i B, w.heap.size + 2 ≤ B.heap.size → i ≤ xs.length → Ix k i B → B.heap[w.heap.size]? = some (.deferred (some [])) → k.wp P Q { a with defers := { target := .collected w.heap.size, args := #[] } :: a.defers } B) :
    (Code.rangeFunc g ps assign body).wp P Q a w := by
  refine (wpIn_wide (n := 0)).1 ?_
  refine wpIn_rangeFunc ?_
  intro fn hfn
  show ∃ _, _
  rw [show Fence.wide.round = none from rfl]
  obtain ⟨rec, hrec⟩ : ∃ rec : LoopState → Option Code → Loop, rec = fun st pe => { state := st, pending := pe, fn, tmps := a.tmps, params := ps, assign, body, defers := w.heap.size } := ⟨_, rfl⟩
  obtain ⟨W1, hW1⟩ : ∃ W1, (w.alloc (.deferred (some []))).alloc (.loop (rec .ready none)) = W1 := ⟨_, rfl⟩
  have hs1 : W1.heap.size = w.heap.size + 2 := by rw [← hW1]; simp
  have hL1 : W1.heap[w.heap.size + 1]? = some (.loop (rec .ready none)) := by
    rw [← hW1]; have := World.alloc_heap_new (w.alloc (.deferred (some []))) (.loop (rec .ready none)); rwa [World.size_alloc] at this
  have hK1 : W1.heap[w.heap.size]? = some (.deferred (some [])) := by
    rw [← hW1]; exact (Below.heap_alloc _ _ _ (by simp)).trans (World.alloc_heap_new w _)
  have hb1 : Below w.heap.size w W1 := by
    rw [← hW1]; exact ((Below.refl _ w).alloc (Nat.le_refl _) _).alloc (by simp) _
  have hI1 : I 0 W1 := hI _ _ _ h0 (Keep.of_below hb1)
  refine ⟨w.heap.size + 1, [{ target := .collected w.heap.size, args := #[] }], W1, { target := .fn (.func gf) lb, args := #[.func (.yield (w.heap.size + 1)) #[] #[]] }, W1, gf,
    #[.func (.yield (w.heap.size + 1)) #[] #[]] ++ lb, W1, ?_, ?_, ?_, ?_, ?_, ?_⟩
  · rw [← hW1, hrec]; exact run_enterLoop_outer _ _ _ _ _
  · simp only [resolve, hg]
    simp [go_sem]
  · intro f' _; exact trivial
  · simp [invoke, go_sem, eg]
  · intro h; simp [Fence.wide] at h
  · have hD : w.heap.size ≤ w.heap.size := Nat.le_refl _
    have hL : w.heap.size ≤ w.heap.size + 1 := by omega
    have hL2 : w.heap.size ≤ w.heap.size + 1 ∧ w.heap.size + 1 < w.heap.size + 2 := ⟨by omega, by omega⟩
    have hsub : ∀ k, W1.heap.size ≤ k → w.heap.size ≤ k := fun k hk => by omega
    have hnD : ¬ W1.heap.size ≤ w.heap.size := by omega
    have hnL : ¬ W1.heap.size ≤ w.heap.size + 1 := by omega
    have keepAt : ∀ {k : Nat} {A B : World} {o : Obj}, A.heap[k]? = some o → Keep (fun k => W1.heap.size ≤ k) A B → ¬ W1.heap.size ≤ k → B.heap[k]? = some o :=
      fun hk hkp hn => (hkp.block _ (Array.getElem?_eq_some_iff.1 hk).1 hn).trans hk
    refine (hit (w.heap.size + 1)
      (fun i W => I i W ∧ W.heap[w.heap.size + 1]? = some (.loop (rec .ready none)) ∧ W.heap[w.heap.size]? = some (.deferred (some [])))
      (fun i W => ∃ k, Ix k i W ∧ W.heap[w.heap.size + 1]? = some (.loop (rec .done (some k))) ∧ W.heap[w.heap.size]? = some (.deferred (some [])))
      W1 (hw0.trans (Hold.of_below hb1 hR)) (by omega)
      (fun i A B h hk => ⟨hI i A B h.1 (hk.mono hsub), keepAt h.2.1 hk hnL, keepAt h.2.2 hk hnD⟩)
      (fun i A B h hk => by
        obtain ⟨k, h1, h2, h3⟩ := h
        exact ⟨k, hIx k i A B h1 (hk.mono hsub), keepAt h2 hk hnL, keepAt h3 hk hnD⟩)
      ?_ ⟨hI1, hL1, hK1⟩).mono ?_
    · -- a round
      rintro i hi vs A ⟨hi1, hl, hk⟩ hEx hAs
      rw [hs1] at hEx hAs
      have hlt : w.heap.size + 1 < A.heap.size := (Array.getElem?_eq_some_iff.1 hl).1
      have hy := run_yield (P := P) (args := vs) hl (by rw [hrec]; exact hps _ vs A hEx)
      rw [hrec] at hy
      refine ⟨fn, _, assign, body, hy, roundIn_of_wpIn hfn (hassign _ xs[i] vs A _ hEx ⟨_, run_beginRound hl (by rw [hrec]), ?_⟩)⟩
      have hl2 : (A.putObj (w.heap.size + 1) (.loop { rec .ready none with state := .busy })).heap[w.heap.size + 1]? = some (.loop { rec .ready none with state := .busy }) := World.putObj_heap_same hlt
      have hk2 : (A.putObj (w.heap.size + 1) (.loop { rec .ready none with state := .busy })).heap[w.heap.size]? = some (.deferred (some [])) := (World.putObj_heap_other (by omega)).trans hk
      refine wpIn_mono (hbody _ i hi vs _ (hI _ _ _ hi1 (Keep.putObj _ _ _ hL)) (hE _ _ _ _ hEx (Keep.putObj _ _ _ hL2)) (by simp; omega)) ?_
      have hRL : ∀ k, (R k ∨ (W1.heap.size ≤ k ∧ k < A.heap.size)) → k ≠ w.heap.size + 1 := by
        rintro k (h | h) e
        · have := hR k h; omega
        · omega
      have hput : ∀ (X : World) (o : Obj), Hold (fun k => R k ∨ (W1.heap.size ≤ k ∧ k < A.heap.size)) X (X.putObj (w.heap.size + 1) o) := fun X o =>
        ⟨rfl, rfl, rfl, by simp, fun k hk => World.putObj_heap_other (hRL k hk)⟩
      have fin : ∀ (jump : Option Code) (W3 : World), Hold (fun k => R k ∨ (w.heap.size ≤ k ∧ k < (A.putObj (w.heap.size + 1) (.loop { rec .ready none with state := .busy })).heap.size)) (A.putObj (w.heap.size + 1) (.loop { rec .ready none with state := .busy })) W3 →
          (Instr.endRound (w.heap.size + 1) jump).run P W3 = .ok (.bool jump.isNone) (W3.putObj (w.heap.size + 1) (.loop (rec (if jump.isNone then .ready else .done) jump))) ∧
          (W3.putObj (w.heap.size + 1) (.loop (rec (if jump.isNone then .ready else .done) jump))).heap[w.heap.size + 1]? = some (.loop (rec (if jump.isNone then .ready else .done) jump)) ∧
          (W3.putObj (w.heap.size + 1) (.loop (rec (if jump.isNone then .ready else .done) jump))).heap[w.heap.size]? = some (.deferred (some [])) ∧
          Hold (fun k => R k ∨ (W1.heap.size ≤ k ∧ k < A.heap.size)) A (W3.putObj (w.heap.size + 1) (.loop (rec (if jump.isNone then .ready else .done) jump))) := fun jump W3 hk3 => by
        have hl3 := (hk3.block _ (Or.inr ⟨hL, by rw [World.putObj_size]; exact hlt⟩)).trans hl2
        have hd3 := (hk3.block _ (Or.inr ⟨hD, by rw [World.putObj_size]; omega⟩)).trans hk2
        have := run_endRound (P := P) jump hl3
        rw [hrec] at this ⊢
        exact ⟨this, World.putObj_heap_same (Array.getElem?_eq_some_iff.1 hl3).1, (World.putObj_heap_other (by omega)).trans hd3,
          ((hput A _).trans (hk3.mono (fun k hk => hk.imp id (fun h => ⟨hsub k h.1, by rw [World.putObj_size]; exact h.2⟩)))).trans (hput W3 _)⟩
      rintro e a3 W3 hp
      cases e with
      | normal =>
        obtain ⟨hk3, hi3⟩ := hp
        obtain ⟨hr, hl4, hk4, hh⟩ := fin none W3 hk3
        exact ⟨_, _, hr, .inl ⟨rfl, ⟨hI _ _ _ hi3 (Keep.putObj _ _ _ hL), hl4, hk4⟩, hh⟩⟩
      | ret =>
        obtain ⟨hk3, hi3⟩ := hp
        obtain ⟨hr, hl4, hk4, hh⟩ := fin (some .ret) W3 hk3
        exact ⟨_, _, hr, .inr ⟨rfl, ⟨_, hIx _ _ _ _ hi3 (Keep.putObj _ _ _ hL), hl4, hk4⟩, hh⟩⟩
      | exit id =>
        obtain ⟨hk3, hi3⟩ := hp
        obtain ⟨hr, hl4, hk4, hh⟩ := fin (some (.exit id)) W3 hk3
        exact ⟨_, _, hr, .inr ⟨rfl, ⟨_, hIx _ _ _ _ hi3 (Keep.putObj _ _ _ hL), hl4, hk4⟩, hh⟩⟩
      | goto t =>
        obtain ⟨hk3, hi3⟩ := hp
        obtain ⟨hr, hl4, hk4, hh⟩ := fin (some (.goto t)) W3 hk3
        exact ⟨_, _, hr, .inr ⟨rfl, ⟨_, hIx _ _ _ _ hi3 (Keep.putObj _ _ _ hL), hl4, hk4⟩, hh⟩⟩
      | panic ch => exact hp.elim
      | outgrown => exact hp.elim
    · -- behind the iterator
      rintro e W2 ⟨⟨v, rfl⟩, (⟨hi, hl, hk⟩ | ⟨i, hile, k, hi, hl, hk⟩)⟩
      · have hlt := (Array.getElem?_eq_some_iff.1 hl).1
        exact ⟨none, _, by have := run_endLoop (P := P) hl (by rw [hrec]; simp); rw [hrec] at this; exact this,
          hdone _ (by simp; omega) (hI _ _ _ hi (Keep.putObj _ _ _ hL)) ((World.putObj_heap_other (by omega)).trans hk)⟩
      · have hlt := (Array.getElem?_eq_some_iff.1 hl).1
        exact ⟨some k, _, by have := run_endLoop (P := P) hl (by rw [hrec]; simp); rw [hrec] at this; exact this,
          wpIn_wide.2 (hstop k i _ (by simp; omega) hile (hIx _ _ _ _ hi (Keep.putObj _ _ _ hL)) ((World.putObj_heap_other (by omega)).trans hk))⟩

end Go.Cas
