import Derived.RangeFuncNested
import Derived.RangeFuncBound
import Derived.RangeFuncCalls
import Derived.RangeFuncLeaves
import Derived.OwnWalkIn
import Derived.TacticsInMore
import Derived.LoopNIn
import Derived.LoopIn
import Derived.Shelf.Abstract
import Derived.Test.YtknndpncdnhnpaaBase
namespace Go.Cas
open Go.RowKit

/-! ### What is kept -/
/-- all that lay but the blocks of S lies as it lay -/
structure Keep (S : Nat → Prop) (A B : World) : Prop where
  os : B.os = A.os
  tape : B.tape = A.tape
  output : B.output = A.output
  size : A.heap.size ≤ B.heap.size
  block : ∀ k, k < A.heap.size → ¬ S k → B.heap[k]? = A.heap[k]?
/-- the blocks of R lie as they lay -/
structure Hold (R : Nat → Prop) (A B : World) : Prop where
  os : B.os = A.os
  tape : B.tape = A.tape
  output : B.output = A.output
  size : A.heap.size ≤ B.heap.size
  block : ∀ k, R k → B.heap[k]? = A.heap[k]?
section
variable {S R : Nat → Prop} {A B C : World}
theorem Keep.refl (S : Nat → Prop) (A : World) : Keep S A A := ⟨rfl, rfl, rfl, Nat.le_refl _, fun _ _ _ => rfl⟩
theorem Keep.trans (h : Keep S A B) (h' : Keep S B C) : Keep S A C :=
  ⟨h'.os.trans h.os, h'.tape.trans h.tape, h'.output.trans h.output, Nat.le_trans h.size h'.size, fun k hk hs => (h'.block k (Nat.lt_of_lt_of_le hk h.size) hs).trans (h.block k hk hs)⟩
theorem Keep.mono {S' : Nat → Prop} (h : Keep S A B) (hs : ∀ k, S k → S' k) : Keep S' A B := ⟨h.os, h.tape, h.output, h.size, fun k hk hn => h.block k hk fun x => hn (hs k x)⟩
theorem Keep.of_below (h : Below A.heap.size A B) : Keep S A B := ⟨h.os, h.tape, h.output, h.size, fun k hk _ => h.block k hk⟩
theorem Keep.alloc (A : World) (o : Obj) : Keep S A (A.alloc o) := Keep.of_below ((Below.refl _ _).alloc (Nat.le_refl _) o)
theorem Keep.putObj (A : World) (l : Nat) (o : Obj) (hl : S l) : Keep S A (A.putObj l o) :=
  ⟨rfl, rfl, rfl, by simp, fun k _ hn => World.putObj_heap_other (fun e => hn (by rw [e]; exact hl))⟩
theorem Keep.below {n : Nat} (h : Keep S A B) (hn : n ≤ A.heap.size) (hs : ∀ k, k < n → ¬ S k) : Below n A B := ⟨h.os, h.tape, h.output, h.size, fun k hk => h.block k (by omega) (hs k hk)⟩
theorem Keep.hold (h : Keep S A B) (hr : ∀ k, R k → k < A.heap.size ∧ ¬ S k) : Hold R A B := ⟨h.os, h.tape, h.output, h.size, fun k hk => h.block k (hr k hk).1 (hr k hk).2⟩
theorem Hold.refl (R : Nat → Prop) (A : World) : Hold R A A := ⟨rfl, rfl, rfl, Nat.le_refl _, fun _ _ => rfl⟩
theorem Hold.trans (h : Hold R A B) (h' : Hold R B C) : Hold R A C :=
  ⟨h'.os.trans h.os, h'.tape.trans h.tape, h'.output.trans h.output, Nat.le_trans h.size h'.size, fun k hk => (h'.block k hk).trans (h.block k hk)⟩
theorem Hold.mono {R' : Nat → Prop} (h : Hold R A B) (hs : ∀ k, R' k → R k) : Hold R' A B := ⟨h.os, h.tape, h.output, h.size, fun k hk => h.block k (hs k hk)⟩
theorem Hold.of_below {n : Nat} (h : Below n A B) (hr : ∀ k, R k → k < n) : Hold R A B := ⟨h.os, h.tape, h.output, h.size, fun k hk => h.block k (hr k hk)⟩
theorem Hold.cell (h : Hold R A B) {b i : Nat} (hb : R b) : B.cell? ⟨b, i, none⟩ = A.cell? ⟨b, i, none⟩ := World.cell?_of_block (h.block b hb)
theorem Hold.sl {k n cap : Nat} {a : Option Addr} {vs : List Value} (h : Hold R A B) (hs : Sl A k a n cap vs) (hr : ∀ ad, a = some ad → R ad.block) : Sl B k a n cap vs :=
  hs.keep fun b _ ad ha e => h.block b (by rw [← e]; exact hr ad ha)
theorem Hold.isB' {n cap : Nat} {a : Option Addr} {l : List UInt8} (h : Hold R A B) (hs : IsB A a n cap l) (hr : ∀ ad, a = some ad → 0 < cap → R ad.block) : IsB B a n cap l :=
  Sl.keep' hs fun b _ ad ha h0 e => h.block b (by rw [← e]; exact hr ad ha h0)
theorem Keep.isB' {n cap : Nat} {a : Option Addr} {l : List UInt8} (h : Keep S A B) (hs : IsB A a n cap l) (hr : ∀ ad, a = some ad → 0 < cap → ¬ S ad.block) : IsB B a n cap l :=
  Sl.keep' hs fun b hb ad ha h0 e => h.block b hb (by rw [← e]; exact hr ad ha h0)
theorem Hold.isB {n cap : Nat} {a : Option Addr} {l : List UInt8} (h : Hold R A B) (hs : IsB A a n cap l) (hr : ∀ ad, a = some ad → R ad.block) : IsB B a n cap l := h.sl hs hr
theorem Keep.sl {k n cap : Nat} {a : Option Addr} {vs : List Value} (h : Keep S A B) (hs : Sl A k a n cap vs) (hr : ∀ ad, a = some ad → ¬ S ad.block) : Sl B k a n cap vs :=
  hs.keep fun b hb ad ha e => h.block b hb (by rw [← e]; exact hr ad ha)
theorem Keep.isB {n cap : Nat} {a : Option Addr} {l : List UInt8} (h : Keep S A B) (hs : IsB A a n cap l) (hr : ∀ ad, a = some ad → ¬ S ad.block) : IsB B a n cap l := h.sl hs hr
theorem Keep.cell (h : Keep S A B) {b i : Nat} {v : Value} (hc : A.cell? ⟨b, i, none⟩ = some v) (hb : ¬ S b) : B.cell? ⟨b, i, none⟩ = some v := by
  have hlt : b < A.heap.size := World.block_lt_of_cell? A ⟨b, i, none⟩ hc
  exact (World.cell?_of_block (h.block b hlt hb)).trans hc
theorem Keep.frozen (h : Keep S A B) {b i : Nat} {v : Value} (hc : A.cell? ⟨b, i, none⟩ = some v) (hb : ¬ S b) : B.frozen? ⟨b, i, none⟩ = A.frozen? ⟨b, i, none⟩ := by
  have hlt : b < A.heap.size := World.block_lt_of_cell? A ⟨b, i, none⟩ hc
  exact World.frozen?_of_block (h.block b hlt hb)
end

/-! ### A variable in a block of its own -/
def Box (w : World) (b : Nat) (v : Value) : Prop := ∃ t, w.heap[b]? = some (.cells #[v] t (0, 0))
section
variable {w w' : World} {b : Nat} {v : Value}
theorem Box.cell (h : Box w b v) : w.cell? ⟨b, 0, none⟩ = some v := by obtain ⟨t, h⟩ := h; simp [World.cell?, h]
theorem Box.fz (h : Box w b v) : w.frozen? ⟨b, 0, none⟩ = false := by obtain ⟨t, h⟩ := h; simp [World.frozen?, h]
theorem Box.lt (h : Box w b v) : b < w.heap.size := by obtain ⟨t, h⟩ := h; exact (Array.getElem?_eq_some_iff.1 h).1
theorem Box.block (h : Box w b v) (he : w'.heap[b]? = w.heap[b]?) : Box w' b v := by obtain ⟨t, h⟩ := h; exact ⟨t, he.trans h⟩
theorem Box.later (h : Box w b v) (hb : Below w.heap.size w w') : Box w' b v := h.block (hb.block _ h.lt)
theorem Box.keep {S : Nat → Prop} (h : Box w b v) (hb : Keep S w w') (hs : ¬ S b) : Box w' b v := h.block (hb.block _ h.lt hs)
theorem Box.hold {R : Nat → Prop} (h : Box w b v) (hb : Hold R w w') (hr : R b) : Box w' b v := h.block (hb.block _ hr)
theorem Box.set (h : Box w b v) (u : Value) : Box (w.setCell ⟨b, 0, none⟩ u) b u := by
  obtain ⟨t, h⟩ := h
  exact ⟨t, by simp [World.setCell, Array.getElem?_modify, h]⟩
theorem Box.other (h : Box w b v) {p : Addr} (hp : b ≠ p.block) (u : Value) : Box (w.setCell p u) b v := h.block (Below.heap_setCell _ _ _ _ hp)
theorem Box.new (w : World) (v : Value) (t : TypeId) : Box (w.alloc (.cells #[v] t)) w.heap.size v := ⟨t, heap_alloc_new w _⟩
theorem Box.mk (w : World) (v : Value) (t : TypeId) {b : Nat} (hb : b = w.heap.size) : Box (w.alloc (.cells #[v] t)) b v := by subst hb; exact Box.new w v t
theorem Box.alloc (h : Box w b v) (o : Obj) : Box (w.alloc o) b v := h.later ((Below.refl _ _).alloc (Nat.le_refl _) o)
end
theorem Hold.setCell (R : Nat → Prop) (w : World) {p : Addr} (hp : ¬ R p.block) (u : Value) : Hold R w (w.setCell p u) :=
  ⟨rfl, rfl, rfl, by simp, fun k hk => Below.heap_setCell _ _ _ _ (fun e => hp (by rw [← e]; exact hk))⟩

/-- The walk goes on from whatever world of which F holds. -/
theorem wp_at {P : Program} {c : Code} {Q : Exit → Act → World → Prop} {a : Act} {w : World} (F : World → Prop) (hF : F w) (h : ∀ w', F w' → c.wp P Q a w') : c.wp P Q a w := h w hF

/-! ### An iterator's contract -/
/-- blocks from lo on, c of them -/
def Span (lo c : Nat) (k : Nat) : Prop := lo ≤ k ∧ k < lo + c
/-- It hands xs to its loop, one by one, as E says; c blocks that it lays first are its own; it reads the blocks of R. -/
def Iter {α : Type} (P : Program) (g : Nat) (lb : Array Value) (E : Nat → α → Array Value → World → Prop) (xs : List α) (c : Nat) (R : Nat → Prop) (w : World) : Prop :=
  ∀ (l : Nat) (J Jx : Nat → World → Prop) (W : World), Hold R w W → w.heap.size ≤ W.heap.size →
    (∀ i A B, J i A → Keep (Span W.heap.size c) A B → J i B) → (∀ i A B, Jx i A → Keep (Span W.heap.size c) A B → Jx i B) →
    (∀ i (hi : i < xs.length) vs A, J i A → E W.heap.size xs[i] vs A → W.heap.size + c ≤ A.heap.size →
      YieldAt Fence.wide 0 P l vs A fun e B => (e = .returned (.bool true) ∧ J (i + 1) B ∧ Hold (fun k => R k ∨ Span W.heap.size c k) A B) ∨ (e = .returned (.bool false) ∧ Jx (i + 1) B ∧ Hold (fun k => R k ∨ Span W.heap.size c k) A B)) →
    J 0 W → CallsIn Fence.wide 0 P g (#[.func (.yield l) #[] #[]] ++ lb) W fun e B => (∃ v, e = .returned v) ∧ (J xs.length B ∨ ∃ i, i ≤ xs.length ∧ Jx i B)

/-- How a round's body may be left. -/
def roundEnds (R : Nat → Prop) (I : Nat → World → Prop) (Ix : Code → Nat → World → Prop) (i : Nat) (A : World) : Exit → Act → World → Prop
  | .normal, _, B => Hold R A B ∧ I (i + 1) B
  | .ret, _, B => Hold R A B ∧ Ix .ret (i + 1) B
  | .exit id, _, B => Hold R A B ∧ Ix (.exit id) (i + 1) B
  | .goto t, _, B => Hold R A B ∧ Ix (.goto t) (i + 1) B
  | .panic _, _, _ => False
  | .outgrown, _, _ => False

/-- 'for .. := range g { .. }' -/
theorem wp_range {α : Type} {P : Program} {g : Operand} {ps : Array Tmp} {assign body : Code} {Q : Exit → Act → World → Prop} {a : Act} {w : World}
    {gf : Nat} {lb : Array Value} (hg : a.eval g = .func (.func gf) #[] lb) (eg : ∀ args w, (callFunc gf args).run P w = .ok (.enter gf args) w)
    {E : Nat → α → Array Value → World → Prop} {xs : List α} {c : Nat} {R : Nat → Prop} {w0 : World} (hit : Iter P gf lb E xs c R w0) (hw0 : Hold R w0 w) (hsz0 : w0.heap.size ≤ w.heap.size) (hR : ∀ k, R k → k < w.heap.size)
    (hps : ∀ x vs A, E (w.heap.size + 2) x vs A → vs.size = ps.size) (hE : ∀ x vs A B, E (w.heap.size + 2) x vs A → Keep (Span w.heap.size 2) A B → E (w.heap.size + 2) x vs B)
    (I : Nat → World → Prop) (Ix : Code → Nat → World → Prop) (hI : ∀ i A B, I i A → Keep (Span w.heap.size (c + 2)) A B → I i B) (hIx : ∀ k i A B, Ix k i A → Keep (Span w.heap.size (c + 2)) A B → Ix k i B)
    (h0 : I 0 w) (a₁ : Array Value → Act)
    (hassign : ∀ (l : Nat) (x : α) (vs : Array Value) (W : World) (K : Act → World → Prop), E (w.heap.size + 2) x vs W → K (a₁ vs) W →
      assign.wpIn (Fence.wide.inRound l) 0 P (Exit.then K (fun _ _ _ => False)) { tmps := (ps.zip vs).foldl (fun t (p, v) => t.setIfInBounds p v) a.tmps, defers := [] } W)
    (hbody : ∀ (l : Nat) (i : Nat) (hi : i < xs.length) (vs : Array Value) (A : World), I i A → E (w.heap.size + 2) xs[i] vs A → w.heap.size + (c + 2) ≤ A.heap.size →
      body.wpIn (Fence.wide.inRound l) 0 P (roundEnds (fun k => R k ∨ Span w.heap.size (c + 2) k) I Ix i A) (a₁ vs) A)
    (hdone : ∀ B, w.heap.size + 2 ≤ B.heap.size → I xs.length B → B.heap[w.heap.size]? = some (.deferred (some [])) → Q .normal { a with defers := { target := .collected w.heap.size, args := #[] } :: a.defers } B)
    (hstop : ∀ k i B, w.heap.size + 2 ≤ B.heap.size → i ≤ xs.length → Ix k i B → B.heap[w.heap.size]? = some (.deferred (some [])) → k.wp P Q { a with defers := { target := .collected w.heap.size, args := #[] } :: a.defers } B) :
    (Code.rangeFunc g ps assign body).wp P Q a w := by
  refine (wpIn_wide (n := 0)).1 ?_
  refine wpIn_rangeFunc ?_
  intro fn hfn
  show ∃ _, _
  rw [show Fence.wide.round = none from rfl]
  obtain ⟨rec, hrec⟩ : ∃ rec : LoopState → Option Code → Loop, rec = fun st pe => { state := st, pending := pe, fn, tmps := a.tmps, params := ps, assign, body, defers := w.heap.size } := ⟨_, rfl⟩
  obtain ⟨W1, hW1⟩ : ∃ W1, (w.alloc (.deferred (some []))).alloc (.loop (rec .ready none)) = W1 := ⟨_, rfl⟩
  have hs1 : W1.heap.size = w.heap.size + 2 := by rw [← hW1]; simp
  have hL1 : W1.heap[w.heap.size + 1]? = some (.loop (rec .ready none)) := by
    rw [← hW1]; have := World.alloc_heap_new (w.alloc (.deferred (some []))) (.loop (rec .ready none)); rwa [World.size_alloc] at this
  have hK1 : W1.heap[w.heap.size]? = some (.deferred (some [])) := by
    rw [← hW1]; exact (Below.heap_alloc _ _ _ (by simp)).trans (World.alloc_heap_new w _)
  have hb1 : Below w.heap.size w W1 := by
    rw [← hW1]; exact ((Below.refl _ w).alloc (Nat.le_refl _) _).alloc (by simp) _
  have hI1 : I 0 W1 := hI _ _ _ h0 (Keep.of_below hb1)
  refine ⟨w.heap.size + 1, [{ target := .collected w.heap.size, args := #[] }], W1, { target := .fn (.func gf) lb, args := #[.func (.yield (w.heap.size + 1)) #[] #[]] }, W1, gf,
    #[.func (.yield (w.heap.size + 1)) #[] #[]] ++ lb, W1, ?_, ?_, ?_, ?_, ?_, ?_⟩
  · rw [← hW1, hrec]; exact run_enterLoop_outer _ _ _ _ _
  · simp only [resolve, hg]
    simp [go_sem]
  · intro f' _; exact trivial
  · simp [invoke, go_sem, eg]
  · intro h; simp [Fence.wide] at h
  · have hD : Span w.heap.size (c + 2) w.heap.size := ⟨Nat.le_refl _, by omega⟩
    have hL : Span w.heap.size (c + 2) (w.heap.size + 1) := ⟨by omega, by omega⟩
    have hD2 : Span w.heap.size 2 w.heap.size := ⟨Nat.le_refl _, by omega⟩
    have hL2 : Span w.heap.size 2 (w.heap.size + 1) := ⟨by omega, by omega⟩
    have hsub : ∀ k, Span W1.heap.size c k → Span w.heap.size (c + 2) k := fun k hk => by unfold Span at *; omega
    have hnD : ¬ Span W1.heap.size c w.heap.size := by unfold Span; omega
    have hnL : ¬ Span W1.heap.size c (w.heap.size + 1) := by unfold Span; omega
    have keepAt : ∀ {k : Nat} {A B : World} {o : Obj}, A.heap[k]? = some o → Keep (Span W1.heap.size c) A B → ¬ Span W1.heap.size c k → B.heap[k]? = some o :=
      fun hk hkp hn => (hkp.block _ (Array.getElem?_eq_some_iff.1 hk).1 hn).trans hk
    refine (hit (w.heap.size + 1)
      (fun i W => I i W ∧ W.heap[w.heap.size + 1]? = some (.loop (rec .ready none)) ∧ W.heap[w.heap.size]? = some (.deferred (some [])))
      (fun i W => ∃ k, Ix k i W ∧ W.heap[w.heap.size + 1]? = some (.loop (rec .done (some k))) ∧ W.heap[w.heap.size]? = some (.deferred (some [])))
      W1 (hw0.trans (Hold.of_below hb1 hR)) (by omega)
      (fun i A B h hk => ⟨hI i A B h.1 (hk.mono hsub), keepAt h.2.1 hk hnL, keepAt h.2.2 hk hnD⟩)
      (fun i A B h hk => by
        obtain ⟨k, h1, h2, h3⟩ := h
        exact ⟨k, hIx k i A B h1 (hk.mono hsub), keepAt h2 hk hnL, keepAt h3 hk hnD⟩)
      ?_ ⟨hI1, hL1, hK1⟩).mono ?_
    · -- a round
      rintro i hi vs A ⟨hi1, hl, hk⟩ hEx hAs
      rw [hs1] at hEx hAs
      have hlt : w.heap.size + 1 < A.heap.size := (Array.getElem?_eq_some_iff.1 hl).1
      have hy := run_yield (P := P) (args := vs) hl (by rw [hrec]; exact hps _ vs A hEx)
      rw [hrec] at hy
      refine ⟨fn, _, assign, body, hy, roundIn_of_wpIn hfn (hassign _ xs[i] vs A _ hEx ⟨_, run_beginRound hl (by rw [hrec]), ?_⟩)⟩
      have hl2 : (A.putObj (w.heap.size + 1) (.loop { rec .ready none with state := .busy })).heap[w.heap.size + 1]? = some (.loop { rec .ready none with state := .busy }) := World.putObj_heap_same hlt
      have hk2 : (A.putObj (w.heap.size + 1) (.loop { rec .ready none with state := .busy })).heap[w.heap.size]? = some (.deferred (some [])) := (World.putObj_heap_other (by omega)).trans hk
      refine wpIn_mono (hbody _ i hi vs _ (hI _ _ _ hi1 (Keep.putObj _ _ _ hL)) (hE _ _ _ _ hEx (Keep.putObj _ _ _ hL2)) (by simp; omega)) ?_
      have hRL : ∀ k, (R k ∨ Span W1.heap.size c k) → k ≠ w.heap.size + 1 := by
        rintro k (h | h) e
        · have := hR k h; omega
        · unfold Span at h; omega
      have hput : ∀ (X : World) (o : Obj), Hold (fun k => R k ∨ Span W1.heap.size c k) X (X.putObj (w.heap.size + 1) o) := fun X o =>
        ⟨rfl, rfl, rfl, by simp, fun k hk => World.putObj_heap_other (hRL k hk)⟩
      have fin : ∀ (jump : Option Code) (W3 : World), Hold (fun k => R k ∨ Span w.heap.size (c + 2) k) (A.putObj (w.heap.size + 1) (.loop { rec .ready none with state := .busy })) W3 →
          (Instr.endRound (w.heap.size + 1) jump).run P W3 = .ok (.bool jump.isNone) (W3.putObj (w.heap.size + 1) (.loop (rec (if jump.isNone then .ready else .done) jump))) ∧
          (W3.putObj (w.heap.size + 1) (.loop (rec (if jump.isNone then .ready else .done) jump))).heap[w.heap.size + 1]? = some (.loop (rec (if jump.isNone then .ready else .done) jump)) ∧
          (W3.putObj (w.heap.size + 1) (.loop (rec (if jump.isNone then .ready else .done) jump))).heap[w.heap.size]? = some (.deferred (some [])) ∧
          Hold (fun k => R k ∨ Span W1.heap.size c k) A (W3.putObj (w.heap.size + 1) (.loop (rec (if jump.isNone then .ready else .done) jump))) := fun jump W3 hk3 => by
        have hl3 := (hk3.block _ (Or.inr hL)).trans hl2
        have hd3 := (hk3.block _ (Or.inr hD)).trans hk2
        have := run_endRound (P := P) jump hl3
        rw [hrec] at this ⊢
        exact ⟨this, World.putObj_heap_same (Array.getElem?_eq_some_iff.1 hl3).1, (World.putObj_heap_other (by omega)).trans hd3,
          ((hput A _).trans (hk3.mono (fun k hk => hk.imp id (hsub k)))).trans (hput W3 _)⟩
      rintro e a3 W3 hp
      cases e with
      | normal =>
        obtain ⟨hk3, hi3⟩ := hp
        obtain ⟨hr, hl4, hk4, hh⟩ := fin none W3 hk3
        exact ⟨_, _, hr, .inl ⟨rfl, ⟨hI _ _ _ hi3 (Keep.putObj _ _ _ hL), hl4, hk4⟩, hh⟩⟩
      | ret =>
        obtain ⟨hk3, hi3⟩ := hp
        obtain ⟨hr, hl4, hk4, hh⟩ := fin (some .ret) W3 hk3
        exact ⟨_, _, hr, .inr ⟨rfl, ⟨_, hIx _ _ _ _ hi3 (Keep.putObj _ _ _ hL), hl4, hk4⟩, hh⟩⟩
      | exit id =>
        obtain ⟨hk3, hi3⟩ := hp
        obtain ⟨hr, hl4, hk4, hh⟩ := fin (some (.exit id)) W3 hk3
        exact ⟨_, _, hr, .inr ⟨rfl, ⟨_, hIx _ _ _ _ hi3 (Keep.putObj _ _ _ hL), hl4, hk4⟩, hh⟩⟩
      | goto t =>
        obtain ⟨hk3, hi3⟩ := hp
        obtain ⟨hr, hl4, hk4, hh⟩ := fin (some (.goto t)) W3 hk3
        exact ⟨_, _, hr, .inr ⟨rfl, ⟨_, hIx _ _ _ _ hi3 (Keep.putObj _ _ _ hL), hl4, hk4⟩, hh⟩⟩
      | panic ch => exact hp.elim
      | outgrown => exact hp.elim
    · -- behind the iterator
      rintro e W2 ⟨⟨v, rfl⟩, (⟨hi, hl, hk⟩ | ⟨i, hile, k, hi, hl, hk⟩)⟩
      · have hlt := (Array.getElem?_eq_some_iff.1 hl).1
        exact ⟨none, _, by have := run_endLoop (P := P) hl (by rw [hrec]; simp); rw [hrec] at this; exact this,
          hdone _ (by simp; omega) (hI _ _ _ hi (Keep.putObj _ _ _ hL)) ((World.putObj_heap_other (by omega)).trans hk)⟩
      · have hlt := (Array.getElem?_eq_some_iff.1 hl).1
        exact ⟨some k, _, by have := run_endLoop (P := P) hl (by rw [hrec]; simp); rw [hrec] at this; exact this,
          wpIn_wide.2 (hstop k i _ (by simp; omega) hile (hIx _ _ _ _ hi (Keep.putObj _ _ _ hL)) ((World.putObj_heap_other (by omega)).trans hk))⟩

/-! ### A function that holds such loops -/
theorem calls_of_wp_marks {P : Program} {f : FuncId} {fn : Func} {c : Code} {args : Array Value} {w : World} {R : Ending → World → Prop}
    (hf : P.funcs[f]? = some fn) (hb : fn.body = some c)
    (h : c.wp P (bodyPostM Fence.wide 0 P fn R) { tmps := args ++ Array.replicate (fn.ntmps - args.size) undef, defers := [] } w) : Calls P f args w R :=
  callsIn_wide.1 (callsIn_of_wp_marks (F := Fence.wide) (n := 0) hf hb trivial (wpIn_wide.2 h))
theorem leave0 {P : Program} {fn : Func} {R : Ending → World → Prop} {tmps : Array Value} {w : World} {v : Value} (hr : (results fn tmps).run P w = .ok v w) (h : R (.returned v) w) :
    bodyPostM Fence.wide 0 P fn R .ret { tmps := tmps, defers := [] } w := ⟨v, hr, h⟩
theorem leave1 {P : Program} {fn : Func} {R : Ending → World → Prop} {tmps : Array Value} {w : World} {v : Value} {D : Nat} (hD : w.heap[D]? = some (.deferred (some [])))
    (hr : (results fn tmps).run P (w.putObj D (.deferred none)) = .ok v (w.putObj D (.deferred none))) (h : R (.returned v) (w.putObj D (.deferred none))) :
    bodyPostM Fence.wide 0 P fn R .ret { tmps := tmps, defers := [{ target := .collected D, args := #[] }] } w :=
  ⟨by simp, .inl ⟨_, _, rfl, run_takeDeferred hD, ⟨v, hr, h⟩⟩⟩
theorem leave1_end {P : Program} {fn : Func} {R : Ending → World → Prop} {tmps : Array Value} {w : World} {v : Value} {D : Nat} (hD : w.heap[D]? = some (.deferred (some [])))
    (hr : (results fn tmps).run P (w.putObj D (.deferred none)) = .ok v (w.putObj D (.deferred none))) (h : R (.returned v) (w.putObj D (.deferred none))) :
    bodyPostM Fence.wide 0 P fn R .normal { tmps := tmps, defers := [{ target := .collected D, args := #[] }] } w :=
  ⟨by simp, .inl ⟨_, _, rfl, run_takeDeferred hD, ⟨v, hr, h⟩⟩⟩
theorem below_putObj {n : Nat} {a w : World} (h : Below n a w) {D : Nat} (hD : n ≤ D) (o : Obj) : Below n a (w.putObj D o) :=
  h.trans ⟨rfl, rfl, rfl, by simp, fun k hk => World.putObj_heap_other (by omega)⟩
end Go.Cas
