import Derived.Test.YtfkncnoomablaaaQuiet
import Derived.StillTail
namespace Go.Cas
open Go.RowKit
section
variable {F : Fence} {n : Nat} {P : Program} {C : World → Prop}

/-- a class of worlds, behind a name -/
def Cls (p : World → Prop) (w : World) : Prop := p w
theorem Cls.mk {p : World → Prop} {w : World} (h : p w) : Cls p w := h
theorem Cls.out {p : World → Prop} {w : World} (h : Cls p w) : p w := h
/-- an operation that does nothing, in the place of another -/
def idle (o : Oper) : Oper := { o with op := .move (.const undef), dst := none, guard := none }
def idled (l : List Oper) (k : Nat) : List Oper := l.take k ++ (l.drop k).map idle
def headOnly (m k : Nat) : Array Bool := ((List.range m).map fun i => decide (i < k)).toArray
/-- What is reckoned of a region whose last operations come in one order, behind all the others. -/
def regTB (l : List Oper) (k : Nat) : Bool :=
  Region.lexB .any (idled l k).toArray && decide (k < l.length) && Region.sinkB .any l.toArray k && Region.chainB .any l.toArray k &&
  Region.seqB .any l.toArray (l.length - k) k (headOnly l.length k) &&
  ((List.range k).all fun i => match l[i]? with | some o => (match o.guard with | some (j, _) => decide (j < k) | none => true) && (match o.op with | .defer _ => false | _ => true) | none => true) &&
  ((List.range l.length).all fun i => match l[i]? with | some o => o.after.all fun e => !Region.binds .any e || decide (e.on < i) | none => true)

theorem idled_len (l : List Oper) (k : Nat) : (idled l k).length = l.length := by simp [idled]; omega
theorem idled_lt {l : List Oper} {k i : Nat} (h : i < k) : (idled l k)[i]? = l[i]? := by
  unfold idled
  by_cases hl : i < l.length
  · rw [List.getElem?_append_left (by simp; omega), List.getElem?_take, if_pos h]
  · rw [List.getElem?_eq_none (by simp; omega), List.getElem?_eq_none (by omega)]
theorem idled_ge {l : List Oper} {k i : Nat} (h : k ≤ i) : (idled l k)[i]? = (l[i]?).map idle := by
  unfold idled
  by_cases hl : k ≤ l.length
  · rw [List.getElem?_append_right (by simp; omega), List.getElem?_map, List.getElem?_drop]
    congr 2
    simp; omega
  · rw [List.getElem?_eq_none (by simp; omega), List.getElem?_eq_none (by omega)]; rfl
theorem idled_after (l : List Oper) (k i : Nat) : ((idled l k).toArray[i]?).map (·.after) = (l.toArray[i]?).map (·.after) := by
  simp only [List.getElem?_toArray]
  by_cases h : i < k
  · rw [idled_lt h]
  · rw [idled_ge (by omega)]
    cases l[i]? <;> rfl
theorem idled_ready (l : List Oper) (k : Nat) (listed : Array Bool) : Region.ready .any (idled l k).toArray listed = Region.ready .any l.toArray listed := by
  unfold Region.ready
  have hs : (idled l k).toArray.size = l.toArray.size := by simp [idled_len]
  rw [hs]
  refine List.filter_congr fun i _ => ?_
  have := idled_after l k i
  cases h1 : (idled l k).toArray[i]? <;> cases h2 : l.toArray[i]? <;> simp_all
theorem idled_yielded (l : List Oper) {k j : Nat} (h : j < k) (tmps : Array Value) : yielded (idled l k).toArray tmps j = yielded l.toArray tmps j := by
  unfold yielded
  simp only [List.getElem?_toArray]
  rw [idled_lt h]

def guardLt (o : Oper) (k : Nat) : Prop := ∀ j b, o.guard = some (j, b) → j < k
theorem idled_wanted {l : List Oper} {k : Nat} {o : Oper} (h : guardLt o k) (tmps : Array Value) : Region.wanted o (yielded (idled l k).toArray tmps) = Region.wanted o (yielded l.toArray tmps) := by
  unfold Region.wanted
  split
  · rfl
  · rename_i j b hg
    rw [idled_yielded l (h j b hg)]

theorem quiet_move {l : List Oper} {k : Nat} {R : Act → Prop} : ∀ (l1 : List Oper) (a : Act), (∀ o ∈ l1, guardLt o k) → wpQuietIn F n P l.toArray C R l1 a → wpQuietIn F n P (idled l k).toArray C R l1 a
  | [], _, _, h => h
  | o :: l1, a, hg, h => by
    refine ⟨h.1, ?_⟩
    rw [idled_wanted (hg o (by simp))]
    have h2 := h.2
    split
    · rename_i hw
      rw [if_pos hw] at h2
      obtain ⟨v, h3, h4⟩ := h2
      exact ⟨v, h3, quiet_move l1 _ (fun x hx => hg x (by simp [hx])) h4⟩
    · rename_i hw
      rw [if_neg hw] at h2
      exact quiet_move l1 _ (fun x hx => hg x (by simp [hx])) h2
theorem quiet_app {ops : Array Oper} {R : Act → Prop} (l2 : List Oper) : ∀ (l1 : List Oper) (a : Act), wpQuietIn F n P ops C (fun a => wpQuietIn F n P ops C R l2 a) l1 a → wpQuietIn F n P ops C R (l1 ++ l2) a
  | [], _, h => h
  | o :: l1, a, h => by
    refine ⟨h.1, ?_⟩
    have h2 := h.2
    split
    · rename_i hw
      rw [if_pos hw] at h2
      obtain ⟨v, h3, h4⟩ := h2
      exact ⟨v, h3, quiet_app l2 l1 _ h4⟩
    · rename_i hw
      rw [if_neg hw] at h2
      exact quiet_app l2 l1 _ h2
theorem quiet_mono {ops : Array Oper} {R R' : Act → Prop} (hR : ∀ a, R a → R' a) : ∀ (l1 : List Oper) (a : Act), wpQuietIn F n P ops C R l1 a → wpQuietIn F n P ops C R' l1 a
  | [], _, h => hR _ h
  | o :: l1, a, h => by
    refine ⟨h.1, ?_⟩
    have h2 := h.2
    split
    · rename_i hw
      rw [if_pos hw] at h2
      obtain ⟨v, h3, h4⟩ := h2
      exact ⟨v, h3, quiet_mono hR l1 _ h4⟩
    · rename_i hw
      rw [if_neg hw] at h2
      exact quiet_mono hR l1 _ h2
theorem quiet_idle {ops : Array Oper} {R : Act → Prop} : ∀ (l2 : List Oper) (a : Act), R a → wpQuietIn F n P ops C R (l2.map idle) a
  | [], _, h => h
  | o :: l2, a, h => by
    refine ⟨fun w _ f hf => ?_, ?_⟩
    · simp [Oper.about, idle] at hf
    · rw [if_pos (by simp [Region.wanted, idle])]
      exact ⟨undef, fun w _ => ⟨rfl, rfl⟩, quiet_idle l2 _ h⟩

/-- Behind the head the idle operations bring to the end. -/
theorem any_idle {l : List Oper} {k : Nat} {R : Act → Prop} : ∀ (g j f : Nat) (listed : Array Bool) (a : Act), k ≤ j → Region.seqB .any l.toArray g j listed = true → wpAnyQIn F n P .any (idled l k).toArray C R f listed a → R a ∧ g ≤ f
  | 0, _, 0, _, _, _, _, h => ⟨h.2, Nat.le_refl _⟩
  | 0, _, f + 1, listed, _, _, hB, h => ⟨h.1 (by rw [idled_ready]; simpa [Region.seqB] using hB), Nat.zero_le _⟩
  | g + 1, j, 0, listed, _, _, hB, h => by
    have h1 := h.1
    rw [idled_ready] at h1
    simp only [Region.seqB, Bool.and_eq_true, decide_eq_true_eq] at hB
    rw [hB.1] at h1
    cases h1
  | g + 1, j, f + 1, listed, a, hj, hB, h => by
    simp only [Region.seqB, Bool.and_eq_true, decide_eq_true_eq] at hB
    have hr : j ∈ Region.ready .any (idled l k).toArray listed := by rw [idled_ready, hB.1]; simp
    have h1 := h.2 j hr
    obtain ⟨_, o, ho, _⟩ := mem_ready.1 hr
    rw [List.getElem?_toArray, idled_ge hj] at ho
    unfold qOpIn at h1
    rw [List.getElem?_toArray, idled_ge hj, ho] at h1
    obtain ⟨o0, _, rfl⟩ : ∃ o0, l[j]? = some o0 ∧ idle o0 = o := by cases hl : l[j]? <;> simp_all
    dsimp only at h1
    rw [if_pos (by simp [Region.wanted, idle])] at h1
    obtain ⟨_, v, _, hK⟩ := h1
    obtain ⟨hR, hle⟩ := any_idle g (j + 1) f _ _ (by omega) hB.2 hK
    exact ⟨hR, by omega⟩
/-- The last operations, in their order. -/
theorem any_seq {ops : Array Oper} {Q : Exit → Act → World → Prop} : ∀ (l : List Oper) (k f : Nat) (listed : Array Bool) (a : Act) (w : World), (∀ j, l[j]? = ops[k + j]?) → l.length ≤ f →
    Region.seqB .any ops l.length k listed = true → wpListIn F n P ops Q l a w → wpAnyIn F n P .any ops Q f listed a w
  | [], _, 0, _, _, _, _, _, hB, h => ⟨by simpa [Region.seqB] using hB, h⟩
  | [], _, f + 1, listed, _, _, _, _, hB, h => by
    have h0 : Region.ready .any ops listed = [] := by simpa [Region.seqB] using hB
    exact ⟨fun _ => h, fun i hi => by rw [h0] at hi; cases hi⟩
  | o :: l, k, 0, _, _, _, _, hf, _, _ => by simp at hf
  | o :: l, k, f + 1, listed, a, w, hl, hf, hB, h => by
    have h0 : ops[k]? = some o := by simpa using (hl 0).symm
    simp only [List.length_cons, Region.seqB, Bool.and_eq_true, decide_eq_true_eq] at hB
    refine ⟨fun h1 => (by rw [hB.1] at h1; cases h1), fun i hi => ?_⟩
    rw [hB.1] at hi
    have hik : i = k := by simpa using hi
    subst hik
    have hw : wpOpIn F n P ops Q i (wpListIn F n P ops Q l) a w := by unfold wpOpIn; simp only [h0]; exact h
    exact wpOpIn_mono (fun a' w' h' => any_seq l (i + 1) f _ a' w' (fun j => by have := hl (j + 1); simpa [Nat.add_assoc, Nat.add_comm 1 j] using this) (by simp at hf; omega) hB.2 h') hw
theorem head_only {l : List Oper} {k : Nat} {listed : Array Bool} (inv : HeadInv .any l.toArray k listed) (h : ∀ i, i < k → listed.getD i true = true) : listed = headOnly l.length k := by
  have hs := inv.size
  apply Array.ext
  · simp [headOnly, hs]
  · intro i h1 h2
    by_cases hi : i < k
    · have := h i hi
      simp [headOnly, hi] at this ⊢
      simpa [h1] using this
    · have := inv.tail i (by omega) (by simp at hs; simp; omega)
      simp [headOnly, hi] at this ⊢
      simpa [h1] using this
/-- What comes first is ready. -/
theorem ready_some {l : List Oper} {listed : Array Bool} (hs : listed.size = l.toArray.size) (hb : ∀ i o, l[i]? = some o → ∀ e ∈ o.after, Region.binds .any e = true → e.on < i) {i : Nat} (hi : i < l.length) (hu : listed.getD i true = false) : Region.ready .any l.toArray listed ≠ [] := by
  induction i using Nat.strongRecOn with
  | _ i ih =>
    by_cases hall : ∀ e ∈ l[i].after, Region.binds .any e = true → listed.getD e.on false = true
    · intro h
      have : i ∈ Region.ready .any l.toArray listed := mem_ready.2 ⟨hu, l[i], by simp [hi], hall⟩
      rw [h] at this
      cases this
    · simp only [Classical.not_forall] at hall
      obtain ⟨e, he, hbd, hl⟩ := hall
      have hlt := hb i l[i] (by simp [hi]) e he hbd
      refine ih e.on hlt (by omega) ?_
      have hsz : e.on < listed.size := by rw [hs]; simp; omega
      simp [hsz] at hl ⊢
      exact hl
theorem any_head {l : List Oper} {k : Nat} {Q : Exit → Act → World → Prop} (hk : k < l.length) (hsk : Region.sinkB .any l.toArray k = true) (hch : Region.chainB .any l.toArray k = true) (hsq : Region.seqB .any l.toArray (l.length - k) k (headOnly l.length k) = true)
    (hg : ∀ i o, i < k → l[i]? = some o → guardLt o k ∧ ∀ c, o.op ≠ .defer c) (hb : ∀ i o, l[i]? = some o → ∀ e ∈ o.after, Region.binds .any e = true → e.on < i) :
    ∀ (f : Nat) (listed : Array Bool) (a : Act) (w : World), HeadInv .any l.toArray k listed → C w → wpAnyQIn F n P .any (idled l k).toArray C (fun a' => ∀ w', C w' → wpListIn F n P l.toArray Q (l.drop k) a' w') f listed a → wpAnyIn F n P .any l.toArray Q f listed a w := by
  intro f
  induction f with
  | zero =>
    intro listed a w inv hC h
    by_cases hall : ∀ i, i < k → listed.getD i true = true
    · have e := head_only inv hall
      subst e
      obtain ⟨hR, hle⟩ := any_idle (l.length - k) k 0 _ a (Nat.le_refl _) hsq h
      omega
    · simp only [Classical.not_forall] at hall
      obtain ⟨i, hi, hu⟩ := hall
      have h1 := h.1
      rw [idled_ready] at h1
      exact absurd h1 (ready_some inv.size hb (i := i) (by omega) (by simpa using hu))
  | succ f ih =>
    intro listed a w inv hC h
    by_cases hall : ∀ i, i < k → listed.getD i true = true
    · have e := head_only inv hall
      subst e
      obtain ⟨hR, hle⟩ := any_idle (l.length - k) k (f + 1) _ a (Nat.le_refl _) hsq h
      exact any_seq (l.drop k) k (f + 1) _ a w (fun j => by simp [List.getElem?_drop]) (by simpa using hle) (by simpa using hsq) (hR w hC)
    · simp only [Classical.not_forall] at hall
      obtain ⟨i, hi, hu⟩ := hall
      have hu : listed.getD i true = false := by simpa using hu
      refine ⟨fun h0 => absurd h0 (ready_some inv.size hb (by omega) hu), fun j hj => ?_⟩
      have hjk : j < k := by
        rcases Nat.lt_or_ge j k with h' | h'
        · exact h'
        · exact absurd hj (tail_waits hsk hch (by simpa using hk) inv _ i rfl hi hu j h')
      have h1 := h.2 j (by rw [idled_ready]; exact hj)
      obtain ⟨_, o, ho, _⟩ := mem_ready.1 hj
      have hol : l[j]? = some o := by simpa using ho
      have hgo := hg j o hjk hol
      have inv' := inv.set hj hjk
      have h2 : qOpIn F n P l.toArray C j (wpAnyQIn F n P .any (idled l k).toArray C (fun a' => ∀ w', C w' → wpListIn F n P l.toArray Q (l.drop k) a' w') f (listed.setIfInBounds j true)) a := by
        unfold qOpIn at h1 ⊢
        rw [List.getElem?_toArray, idled_lt hjk, hol] at h1
        rw [ho]
        dsimp only at h1 ⊢
        rw [idled_wanted hgo.1] at h1
        exact h1
      unfold qOpIn at h2
      unfold wpOpIn
      simp only [ho] at h2 ⊢
      obtain ⟨ha, h2⟩ := h2
      split
      · rename_i hw
        simp only [hw, if_true] at h2
        exact quiet_op hgo.2 hC (fun a' w' hw' hx => ih _ a' w' inv' hw' hx) ha h2
      · rename_i hw
        simp only [hw] at h2
        exact ⟨ha w hC, ih _ _ w inv' hC h2⟩
/-- **A region that draws its order: at first what only reads, and calls that keep a class of worlds, in whatever order; then the last operations, in theirs.** -/
theorem region_tail {id : Nat} {Q : Exit → Act → World → Prop} {a : Act} {w : World} {l : List Oper} (k : Nat) (C : World → Prop) (hm : P.follows .mixedOrders = true) (hB : regTB l k = true) (hC : C { w with drawn := w.drawn + 1 })
    (h : wpQuietIn F n P l.toArray C (fun a' => ∀ w', C w' → wpListIn F n P l.toArray Q (l.drop k) a' w') (l.take k) a) : (Code.region id l.toArray true).wpIn F n P Q a w := by
  simp only [regTB, Bool.and_eq_true, decide_eq_true_eq] at hB
  obtain ⟨⟨⟨⟨⟨⟨hlex, hk⟩, hsk⟩, hch⟩, hsq⟩, hgd⟩, hbk⟩ := hB
  have hg : ∀ i o, i < k → l[i]? = some o → guardLt o k ∧ ∀ c, o.op ≠ .defer c := by
    intro i o hi ho
    have h1 := List.all_eq_true.1 hgd i (List.mem_range.2 hi)
    rw [ho] at h1
    simp only [Bool.and_eq_true] at h1
    refine ⟨fun j b hjb => ?_, fun c hc => ?_⟩
    · have := h1.1; rw [hjb] at this; simpa using this
    · have := h1.2; rw [hc] at this; cases this
  have hb : ∀ i o, l[i]? = some o → ∀ e ∈ o.after, Region.binds .any e = true → e.on < i := by
    intro i o ho e he hbd
    have hi := (List.getElem?_eq_some_iff.1 ho).1
    have h1 := List.all_eq_true.1 hbk i (List.mem_range.2 hi)
    rw [ho] at h1
    have h2 := Array.all_eq_true_iff_forall_mem.1 h1 e he
    simpa [hbd] using h2
  simp only [Region.lexB, Bool.and_eq_true] at hlex
  refine wpIn_region_any hm ?_
  have hq : wpQuietIn F n P (idled l k).toArray C (fun a' => ∀ w', C w' → wpListIn F n P l.toArray Q (l.drop k) a' w') (idled l k) a := by
    unfold idled
    refine quiet_app _ _ _ ?_
    refine quiet_move (k := k) (l.take k) a (fun o ho => ?_) ?_
    · obtain ⟨i, hi, rfl⟩ := List.mem_iff_getElem.1 ho
      rw [List.length_take] at hi
      exact (hg i _ (by omega) (by rw [List.getElem_take]; simp)).1
    · exact quiet_mono (fun a' h' => quiet_idle _ _ h') _ _ h
  have := wpAnyQIn_lex (F := F) (n := n) (C := C) (md := .any) hlex.1 (idled l k) 0 (Array.replicate (idled l k).toArray.size false) a (by simp) (by simpa using hlex.2) hq
  rw [show (idled l k).length = l.toArray.size from by simp [idled_len], show (idled l k).toArray.size = l.toArray.size from by simp [idled_len]] at this
  exact any_head hk hsk hch hsq hg hb _ _ a _ ⟨by simp, fun j oj _ hl => (by rw [getD_replicate_false] at hl; cases hl), fun t _ ht => getD_in (by simpa using ht) (getD_replicate_false _ _)⟩ hC this
end
end Go.Cas
