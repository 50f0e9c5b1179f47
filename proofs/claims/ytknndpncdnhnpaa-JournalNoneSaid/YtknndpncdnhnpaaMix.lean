import Derived.StillTail
import Derived.OrdersHeld
import Derived.WalkKit
import Derived.Lib.Hide
namespace Go.Cas
open Go.RowKit
section
variable {P : Program} {Q : Exit → Act → World → Prop} {S : World → Prop}

/-- the number i of a list, laid open as it is asked -/
def nth {α : Type} : List α → Nat → Option α
  | [], _ => none
  | x :: _, 0 => some x
  | _ :: l, n + 1 => nth l n
theorem nth_eq {α : Type} : ∀ (l : List α) (i : Nat), nth l i = l[i]?
  | [], i => by simp [nth]
  | x :: l, 0 => rfl
  | x :: l, n + 1 => by simp [nth, nth_eq l n]
theorem nth_arr {α : Type} {l : List α} {i : Nat} {x : α} (h : nth l i = some x) : l.toArray[i]? = some x := by rw [nth_eq] at h; simpa using h
/-- Behind an operation it goes on as K says. -/
def exitTo (Q : Exit → Act → World → Prop) (K : Act → World → Prop) : Exit → Act → World → Prop
  | .normal, a, w => K a w
  | e, a, w => Q e a w

/-- a class of worlds, behind a name -/
def Held (p : World → Prop) (w : World) : Prop := p w
theorem Held.mk {p : World → Prop} {w : World} (h : p w) : Held p w := h
theorem Held.out {p : World → Prop} {w : World} (h : Held p w) : p w := h

/-- The head of a region in whatever order (S is kept all along), its last operations in theirs. -/
def wpAnyT (P : Program) (l : List Oper) (Q : Exit → Act → World → Prop) (S : World → Prop) (k : Nat) : Nat → Array Bool → Act → World → Prop
  | 0, listed, a, w => Region.seqB .any l.toArray (l.length - k) k listed = true ∧ wpList P l.toArray Q (l.drop k) a w
  | f + 1, listed, a, w => Region.ready .any l.toArray listed ≠ [] ∧ ∀ i ∈ Region.ready .any l.toArray listed, i < k ∧ wpOp P l.toArray Q i (fun a' w' => S w' ∧ wpAnyT P l Q S k f (listed.setIfInBounds i true) a' w') a w

variable {l : List Oper} {k : Nat}
theorem any_of_T : ∀ (f : Nat) (listed : Array Bool) (a : Act) (w : World), wpAnyT P l Q S k f listed a w → wpAny P .any l.toArray Q (f + (l.length - k)) listed a w
  | 0, listed, a, w, h => by
    rw [Nat.zero_add]
    have := wpAny_of_seq (P := P) (md := .any) (ops := l.toArray) (Q' := Q) (l.drop k) k listed a w (fun j => by simp [List.getElem?_drop]) (by simpa using h.1) h.2
    simpa using this
  | f + 1, listed, a, w, h => by
    rw [show f + 1 + (l.length - k) = (f + (l.length - k)) + 1 by omega]
    exact ⟨fun h0 => absurd h0 h.1, fun i hi => wpOp_mono (fun a' w' h' => any_of_T f _ a' w' h'.2) (h.2 i hi).2⟩

/-- What is reckoned of the region, once. -/
def mixB (l : List Oper) (k : Nat) : Bool := Region.noSelect l.toArray && (decide (k = l.length) || (decide (k < l.length) && Region.sinkB .any l.toArray k && Region.chainB .any l.toArray k))

theorem T_first {i : Nat} {oi : Oper} {v : Value} (hB : mixB l k = true) (hi : l.toArray[i]? = some oi) (hik : i < k)
    (hQ : ∀ c a w, Q (.panic c) (a.put oi.dst v) w → Q (.panic c) a w) :
    ∀ (f : Nat) (listed : Array Bool) (a : Act) (w : World), HeadInv .any l.toArray k listed →
      (∀ j oj, l.toArray[j]? = some oj → j ≠ i → listed.getD j true = false → (∀ e ∈ oj.after, Region.binds .any e = true → e.on ≠ i) → oi.apart l.toArray oj = true) →
      i ∈ Region.ready .any l.toArray listed → YieldsIf P l.toArray S oi v a → S w →
      wpAnyT P l Q S k f (listed.setIfInBounds i true) (a.put oi.dst v) w → wpAnyT P l Q S k (f + 1) listed a w := by
  simp only [mixB, Bool.and_eq_true, Bool.or_eq_true, decide_eq_true_eq] at hB
  obtain ⟨hsel, hk⟩ := hB
  have hsel' := Region.noSelect_spec hsel
  intro f
  induction f with
  | zero =>
    intro listed a w inv _ hr hy hS H
    refine ⟨fun h => (by rw [h] at hr; cases hr), fun j hj => ?_⟩
    have hun := (mem_ready.1 hr).1
    have hjk : j < k := by
      rcases Nat.lt_or_ge j k with h' | h'
      · exact h'
      · rcases hk with hk | ⟨⟨hk, hsk⟩, hch⟩
        · obtain ⟨_, ot, hot, _⟩ := mem_ready.1 hj
          have htlt : j < l.toArray.size := (Array.getElem?_eq_some_iff.1 hot).1
          rw [List.size_toArray] at htlt
          omega
        · exact absurd hj (tail_waits hsk hch (by simpa using hk) inv _ i rfl hik hun j h')
    by_cases hji : j = i
    · subst hji; exact ⟨hjk, hy.wpOp hi hS ⟨hS, H⟩⟩
    · have h1 := ready_mono hj hji
      have h2 := seqB_ready H.1 j h1
      omega
  | succ f ih =>
    intro listed a w inv hfree hr hy hS H
    refine ⟨fun h => (by rw [h] at hr; cases hr), fun j hj => ?_⟩
    by_cases hji : j = i
    · subst hji; exact ⟨hik, hy.wpOp hi hS ⟨hS, H⟩⟩
    · obtain ⟨hjk, h1⟩ := H.2 j (ready_mono hj hji)
      refine ⟨hjk, ?_⟩
      obtain ⟨hjun, oj, hoj, hall⟩ := mem_ready.1 hj
      have hnot : ∀ e ∈ oj.after, Region.binds .any e = true → e.on ≠ i := fun e he hb heq => by
        have h1 := hall e he hb
        have h0 := (mem_ready.1 hr).1
        rw [heq, getD_both h0] at h1
        cases h1
      have h2 := wpOp_putIf hoj (hfree j oj hoj hji hjun hnot) (fun cs b => hsel' i oi cs b hi) (fun cs b => hsel' j oj cs b hoj) hQ hy h1
      have hfree' : ∀ m om, l.toArray[m]? = some om → m ≠ i → (listed.setIfInBounds j true).getD m true = false →
          (∀ e ∈ om.after, Region.binds .any e = true → e.on ≠ i) → oi.apart l.toArray om = true := fun m om hm hmi hun hno => by
        refine hfree m om hm hmi ?_ hno
        by_cases hjm : j = m
        · subst hjm; exact hjun
        · rw [getD_set_ne true hjm] at hun; exact hun
      refine wpOp_mono (fun a' w' h3 => ⟨h3.2.1, ih (listed.setIfInBounds j true) a' w' (inv.set hj hjk) hfree' (ready_mono hr (Ne.symm hji)) h3.1 h3.2.1 ?_⟩) h2
      rw [Array.setIfInBounds_comm _ _ hji]
      exact h3.2.2

/-- How the walk goes through such a region. -/
def Mix (P : Program) (l : List Oper) (Q : Exit → Act → World → Prop) (S : World → Prop) (k : Nat) (f : Nat) (listed : Array Bool) (a : Act) (w : World) : Prop :=
  mixB l k = true → HeadInv .any l.toArray k listed → wpAnyT P l Q S k f listed a w

theorem mix_begin {id : Nat} {a : Act} {w : World} (k : Nat) (S : World → Prop) (hm : P.follows .mixedOrders = true) (hB : mixB l k = true) (hS : S w.drew)
    (h : S w.drew → Mix P l Q S k k (Array.replicate l.length false) a w.drew) : (Code.region id l.toArray true).wp P Q a w := by
  have hk : k ≤ l.length := by
    simp only [mixB, Bool.and_eq_true, Bool.or_eq_true, decide_eq_true_eq] at hB
    rcases hB.2 with h | h
    · omega
    · exact Nat.le_of_lt h.1.1
  refine wp_region_any hm ?_
  have := any_of_T k _ a _ (h hS hB ⟨by simp, fun j oj _ hl => (by rw [getD_replicate_false] at hl; cases hl), fun t _ ht => getD_in (by simpa using ht) (getD_replicate_false _ _)⟩)
  rw [show k + (l.length - k) = l.length from by omega] at this
  simpa using this
/-- Number i is taken first: it yields v in every world that meets S. -/
theorem mix_take (i : Nat) {oi : Oper} {v : Value} {f : Nat} {listed : Array Bool} {a : Act} {w : World} (hi : nth l i = some oi) (hik : i < k)
    (hf : Region.free .any l.toArray listed i = true) (hr : (Region.ready .any l.toArray listed).contains i = true)
    (hQ : ∀ c a w, Q (.panic c) (a.put oi.dst v) w → Q (.panic c) a w) (hS : S w) (hw : Region.wanted oi (yielded l.toArray a.tmps) = true) (hy : ∀ w, S w → (execOp a.eval oi).run P w = .ok (.value v) w)
    (h : Mix P l Q S k f (listed.setIfInBounds i true) (a.put oi.dst v) w) : Mix P l Q S k (f + 1) listed a w := fun hB inv =>
  T_first hB (nth_arr hi) hik hQ f listed a w inv (Region.free_spec (nth_arr hi) hf) (by simpa using hr) (.inl ⟨hw, hy⟩) hS (h hB (inv.set (by simpa using hr) hik))
/-- Number i does not run: its guard says no. -/
theorem mix_skip (i : Nat) {oi : Oper} {f : Nat} {listed : Array Bool} {a : Act} {w : World} (hi : nth l i = some oi) (hik : i < k)
    (hf : Region.free .any l.toArray listed i = true) (hr : (Region.ready .any l.toArray listed).contains i = true)
    (hQ : ∀ c a w, Q (.panic c) (a.put oi.dst undef) w → Q (.panic c) a w) (hS : S w) (hw : Region.wanted oi (yielded l.toArray a.tmps) = false)
    (h : Mix P l Q S k f (listed.setIfInBounds i true) (a.put oi.dst undef) w) : Mix P l Q S k (f + 1) listed a w := fun hB inv =>
  T_first hB (nth_arr hi) hik hQ f listed a w inv (Region.free_spec (nth_arr hi) hf) (by simpa using hr) (.inr ⟨hw, rfl⟩) hS (h hB (inv.set (by simpa using hr) hik))

theorem wpOp_of_list {ops : Array Oper} {i : Nat} {o : Oper} {K : Act → World → Prop} {a : Act} {w : World} (ho : ops[i]? = some o) (h : wpList P ops (exitTo Q K) [o] a w) : wpOp P ops Q i K a w := by
  unfold wpOp
  simp only [ho]
  simp only [wpList] at h
  split
  · rename_i hw
    rw [if_pos hw] at h
    rcases h with h | ⟨h1, h2⟩
    · left
      unfold Oper.wp at *
      generalize (execOp a.eval o).run P w = r at *
      cases r with
      | ok n w' =>
        cases n <;> simp only [Oper.upon] at h ⊢
        case value u => exact h
        case skip => exact h
        case defer d => exact h
        case enter f args =>
          refine Calls.mono h fun e w'' he => ?_
          cases e with
          | returned u => exact he
          | panicked c => exact he
          | outgrown => exact he
        case row row args => exact Rows.mono h fun u w'' he => he
      | halt x w' =>
        cases x <;> simp only [Oper.upon] at h ⊢
        case panic u => exact h
    · exact .inr ⟨h1, h2⟩
  · rename_i hw
    rw [if_neg hw] at h
    exact h
/-- Only number i may come up: it is carried out here. -/
theorem mix_step (i : Nat) {o : Oper} {f : Nat} {listed : Array Bool} {a : Act} {w : World} (ho : nth l i = some o) (hik : i < k) (hr : Region.ready .any l.toArray listed = [i])
    (h : wpList P l.toArray (exitTo Q fun a' w' => S w' ∧ Mix P l Q S k f (listed.setIfInBounds i true) a' w') [o] a w) : Mix P l Q S k (f + 1) listed a w := fun hB inv => by
  refine ⟨fun h0 => (by rw [hr] at h0; cases h0), fun j hj => ?_⟩
  have hji : j = i := by rw [hr] at hj; simpa using hj
  subst hji
  exact ⟨hik, wpOp_mono (fun a' w' h' => ⟨h'.1, h'.2 hB (inv.set hj hik)⟩) (wpOp_of_list (nth_arr ho) h)⟩
/-- Two may come up: each is carried out. -/
theorem mix_two (i j : Nat) {oi oj : Oper} {f : Nat} {listed : Array Bool} {a : Act} {w : World} (hoi : nth l i = some oi) (hoj : nth l j = some oj) (hik : i < k) (hjk : j < k) (hr : Region.ready .any l.toArray listed = [i, j])
    (h1 : wpList P l.toArray (exitTo Q fun a' w' => S w' ∧ Mix P l Q S k f (listed.setIfInBounds i true) a' w') [oi] a w)
    (h2 : wpList P l.toArray (exitTo Q fun a' w' => S w' ∧ Mix P l Q S k f (listed.setIfInBounds j true) a' w') [oj] a w) : Mix P l Q S k (f + 1) listed a w := fun hB inv => by
  refine ⟨fun h0 => (by rw [hr] at h0; cases h0), fun m hm => ?_⟩
  have hmij : m = i ∨ m = j := by rw [hr] at hm; simpa using hm
  rcases hmij with rfl | rfl
  · exact ⟨hik, wpOp_mono (fun a' w' h' => ⟨h'.1, h'.2 hB (inv.set hm hik)⟩) (wpOp_of_list (nth_arr hoi) h1)⟩
  · exact ⟨hjk, wpOp_mono (fun a' w' h' => ⟨h'.1, h'.2 hB (inv.set hm hjk)⟩) (wpOp_of_list (nth_arr hoj) h2)⟩
theorem mix_out {f : Nat} {listed : Array Bool} {a : Act} {w : World} (hS : S w) (h : S w → Mix P l Q S k f listed a w) : exitTo Q (fun a' w' => S w' ∧ Mix P l Q S k f listed a' w') .normal a w := ⟨hS, h hS⟩
/-- The head is through: its last operations, in their order. -/
theorem mix_done {listed : Array Bool} {a : Act} {w : World} (hs : Region.seqB .any l.toArray (l.length - k) k listed = true) (h : wpList P l.toArray Q (l.drop k) a w) : Mix P l Q S k 0 listed a w := fun _ _ => ⟨hs, h⟩
end
end Go.Cas
