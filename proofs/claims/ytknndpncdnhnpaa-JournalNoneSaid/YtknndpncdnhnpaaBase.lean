import Derived.WalkKit
import Derived.ScopeJumps
import Derived.WalkLawsBesides
import Derived.WalkSpells
import Derived.Lib.Hide
import Derived.Lib.AppendZeros
import Derived.Test.YtknndpncdnhnpaaPlain
namespace Go.Cas
open Go.RowKit

/-! ### A slice's elements in memory -/
/-- n elements of k cells each stand at a; up to cap there are cells. -/
def Sl (w : World) (k : Nat) (a : Option Addr) (n cap : Nat) (vs : List Value) : Prop :=
  vs.length = n * k ∧ n ≤ cap ∧ cap ≤ maxLen ∧ (a = none → cap = 0) ∧
  ∀ ad, a = some ad → 0 < cap → ad.spot = none ∧ ∃ cs e fr, w.heap[ad.block]? = some (.cells cs e fr) ∧ ad.off + cap * k ≤ cs.size ∧ ∀ i, i < n * k → cs[ad.off + i]? = vs[i]?
section
variable {w w' : World} {k n cap : Nat} {a : Option Addr} {vs : List Value}
theorem Sl.len (h : Sl w k a n cap vs) : vs.length = n * k := h.1
theorem Sl.le (h : Sl w k a n cap vs) : n ≤ cap := h.2.1
theorem Sl.big (h : Sl w k a n cap vs) : cap ≤ maxLen := h.2.2.1
theorem Sl.lt (h : Sl w k a n cap vs) {ad : Addr} (ha : a = some ad) (h0 : 0 < cap) : ad.block < w.heap.size := by
  obtain ⟨_, cs, e, fr, hh, _⟩ := h.2.2.2.2 ad ha h0
  exact (Array.getElem?_eq_some_iff.1 hh).1
theorem Sl.below' {B : Nat} (h : Sl w k a n cap vs) (hb : Below B w w') (hB : ∀ ad, a = some ad → 0 < cap → ad.block < B) : Sl w' k a n cap vs := by
  refine ⟨h.1, h.2.1, h.2.2.1, h.2.2.2.1, fun ad ha h0 => ?_⟩
  obtain ⟨hs, cs, e, fr, hh, r⟩ := h.2.2.2.2 ad ha h0
  exact ⟨hs, cs, e, fr, (hb.block _ (hB ad ha h0)).trans hh, r⟩
theorem Sl.below {B : Nat} (h : Sl w k a n cap vs) (hb : Below B w w') (hB : ∀ ad, a = some ad → ad.block < B) : Sl w' k a n cap vs := h.below' hb fun ad ha _ => hB ad ha
theorem Sl.later (h : Sl w k a n cap vs) (hb : Below w.heap.size w w') : Sl w' k a n cap vs := h.below' hb fun _ ha h0 => h.lt ha h0
theorem Sl.keep' (h : Sl w k a n cap vs) (hb : ∀ b, b < w.heap.size → (∀ ad, a = some ad → 0 < cap → ad.block = b → w'.heap[b]? = w.heap[b]?)) : Sl w' k a n cap vs := by
  refine ⟨h.1, h.2.1, h.2.2.1, h.2.2.2.1, fun ad ha h0 => ?_⟩
  obtain ⟨hs, cs, e, fr, hh, r⟩ := h.2.2.2.2 ad ha h0
  exact ⟨hs, cs, e, fr, (hb _ (h.lt ha h0) ad ha h0 rfl).trans hh, r⟩
theorem Sl.keep (h : Sl w k a n cap vs) (hb : ∀ b, b < w.heap.size → (∀ ad, a = some ad → ad.block = b → w'.heap[b]? = w.heap[b]?)) : Sl w' k a n cap vs := h.keep' fun b hb' ad ha _ => hb b hb' ad ha
theorem Sl.alloc (h : Sl w k a n cap vs) (o : Obj) : Sl (w.alloc o) k a n cap vs := h.later ((Below.refl _ _).alloc (Nat.le_refl _) o)
theorem Sl.drew (h : Sl w k a n cap vs) : Sl w.drew k a n cap vs := h
theorem Sl.setCell (h : Sl w k a n cap vs) {p : Addr} (hp : ∀ ad, a = some ad → ad.block ≠ p.block) (u : Value) : Sl (w.setCell p u) k a n cap vs :=
  h.keep fun b _ ad ha e => Below.heap_setCell _ _ _ _ (by rw [← e]; exact hp ad ha)
/-- It is nil and empty, or it starts at a cell. -/
theorem Sl.cases (h : Sl w k a n cap vs) : (n = 0 ∧ cap = 0) ∨ ∃ b off, a = some ⟨b, off, none⟩ ∧ b < w.heap.size := by
  by_cases h0 : 0 < cap
  · right
    cases ha : a with
    | none => have := h.2.2.2.1 ha; omega
    | some ad =>
      have := h.lt ha h0
      obtain ⟨hs, _⟩ := h.2.2.2.2 ad ha h0
      exact ⟨ad.block, ad.off, by cases ad; simp_all, this⟩
  · have := h.2.1
    left; exact ⟨by omega, by omega⟩
theorem Sl.some_of_lt (h : Sl w k a n cap vs) (h0 : 0 < cap) : ∃ b off, a = some ⟨b, off, none⟩ ∧ b < w.heap.size := by
  rcases h.cases with ⟨_, h2⟩ | h
  · omega
  · exact h
theorem Sl.cell {b off i : Nat} (h : Sl w k (some ⟨b, off, none⟩) n cap vs) (hi : i < n * k) : w.cell? ⟨b, off + i, none⟩ = vs[i]? := by
  obtain ⟨_, cs, e, fr, hh, _, hc⟩ := h.2.2.2.2 _ rfl (by have := h.2.1; cases cap with | zero => simp_all | succ c => omega)
  rw [← hc i hi]
  exact cell_of_row w b _ cs e fr hh
theorem Sl.nil (w : World) (k : Nat) : Sl w k none 0 0 [] := ⟨by simp, Nat.le_refl _, Nat.zero_le _, fun _ => rfl, fun _ h => by cases h⟩
/-- A piece: s[lo:hi:mx]. -/
theorem Sl.piece (h : Sl w k a n cap vs) {lo hi mx : Nat} (h1 : lo ≤ hi) (h2 : hi ≤ n) (h3 : hi ≤ mx) (h4 : mx ≤ cap) {a' : Option Addr}
    (ha' : a' = if mx = lo then a else a.map (·.add (lo * k))) (_h0 : mx = lo → a = none → lo = 0) :
    Sl w k a' (hi - lo) (mx - lo) ((vs.drop (lo * k)).take ((hi - lo) * k)) := by
  subst ha'
  have hl := h.1
  have hm1 : hi * k ≤ n * k := Nat.mul_le_mul_right k h2
  have hm2 : (hi - lo) * k = hi * k - lo * k := Nat.sub_mul hi lo k
  have hm3 : lo * k ≤ hi * k := Nat.mul_le_mul_right k h1
  have hm4 : (mx - lo) * k = mx * k - lo * k := Nat.sub_mul mx lo k
  have hm5 : mx * k ≤ cap * k := Nat.mul_le_mul_right k h4
  have hm6 : lo * k ≤ mx * k := Nat.mul_le_mul_right k (by omega)
  refine ⟨by rw [List.length_take, List.length_drop]; omega, by omega, by have := h.2.2.1; omega, ?_, ?_⟩
  · intro hn
    split at hn
    · omega
    · simp at hn; have := h.2.2.2.1 hn; omega
  · intro ad had hz0
    split at had
    · omega
    · cases ha : a with
      | none => rw [ha] at had; simp at had
      | some a0 =>
        rw [ha] at had
        simp only [Option.map_some, Option.some.injEq] at had
        subst had
        obtain ⟨hs, cs, e, fr, hh, hsz, hc⟩ := h.2.2.2.2 a0 ha (by omega)
        have hadd : (a0.add (lo * k)).block = a0.block ∧ (a0.add (lo * k)).off = a0.off + lo * k ∧ (a0.add (lo * k)).spot = none := by
          unfold Addr.add; split
          · rename_i hz; simp [hz, hs]
          · simp
        refine ⟨hadd.2.2, cs, e, fr, by rw [hadd.1]; exact hh, by rw [hadd.2.1, hm4]; omega, fun i hi' => ?_⟩
        rw [hadd.2.1, Nat.add_assoc, hc _ (by omega), List.getElem?_take, if_pos hi', List.getElem?_drop]
end

/-! ### Rows of the call's own -/
theorem ownsRow_slice {w : World} {base : Nat} {e : TypeId} {k : Nat} {v : Value} {n : Nat} {vs : List Value} (h : w.ownsRow base e k v n vs) :
    ∃ a cap, v = .slice a n cap ∧ Sl w k a n cap vs := by
  obtain ⟨h1, ⟨rfl, rfl⟩ | ⟨g, cap, cur, rfl, hb, hg, hn, hm, hs, ht⟩⟩ := h
  · refine ⟨none, 0, rfl, ?_⟩
    have : vs = [] := List.eq_nil_of_length_eq_zero (by simpa using h1)
    subst this
    exact Sl.nil w k
  · refine ⟨_, cap, rfl, h1, hn, hm, (fun e => by cases e), fun ad ha _ => ?_⟩
    cases ha
    refine ⟨rfl, cur, e, (0, 0), hg, by simp [hs], fun i hi => ?_⟩
    rw [← ht, List.getElem?_take, if_pos hi]
    simp
theorem ownsRow_mono {w : World} {base base' : Nat} {e : TypeId} {k : Nat} {v : Value} {n : Nat} {vs : List Value} (h : w.ownsRow base e k v n vs) (hb : base' ≤ base) : w.ownsRow base' e k v n vs := by
  refine ⟨h.1, ?_⟩
  rcases h.2 with h | ⟨g, cap, cur, hv, hg, r⟩
  · exact .inl h
  · exact .inr ⟨g, cap, cur, hv, by omega, r⟩
theorem ownsRow_later {w w' : World} {base : Nat} {e : TypeId} {k : Nat} {v : Value} {n : Nat} {vs : List Value} (h : w.ownsRow base e k v n vs) (hb : Below w.heap.size w w') : w'.ownsRow base e k v n vs := by
  refine ⟨h.1, ?_⟩
  rcases h.2 with h | ⟨g, cap, cur, hv, hg, hh, r⟩
  · exact .inl h
  · exact .inr ⟨g, cap, cur, hv, hg, by rw [hb.block g (Array.getElem?_eq_some_iff.1 hh).1]; exact hh, r⟩

/-- 'append(out, xs...)' TO A ROW OF THE CALL's OWN, whatever is appended. -/
theorem wpList_append_sl {P : Program} {w : World} {ops : Array Oper} {rest : List Oper} {o : Oper} {a : Act} {Q : Exit → Act → World → Prop} (hgd : o.guard = none) (s x : Operand) (t : TypeId)
    (ho : o.op = .call { callee := .builtin .append, args := #[s, x], argTypes := #[t, t] })
    (base : Nat) (e : TypeId) (z : Value) (k bytes : Nat) (ht : P.underlying t = some (.slice e)) (hinfo : (P.info? e).map (fun i => (i.zero, i.size, i.bytes)) = some (some z, k, bytes))
    (hzs : z.cells.size = k) (hk : 0 < k)
    (v : Value) (n : Nat) (xs : List Value) (hs : a.eval s = v) (hown : w.ownsRow base e k v n xs)
    (ad : Option Addr) (m c : Nat) (ys : List Value) (hx : a.eval x = .slice ad m c) (hsl : Sl w k ad m c ys) (h1 : ∀ u ∈ ys, u.oneCell' = true)
    (hbytes : (n + m) * bytes ≤ 140737488355328) (hmax : n + m ≤ maxLen) (hbase : base ≤ w.heap.size)
    (h : ∀ a' cap' w', w'.ownsRow base e k (.slice a' (n + m) cap') (n + m) (xs ++ ys) → w.grownBy w' v.ownBlock → (a' = none ↔ v = .slice none 0 0 ∧ m = 0) →
      wpList P ops Q rest (a.put o.dst (.slice a' (n + m) cap')) w') : wpList P ops Q (o :: rest) a w := by
  obtain ⟨i, hi, hz, hsize, hby⟩ := info_parts hinfo
  cases ad with
  | none =>
    have hc : c = 0 := hsl.2.2.2.1 rfl
    have hm : m = 0 := by have := hsl.le; omega
    subst hm
    have hys : ys = [] := List.eq_nil_of_length_eq_zero (by simpa using hsl.len)
    subst hys hc
    obtain ⟨a', cap', hv, hsl'⟩ := ownsRow_slice hown
    subst hv
    refine wpList_plain hgd fun K hK' => ?_
    have hrun := run_append_owned_none (P := P) w base t o.type e i k ht hi _ n xs hown
    unfold Oper.wp
    simp [execOp, ho, resolve, invoke, builtin, hs, hx, hrun, Result.andThen]
    refine hK' _ _ (h a' cap' w (by simpa using hown) (World.grownBy.refl _ _) ?_)
    constructor
    · intro hn
      subst hn
      have h0 := hsl'.2.2.2.1 rfl
      have := hsl'.le
      simp only [and_true, Value.slice.injEq, true_and]
      omega
    · intro hn
      simp only [and_true, Value.slice.injEq] at hn
      exact hn.1
  | some ad =>
    refine wpList_append_own w hgd s x t ho base e i z k bytes ht hi hz hsize hby hzs hk v n xs hs hown ad m c ys hx hsl.len ?_ h1 hmax hbytes hbase ?_
    · intro j u hu
      have hj : j < m * k := by have := (List.getElem?_eq_some_iff.1 hu).1; rw [hsl.len] at this; exact this
      have hc0 : 0 < c := by have := hsl.le; cases m with | zero => omega | succ m => omega
      obtain ⟨hsp, cs, e', fr, hh, hsz, hc⟩ := hsl.2.2.2.2 ad rfl hc0
      have hadd : ad.add j = ⟨ad.block, ad.off + j, none⟩ := by
        unfold Addr.add; split
        · rename_i hz; cases ad; simp_all
        · rfl
      rw [hadd]
      exact (cell_of_row w _ _ cs e' fr hh).trans ((hc j hj).trans hu)
    · intro v' w' ho' hg hnil
      obtain ⟨a', cap', rfl, _⟩ := ownsRow_slice ho'
      refine h a' cap' w' ho' hg ⟨fun hn => hnil.1 ?_, fun hn => ?_⟩
      · subst hn
        obtain ⟨_, ⟨hv, h0⟩ | ⟨g, cap, cur, hv, _⟩⟩ := ho'
        · exact hv
        · cases hv
      · have := hnil.2 hn; simp only [Value.slice.injEq] at this; exact this.1

/-! ### Bytes -/
def bv (c : UInt8) : Value := .int .u8 (c.toNat : Int)
def bvs (l : List UInt8) : List Value := l.map bv
theorem bvs_len (l : List UInt8) : (bvs l).length = l.length := List.length_map _
theorem bvs_append (a b : List UInt8) : bvs (a ++ b) = bvs a ++ bvs b := List.map_append
theorem bvs_one (l : List UInt8) : ∀ u ∈ bvs l, u.oneCell' = true := by
  intro u hu
  obtain ⟨c, _, rfl⟩ := List.mem_map.1 hu
  rfl
theorem bvs_get (l : List UInt8) {i : Nat} (h : i < l.length) : (bvs l)[i]? = some (.int .u8 ((l.getD i 0).toNat : Int)) := by
  simp [bvs, bv, List.getD, h]
/-- a slice of bytes. -/
def IsB (w : World) (a : Option Addr) (n cap : Nat) (l : List UInt8) : Prop := Sl w 1 a n cap (bvs l)
section
variable {w w' : World} {n cap : Nat} {a : Option Addr} {l : List UInt8}
theorem IsB.len (h : IsB w a n cap l) : l.length = n := by have := Sl.len h; rw [bvs_len] at this; omega
theorem IsB.le (h : IsB w a n cap l) : n ≤ cap := Sl.le h
theorem IsB.big (h : IsB w a n cap l) : cap ≤ maxLen := Sl.big h
theorem IsB.later (h : IsB w a n cap l) (hb : Below w.heap.size w w') : IsB w' a n cap l := Sl.later h hb
theorem IsB.below' {B : Nat} (h : IsB w a n cap l) (hb : Below B w w') (hB : ∀ ad, a = some ad → 0 < cap → ad.block < B) : IsB w' a n cap l := Sl.below' h hb hB
theorem IsB.below {B : Nat} (h : IsB w a n cap l) (hb : Below B w w') (hB : ∀ ad, a = some ad → ad.block < B) : IsB w' a n cap l := Sl.below h hb hB
theorem IsB.lt (h : IsB w a n cap l) {ad : Addr} (ha : a = some ad) (h0 : 0 < cap) : ad.block < w.heap.size := Sl.lt h ha h0
theorem IsB.alloc (h : IsB w a n cap l) (o : Obj) : IsB (w.alloc o) a n cap l := Sl.alloc h o
theorem IsB.nil (w : World) : IsB w none 0 0 [] := Sl.nil w 1
theorem IsB.cases (h : IsB w a n cap l) : (n = 0 ∧ cap = 0) ∨ ∃ b off, a = some ⟨b, off, none⟩ ∧ b < w.heap.size := Sl.cases h
theorem IsB.some_of_lt (h : IsB w a n cap l) (h0 : 0 < cap) : ∃ b off, a = some ⟨b, off, none⟩ ∧ b < w.heap.size := Sl.some_of_lt h h0
theorem IsB.cell {b off i : Nat} (h : IsB w (some ⟨b, off, none⟩) n cap l) (hi : i < n) : w.cell? ⟨b, off + i, none⟩ = some (.int .u8 ((l.getD i 0).toNat : Int)) := by
  have hl := h.len
  rw [Sl.cell h (by omega)]
  exact bvs_get l (by omega)
theorem IsB.piece (h : IsB w a n cap l) {lo hi mx : Nat} (h1 : lo ≤ hi) (h2 : hi ≤ n) (h3 : hi ≤ mx) (h4 : mx ≤ cap) {a' : Option Addr}
    (ha' : a' = if mx = lo then a else a.map (·.add (lo * 1))) (h0 : mx = lo → a = none → lo = 0) : IsB w a' (hi - lo) (mx - lo) ((l.drop lo).take (hi - lo)) := by
  have := Sl.piece h h1 h2 h3 h4 ha' h0
  unfold IsB
  simpa [bvs, List.map_take, List.map_drop] using this
end
theorem Sl.grown {w w' : World} {k n cap : Nat} {a : Option Addr} {vs : List Value} {r : Option Nat} (h : Sl w k a n cap vs) (hg : w.grownBy w' r) (hne : ∀ ad, a = some ad → some ad.block ≠ r) : Sl w' k a n cap vs :=
  h.keep fun b hb ad ha e => hg.block b hb (by rw [← e]; exact hne ad ha)
theorem Sl.grown' {w w' : World} {k n cap : Nat} {a : Option Addr} {vs : List Value} {r : Option Nat} (h : Sl w k a n cap vs) (hg : w.grownBy w' r) (hne : ∀ ad, a = some ad → 0 < cap → some ad.block ≠ r) : Sl w' k a n cap vs :=
  h.keep' fun b hb ad ha h0 e => hg.block b hb (by rw [← e]; exact hne ad ha h0)
theorem IsB.grown' {w w' : World} {n cap : Nat} {a : Option Addr} {l : List UInt8} {r : Option Nat} (h : IsB w a n cap l) (hg : w.grownBy w' r) (hne : ∀ ad, a = some ad → 0 < cap → some ad.block ≠ r) : IsB w' a n cap l := Sl.grown' h hg hne
theorem IsB.grown {w w' : World} {n cap : Nat} {a : Option Addr} {l : List UInt8} {r : Option Nat} (h : IsB w a n cap l) (hg : w.grownBy w' r) (hne : ∀ ad, a = some ad → some ad.block ≠ r) : IsB w' a n cap l := Sl.grown h hg hne
theorem grown_trans {w w1 w2 : World} {r : Option Nat} (h : w.grownBy w1 r) (h' : w1.grownBy w2 r) : w.grownBy w2 r :=
  ⟨h'.os.trans h.os, h'.tape.trans h.tape, h'.output.trans h.output, Nat.le_trans h.size h'.size, fun k hk hn => (h'.block k (Nat.lt_of_lt_of_le hk h.size) hn).trans (h.block k hk hn)⟩
theorem grown_below {w w1 w2 : World} {r : Option Nat} (h : w.grownBy w1 r) (hb : Below w1.heap.size w1 w2) : w.grownBy w2 r :=
  ⟨hb.os.trans h.os, hb.tape.trans h.tape, hb.output.trans h.output, Nat.le_trans h.size hb.size, fun k hk hn => (hb.block k (Nat.lt_of_lt_of_le hk h.size)).trans (h.block k hk hn)⟩
theorem grown_drewN {w w1 : World} {r : Option Nat} (h : w.grownBy w1 r) (n : Nat) : w.grownBy (w1.drewN n) r := ⟨h.os, h.tape, h.output, h.size, h.block⟩
theorem grown_set (w : World) (blk i : Nat) (v : Value) : w.grownBy (w.setCell ⟨blk, i, none⟩ v) (some blk) :=
  ⟨rfl, rfl, rfl, by simp, fun k _ hn => Below.heap_setCell _ _ _ _ (fun e => hn (by rw [e]))⟩

/-! ### A scope with one label ahead -/
section
variable {Q : Exit → Act → World → Prop} {J : Act → World → Prop} {a : Act} {w : World} {l : Nat}
theorem jump_normal : Exit.jump l J Q .normal a w = Q .normal a w := rfl
theorem jump_exit (id : Nat) : Exit.jump l J Q (.exit id) a w = Q (.exit id) a w := rfl
theorem jump_ret : Exit.jump l J Q .ret a w = Q .ret a w := rfl
theorem jump_panic (ch : List PanicEntry) : Exit.jump l J Q (.panic ch) a w = Q (.panic ch) a w := rfl
theorem jump_goto (l' : Nat) : Exit.jump l J Q (.goto l') a w = (l' = l ∧ J a w) := rfl
end
theorem wp_scope_ahead {P : Program} {a : Act} {w : World} {Q : Exit → Act → World → Prop} {c rest : Code} (l : Nat) (J : Act → World → Prop) (hf : findLabel c l = some rest)
    (first : c.wp P (Exit.jump l J Q) a w) (pass : ∀ a w, J a w → rest.wp P (Exit.jump l (fun _ _ => False) Q) a w) : (Code.scope c).wp P Q a w := by
  refine wp_scope_jumps l J (fun _ _ => 0) hf first fun a w h => Code.wp_mono ?_ (pass a w h)
  intro e a w hq
  cases e with
  | goto l' => exact hq.2.elim
  | _ => exact hq

/-- a slice of slices of bytes -/
def IsBB (w : World) (a : Option Addr) (n cap : Nat) (ls : List (List UInt8)) : Prop :=
  ∃ vs, Sl w 1 a n cap vs ∧ ls.length = n ∧ ∀ i, i < n → ∃ a' n' cap', vs[i]? = some (.slice a' n' cap') ∧ IsB w a' n' cap' (ls.getD i [])
section
variable {w w' : World} {n cap : Nat} {a : Option Addr} {ls : List (List UInt8)}
theorem IsBB.len (h : IsBB w a n cap ls) : ls.length = n := by obtain ⟨vs, h1, h2, h3⟩ := h; exact h2
theorem IsBB.le (h : IsBB w a n cap ls) : n ≤ cap := by obtain ⟨vs, h1, h2, h3⟩ := h; exact h1.le
theorem IsBB.later (h : IsBB w a n cap ls) (hb : Below w.heap.size w w') : IsBB w' a n cap ls := by
  obtain ⟨vs, h1, h2, h3⟩ := h
  refine ⟨vs, h1.later hb, h2, fun i hi => ?_⟩
  obtain ⟨a', n', c', h4, h5⟩ := h3 i hi
  exact ⟨a', n', c', h4, h5.later hb⟩
theorem IsBB.alloc (h : IsBB w a n cap ls) (o : Obj) : IsBB (w.alloc o) a n cap ls := h.later ((Below.refl _ _).alloc (Nat.le_refl _) o)
theorem IsBB.some_of_lt (h : IsBB w a n cap ls) (h0 : 0 < cap) : ∃ b off, a = some ⟨b, off, none⟩ ∧ b < w.heap.size := by obtain ⟨vs, h1, h2, h3⟩ := h; exact h1.some_of_lt h0
theorem IsBB.cases (h : IsBB w a n cap ls) : (n = 0 ∧ cap = 0) ∨ ∃ b off, a = some ⟨b, off, none⟩ ∧ b < w.heap.size := by obtain ⟨vs, h1, h2, h3⟩ := h; exact h1.cases
theorem IsBB.cell {b off i : Nat} (h : IsBB w (some ⟨b, off, none⟩) n cap ls) (hi : i < n) : ∃ a' n' cap', w.cell? ⟨b, off + i, none⟩ = some (.slice a' n' cap') ∧ IsB w a' n' cap' (ls.getD i []) := by
  obtain ⟨vs, h1, h2, h3⟩ := h
  obtain ⟨a', n', c', h4, h5⟩ := h3 i hi
  exact ⟨a', n', c', (h1.cell (by omega)).trans h4, h5⟩
end
theorem Sl.new (w : World) (cs : Array Value) (e : TypeId) (n : Nat) (hn : cs.size = n) (hm : n ≤ maxLen) : Sl (w.alloc (.cells cs e)) 1 (some ⟨w.heap.size, 0, none⟩) n n cs.toList := by
  refine ⟨by simp [hn], Nat.le_refl _, hm, (fun e => by cases e), fun ad ha _ => ?_⟩
  cases ha
  exact ⟨rfl, cs, e, (0, 0), heap_alloc_new w _, by simp [hn], fun i _ => by simp⟩
theorem IsBB.new1 {w : World} {a : Option Addr} {n cap : Nat} {l : List UInt8} (h : IsB w a n cap l) (e : TypeId) : IsBB (w.alloc (.cells #[.slice a n cap] e)) (some ⟨w.heap.size, 0, none⟩) 1 1 [l] := by
  refine ⟨_, Sl.new w _ e 1 rfl (by decide), rfl, fun i hi => ?_⟩
  obtain rfl : i = 0 := by omega
  exact ⟨a, n, cap, rfl, h.alloc _⟩
theorem IsBB.new2 {w : World} {a : Option Addr} {n cap : Nat} {l : List UInt8} {a' : Option Addr} {n' cap' : Nat} {l' : List UInt8} (h : IsB w a n cap l) (h' : IsB w a' n' cap' l') (e : TypeId) :
    IsBB (w.alloc (.cells #[.slice a n cap, .slice a' n' cap'] e)) (some ⟨w.heap.size, 0, none⟩) 2 2 [l, l'] := by
  refine ⟨_, Sl.new w _ e 2 rfl (by decide), rfl, fun i hi => ?_⟩
  match i, hi with
  | 0, _ => exact ⟨a, n, cap, rfl, h.alloc _⟩
  | 1, _ => exact ⟨a', n', cap', rfl, h'.alloc _⟩
theorem IsBB.new3 {w : World} {a : Option Addr} {n cap : Nat} {l : List UInt8} {a' : Option Addr} {n' cap' : Nat} {l' : List UInt8} {a2 : Option Addr} {n2 cap2 : Nat} {l2 : List UInt8} (h : IsB w a n cap l) (h' : IsB w a' n' cap' l') (h2 : IsB w a2 n2 cap2 l2) (e : TypeId) :
    IsBB (w.alloc (.cells #[.slice a n cap, .slice a' n' cap', .slice a2 n2 cap2] e)) (some ⟨w.heap.size, 0, none⟩) 3 3 [l, l', l2] := by
  refine ⟨_, Sl.new w _ e 3 rfl (by decide), rfl, fun i hi => ?_⟩
  match i, hi with
  | 0, _ => exact ⟨a, n, cap, rfl, h.alloc _⟩
  | 1, _ => exact ⟨a', n', cap', rfl, h'.alloc _⟩
  | 2, _ => exact ⟨a2, n2, cap2, rfl, h2.alloc _⟩
/-- bytes of the call's own. -/
def OwnB (w : World) (base : Nat) (e : TypeId) (v : Value) (l : List UInt8) : Prop := w.ownsRow base e 1 v l.length (bvs l)
theorem OwnB.slice {w : World} {base : Nat} {e : TypeId} {v : Value} {l : List UInt8} (h : OwnB w base e v l) : ∃ a cap, v = .slice a l.length cap ∧ IsB w a l.length cap l := ownsRow_slice h
theorem OwnB.later {w w' : World} {base : Nat} {e : TypeId} {v : Value} {l : List UInt8} (h : OwnB w base e v l) (hb : Below w.heap.size w w') : OwnB w' base e v l := ownsRow_later h hb
theorem OwnB.mono {w : World} {base base' : Nat} {e : TypeId} {v : Value} {l : List UInt8} (h : OwnB w base e v l) (hb : base' ≤ base) : OwnB w base' e v l := ownsRow_mono h hb
theorem OwnB.isB {w : World} {base : Nat} {e : TypeId} {a : Option Addr} {n cap : Nat} {l : List UInt8} (h : OwnB w base e (.slice a n cap) l) : IsB w a n cap l := by
  obtain ⟨a', cap', hv, hb⟩ := h.slice
  simp only [Value.slice.injEq] at hv
  obtain ⟨rfl, rfl, rfl⟩ := hv
  exact hb
theorem OwnB.alloc {w : World} {base : Nat} {e : TypeId} {v : Value} {l : List UInt8} (h : OwnB w base e v l) (o : Obj) : OwnB (w.alloc o) base e v l := World.ownsRow.alloc h o
theorem cells_one (v : Value) (h : v.oneCell' = true) : ∀ u ∈ (#[v] : Array Value).toList, u.oneCell' = true := by
  intro u hu; simp at hu; subst hu; exact h
/-- A call that hands back bytes of its own. -/
def RetB (e : TypeId) (W : World) (l : List UInt8) (x : Ending) (w : World) : Prop := ∃ v, x = .returned v ∧ OwnB w W.heap.size e v l ∧ Below W.heap.size W w

theorem OwnB.slice' {w : World} {base : Nat} {e : TypeId} {v : Value} {l : List UInt8} (h : OwnB w base e v l) : ∃ a n cap, v = .slice a n cap ∧ IsB w a n cap l := by
  obtain ⟨a, cap, hv, hb⟩ := h.slice
  exact ⟨a, _, cap, hv, hb⟩
theorem OwnB.len {w : World} {base : Nat} {e : TypeId} {a : Option Addr} {n cap : Nat} {l : List UInt8} (h : OwnB w base e (.slice a n cap) l) : l.length = n := h.isB.len
/-- 'append(out, xs...)', bytes to bytes of the call's own. -/
theorem wpList_append_bs {P : Program} {w : World} {ops : Array Oper} {rest : List Oper} {o : Oper} {a : Act} {Q : Exit → Act → World → Prop} (hgd : o.guard = none) (s x : Operand) (t : TypeId)
    (ho : o.op = .call { callee := .builtin .append, args := #[s, x], argTypes := #[t, t] })
    (base : Nat) (e : TypeId) (z : Value) (ht : P.underlying t = some (.slice e)) (hinfo : (P.info? e).map (fun i => (i.zero, i.size, i.bytes)) = some (some z, 1, 1))
    (hzs : z.cells.size = 1) {a0 : Option Addr} {n c0 : Nat} (l : List UInt8) (hs : a.eval s = .slice a0 n c0) (hown : OwnB w base e (.slice a0 n c0) l)
    (ad : Option Addr) (m c : Nat) (l' : List UInt8) (hx : a.eval x = .slice ad m c) (hsl : IsB w ad m c l')
    (hbytes : n + m ≤ 140737488355328) (hbase : base ≤ w.heap.size)
    (h : ∀ a' cap' w', OwnB w' base e (.slice a' (n + m) cap') (l ++ l') → Below base w w' → w.grownBy w' (Value.ownBlock (.slice a0 n c0)) → wpList P ops Q rest (a.put o.dst (.slice a' (n + m) cap')) w') :
    wpList P ops Q (o :: rest) a w := by
  obtain rfl := hown.len
  refine wpList_append_sl hgd s x t ho base e z 1 1 ht hinfo hzs (by decide) _ l.length (bvs l) hs hown ad m c (bvs l') hx hsl (bvs_one l') (by omega) (by unfold maxLen; omega) hbase ?_
  intro a' cap' w' ho' hg _
  refine h a' cap' w' ?_ ?_ hg
  · unfold OwnB
    have : (l ++ l').length = l.length + m := by rw [List.length_append, hsl.len]
    rw [this, bvs_append]
    exact ho'
  · exact (Below.refl base w).grown hg hbase fun k hk => (World.ownsRow.lt hown k hk).1
/-- 'append(out, x)', one byte. -/
theorem wpList_append_byte {P : Program} {w0 : World} {ops : Array Oper} {rest : List Oper} {o : Oper} {a : Act} {Q : Exit → Act → World → Prop} (hgd : o.guard = none) (s x : Operand) (t : TypeId)
    (ho : o.op = .call { callee := .builtin .append, args := #[s, x], argTypes := #[t, t] })
    (base : Nat) (e : TypeId) (z : Value) (ht : P.underlying t = some (.slice e)) (hinfo : (P.info? e).map (fun i => (i.zero, i.size, i.bytes)) = some (some z, 1, 1))
    (hzs : z.cells.size = 1) {a0 : Option Addr} {n c0 : Nat} (l : List UInt8) (hs : a.eval s = .slice a0 n c0) (hown : OwnB w0 base e (.slice a0 n c0) l)
    (y : Int) (hx : a.eval x = .slice (some ⟨w0.heap.size, 0, none⟩) 1 1) (hy : 0 ≤ y ∧ y < 256)
    (hbytes : n + 1 ≤ 140737488355328) (hbase : base ≤ w0.heap.size)
    (h : ∀ a' cap' w', OwnB w' base e (.slice a' (n + 1) cap') (l ++ [UInt8.ofNat y.toNat]) → Below base w0 w' → wpList P ops Q rest (a.put o.dst (.slice a' (n + 1) cap')) w') :
    wpList P ops Q (o :: rest) a (w0.alloc (.cells #[.int .u8 y] e)) := by
  refine wpList_append_bs hgd s x t ho base e z ht hinfo hzs l hs (hown.alloc _) _ 1 1 [UInt8.ofNat y.toNat] hx ?_ hbytes (by simp; omega) ?_
  · have := Sl.new w0 #[.int .u8 y] e 1 rfl (by decide)
    unfold IsB
    have hc : bvs [UInt8.ofNat y.toNat] = (#[Value.int .u8 y] : Array Value).toList := by
      simp only [bvs, bv, List.map_cons, List.map_nil, UInt8.toNat_ofNat']
      congr 2; omega
    rw [hc]; exact this
  · intro a' cap' w' h1 h2 _
    exact h a' cap' w' h1 (((Below.refl base w0).alloc hbase _).trans h2)
end Go.Cas
