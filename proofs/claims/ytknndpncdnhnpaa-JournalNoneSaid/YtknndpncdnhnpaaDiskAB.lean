import Derived.Test.YtknndpncdnhnpaaDiskX
section
namespace Go.Proofs.Ytknndpncdnhnpaa
open Go.RowKit Go.Cas

end Go.Proofs.Ytknndpncdnhnpaa
end
section
namespace Go.Proofs.Ytknndpncdnhnpaa
open Go.RowKit Go.Cas
attribute [local go_sem] Oper.semAt_some

end Go.Proofs.Ytknndpncdnhnpaa
end
section
namespace Go.Proofs.Ytknndpncdnhnpaa
open Go.RowKit Go.Cas
attribute [local go_sem] Oper.semAt_some

theorem ix0 (x y z v : Value) (w : World) : (Instr.index 72 (.agg #[x, y, z, v]) (.int .i64 0)).run Try.prog w = .ok (.agg #[x, y]) w := by kernel_rfl
theorem ix1 (x y z v : Value) (w : World) : (Instr.index 72 (.agg #[x, y, z, v]) (.int .i64 1)).run Try.prog w = .ok (.agg #[z, v]) w := by kernel_rfl
def DS.same (s s' : DS) : Bool := decide (s.f0 = s'.f0 ∧ s.n0 = s'.n0 ∧ s.f1 = s'.f1 ∧ s.n1 = s'.n1 ∧ s.room = s'.room ∧ s.now = s'.now ∧ s.left = s'.left)
end Go.Proofs.Ytknndpncdnhnpaa
end
section
namespace Go.Proofs.Ytknndpncdnhnpaa
open Go.RowKit Go.Cas

/-! ### Calls, as they lie -/
structure AV where
  what : Int
  file : Int
  n : Int
  more : Int
  sa : Option Addr
  sn : Nat
  sc : Nat
  bs : List UInt8
def AV.cells (x : AV) : List Value := [.int .i64 x.what, .int .i64 x.file, .int .i64 x.n, .int .i64 x.more, .slice x.sa x.sn x.sc]
def actV (l : List AV) : List Value := l.flatMap AV.cells
theorem actV_len (l : List AV) : (actV l).length = l.length * 5 := by
  induction l with
  | nil => rfl
  | cons x l ih => simp [actV, AV.cells] at ih ⊢; omega
theorem actV_get (l : List AV) {i : Nat} (h : i < l.length) : (actV l)[i * 5]? = some (.int .i64 l[i].what) ∧ (actV l)[i * 5 + 1]? = some (.int .i64 l[i].file) ∧ (actV l)[i * 5 + 2]? = some (.int .i64 l[i].n) ∧
    (actV l)[i * 5 + 3]? = some (.int .i64 l[i].more) ∧ (actV l)[i * 5 + 4]? = some (.slice l[i].sa l[i].sn l[i].sc) := by
  induction l generalizing i with
  | nil => simp at h
  | cons x l ih =>
    cases i with
    | zero => exact ⟨rfl, rfl, rfl, rfl, rfl⟩
    | succ i =>
      have h' : i < l.length := by simpa using h
      have := ih h'
      rw [show (i + 1) * 5 = i * 5 + 5 from by omega]
      simpa [actV, AV.cells] using this
theorem actV_one (l : List AV) : ∀ u ∈ actV l, u.oneCell' = true := by
  intro u hu
  obtain ⟨x, _, hx⟩ := List.mem_flatMap.1 hu
  simp [AV.cells] at hx
  rcases hx with rfl | rfl | rfl | rfl | rfl <;> rfl
theorem actV_append (l m : List AV) : actV (l ++ m) = actV l ++ actV m := List.flatMap_append
/-- one call's bytes -/
def AV.at (w : World) (x : AV) : Prop := IsB w x.sa x.sn x.sc x.bs ∧ LeftOk x.n
def IsActs (w : World) (a : Option Addr) (n cap : Nat) (l : List AV) : Prop := Sl w 5 a n cap (actV l) ∧ l.length = n ∧ ∀ x ∈ l, x.at w
theorem AV.at.later {w w' : World} {x : AV} (h : x.at w) (hb : Below w.heap.size w w') : x.at w' := ⟨h.1.later hb, h.2⟩
theorem AV.at.grown {w w' : World} {x : AV} {r : Option Nat} (h : x.at w) (hg : w.grownBy w' r) (hne : ∀ ad, x.sa = some ad → 0 < x.sc → some ad.block ≠ r) : x.at w' := ⟨h.1.grown' hg hne, h.2⟩
theorem IsActs.later {w w' : World} {a : Option Addr} {n cap : Nat} {l : List AV} (h : IsActs w a n cap l) (hb : Below w.heap.size w w') : IsActs w' a n cap l :=
  ⟨h.1.later hb, h.2.1, fun x hx => (h.2.2 x hx).later hb⟩
theorem IsActs.grown {w w' : World} {a : Option Addr} {n cap : Nat} {l : List AV} {r : Nat} (h : IsActs w a n cap l) (hg : w.grownBy w' (some r)) (N : Nat) (hN : N ≤ r) (ha : ∀ ad, a = some ad → 0 < cap → ad.block < N)
    (hx : ∀ x ∈ l, ∀ ad, x.sa = some ad → 0 < x.sc → ad.block < N) : IsActs w' a n cap l :=
  ⟨h.1.grown' hg (fun ad h1 h2 e => by have := ha ad h1 h2; have := Option.some.inj e; omega), h.2.1, fun x hm => (h.2.2 x hm).grown hg (fun ad h1 h2 e => by have := hx x hm ad h1 h2; have := Option.some.inj e; omega)⟩

def actLen : List AV → Nat
  | [] => 0
  | x :: l => min x.bs.length 2001 + actLen l
theorem actLen_append (l m : List AV) : actLen (l ++ m) = actLen l + actLen m := by
  induction l with
  | nil => simp [actLen]
  | cons x l ih => simp [actLen, ih]; omega
theorem actLen_take {l : List AV} {k : Nat} (h : k < l.length) : actLen (l.take (k + 1)) = actLen (l.take k) + min l[k].bs.length 2001 := by
  rw [List.take_succ_eq_append_getElem h, actLen_append]
  simp [actLen]
theorem actLen_mem {l : List AV} (h : actLen l ≤ 2000) : ∀ x ∈ l, x.bs.length ≤ 2000 := by
  induction l with
  | nil => intro x hx; cases hx
  | cons y l ih =>
    simp only [actLen] at h
    intro x hx
    rcases List.mem_cons.1 hx with rfl | hx
    · omega
    · exact ih (by omega) x hx
/-- at most so many calls, none of them with more than 2000 bytes -/
def Few (n most : Nat) (l : List AV) (w : World) (e : Ending) (w' : World) : Prop := ∃ r, e = .returned (.bool r) ∧ (r = true → n ≤ most ∧ ∀ x ∈ l, x.bs.length ≤ 2000) ∧ w = w'
end Go.Proofs.Ytknndpncdnhnpaa
end
