import Derived.Test.YtpobnbiakneoiaaDiskAA
namespace Go.Proofs.Ytpobnbiakneoiaa
open Go.RowKit Go.Cas

/-! ### Calls, as they lie -/
structure AV where
  what : Int
  file : Int
  n : Int
  more : Int
  sa : Option Addr
  sn : Nat
  sc : Nat
  bs : List UInt8
def AV.cells (x : AV) : List Value := [.int .i64 x.what, .int .i64 x.file, .int .i64 x.n, .int .i64 x.more, .slice x.sa x.sn x.sc]
def actV (l : List AV) : List Value := l.flatMap AV.cells
theorem actV_len (l : List AV) : (actV l).length = l.length * 5 := by
  induction l with
  | nil => rfl
  | cons x l ih => simp [actV, AV.cells] at ih ⊢; omega
theorem actV_get (l : List AV) {i : Nat} (h : i < l.length) : (actV l)[i * 5]? = some (.int .i64 l[i].what) ∧ (actV l)[i * 5 + 1]? = some (.int .i64 l[i].file) ∧ (actV l)[i * 5 + 2]? = some (.int .i64 l[i].n) ∧
    (actV l)[i * 5 + 3]? = some (.int .i64 l[i].more) ∧ (actV l)[i * 5 + 4]? = some (.slice l[i].sa l[i].sn l[i].sc) := by
  induction l generalizing i with
  | nil => simp at h
  | cons x l ih =>
    cases i with
    | zero => exact ⟨rfl, rfl, rfl, rfl, rfl⟩
    | succ i =>
      have h' : i < l.length := by simpa using h
      have := ih h'
      rw [show (i + 1) * 5 = i * 5 + 5 from by omega]
      simpa [actV, AV.cells] using this
theorem actV_one (l : List AV) : ∀ u ∈ actV l, u.oneCell' = true := by
  intro u hu
  obtain ⟨x, _, hx⟩ := List.mem_flatMap.1 hu
  simp [AV.cells] at hx
  rcases hx with rfl | rfl | rfl | rfl | rfl <;> rfl
theorem actV_append (l m : List AV) : actV (l ++ m) = actV l ++ actV m := List.flatMap_append
/-- one call's bytes -/
def AV.at (w : World) (x : AV) : Prop := IsB w x.sa x.sn x.sc x.bs ∧ LeftOk x.n
def IsActs (w : World) (a : Option Addr) (n cap : Nat) (l : List AV) : Prop := Sl w 5 a n cap (actV l) ∧ l.length = n ∧ ∀ x ∈ l, x.at w
theorem AV.at.later {w w' : World} {x : AV} (h : x.at w) (hb : Below w.heap.size w w') : x.at w' := ⟨h.1.later hb, h.2⟩
theorem AV.at.grown {w w' : World} {x : AV} {r : Option Nat} (h : x.at w) (hg : w.grownBy w' r) (hne : ∀ ad, x.sa = some ad → 0 < x.sc → some ad.block ≠ r) : x.at w' := ⟨h.1.grown' hg hne, h.2⟩
theorem IsActs.later {w w' : World} {a : Option Addr} {n cap : Nat} {l : List AV} (h : IsActs w a n cap l) (hb : Below w.heap.size w w') : IsActs w' a n cap l :=
  ⟨h.1.later hb, h.2.1, fun x hx => (h.2.2 x hx).later hb⟩
theorem IsActs.grown {w w' : World} {a : Option Addr} {n cap : Nat} {l : List AV} {r : Nat} (h : IsActs w a n cap l) (hg : w.grownBy w' (some r)) (N : Nat) (hN : N ≤ r) (ha : ∀ ad, a = some ad → 0 < cap → ad.block < N)
    (hx : ∀ x ∈ l, ∀ ad, x.sa = some ad → 0 < x.sc → ad.block < N) : IsActs w' a n cap l :=
  ⟨h.1.grown' hg (fun ad h1 h2 e => by have := ha ad h1 h2; have := Option.some.inj e; omega), h.2.1, fun x hm => (h.2.2 x hm).grown hg (fun ad h1 h2 e => by have := hx x hm ad h1 h2; have := Option.some.inj e; omega)⟩

def sumLen : List AV → Nat
  | [] => 0
  | x :: l => min x.bs.length 2001 + sumLen l
theorem sumLen_append (l m : List AV) : sumLen (l ++ m) = sumLen l + sumLen m := by
  induction l with
  | nil => simp [sumLen]
  | cons x l ih => simp [sumLen, ih]; omega
theorem sumLen_take {l : List AV} {k : Nat} (h : k < l.length) : sumLen (l.take (k + 1)) = sumLen (l.take k) + min l[k].bs.length 2001 := by
  rw [List.take_succ_eq_append_getElem h, sumLen_append]
  simp [sumLen]
theorem sumLen_mem {l : List AV} (h : sumLen l ≤ 2000) : ∀ x ∈ l, x.bs.length ≤ 2000 := by
  induction l with
  | nil => intro x hx; cases hx
  | cons y l ih =>
    simp only [sumLen] at h
    intro x hx
    rcases List.mem_cons.1 hx with rfl | hx
    · omega
    · exact ih (by omega) x hx
/-- at most so many calls, none of them with more than 2000 bytes -/
def Few (n most : Nat) (l : List AV) (w : World) (e : Ending) (w' : World) : Prop := ∃ r, e = .returned (.bool r) ∧ (r = true → n ≤ most ∧ ∀ x ∈ l, x.bs.length ≤ 2000) ∧ w = w'
set_option maxRecDepth 100000 in
set_option maxHeartbeats 1000000 in
theorem few_c (a : Option Addr) (n cap : Nat) (l : List AV) (most : Nat) (hn : n ≤ 2 ^ 42) (hm : most ≤ 2 ^ 32) (w : World) (h : IsActs w a n cap l) :
    Calls Try.prog 11 #[.slice a n cap, .int .i64 (most : Int)] w (Few n most l w) := by
  obtain ⟨hs, hl, hx⟩ := h
  have HL := Lib.hid hl; clear hl
  have HX := Lib.hid hx; clear hx
  go_enter Try.func11, Try.ntmps11
  go_wp2_with fail
  go_loop [5, 6] (fun s i => ∃ k t : Nat, k ≤ n ∧ i = .int .i64 (k : Int) ∧ s = .int .i64 (t : Int) ∧ t ≤ 4001 ∧ Hid (sumLen (l.take k) = t)) (fun _ i => n - (intOf i).toNat)
  case atStart => exact ⟨0, 0, by omega, rfl, rfl, by omega, Lib.hid rfl⟩
  case round =>
    obtain ⟨k, t, hk, rfl, rfl, ht, HS⟩ := hrel
    have fin : ¬ k < n → t ≤ 2000 → n ≤ most → n ≤ most ∧ ∀ x ∈ l, x.bs.length ≤ 2000 := by
      intro h1 h2 h3
      have h4 := HS.out
      rw [List.take_of_length_le (by have := HL.out; omega)] at h4
      exact ⟨h3, sumLen_mem (by omega)⟩
    have HF := Lib.hid fin; clear fin
    by_cases hlt : k < n
    · by_cases hkm : k ≤ most
      · by_cases ht2 : t ≤ 2000
        · have hkl : k < l.length := by have := HL.out; omega
          obtain ⟨b, off, rfl, hbl⟩ := hs.some_of_lt (by have := hs.le; omega)
          have hg := actV_get l hkl
          have hc4 := (hs.cell (i := k * 5 + 4) (by omega)).trans hg.2.2.2.2
          have hxl := (HX.out _ (List.getElem_mem hkl)).1.len
          have hst := sumLen_take hkl
          rw [HS.out, hxl] at hst
          rw [← Nat.add_assoc] at hc4
          clear hg hxl
          have HT := Lib.hid hst; clear hst
          generalize l[k].sa = sa at *
          generalize l[k].sn = sn at *
          generalize l[k].sc = sc at *
          go_wp2_with fail
          refine ⟨⟨k + 1, t + min sn 2001, by omega, by go_num, ?_, by omega, HT⟩, by simp [intOf]; omega⟩
          rw [ite_min, show min (sn : Int) 2001 = ((min sn 2001 : Nat) : Int) from by omega]
          rfl
        · go_wp2_with fail
          all_goals
            go_ret
            refine ⟨_, rfl, fun h => ?_, rfl⟩
            first
            | exact absurd h (by decide)
            | (have h2 := of_decide_eq_true h; omega)
      · go_wp2_with fail
        all_goals
          go_ret
          refine ⟨_, rfl, fun h => ?_, rfl⟩
          first
          | exact absurd h (by decide)
          | (have h2 := of_decide_eq_true h; omega)
    · go_wp2_with fail
      all_goals
        go_ret
        refine ⟨_, rfl, fun h => ?_, rfl⟩
        first
        | exact absurd h (by decide)
        | (have h2 := of_decide_eq_true h; exact HF.out hlt (by omega) (by omega))
end Go.Proofs.Ytpobnbiakneoiaa
