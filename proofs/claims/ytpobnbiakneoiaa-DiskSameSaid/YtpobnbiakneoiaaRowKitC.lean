import Derived.Test.YtpobnbiakneoiaaRowKit
import Derived.Test.YtpobnbiakneoiaaDiskAB
import Derived.Deep.Slices
import Derived.ChangeArms
namespace Go.Proofs.Ytpobnbiakneoiaa
open Go.RowKit Go.Cas Go.ChangeShapes Go.WideShapes Go.ChangeAt Go.Deep
set_option maxRecDepth 100000

theorem Sl_of_cells {w : World} {a : Addr} {n cap k : Nat} (f : Nat → Value) (hk : 0 < k) (hn : n ≤ cap) (hm : cap ≤ maxLen) (hc : ∀ i, i < cap * k → w.cell? (a.add i) = some (f i)) : Sl w k (some a) n cap ((List.range (n * k)).map f) := by
  refine ⟨by simp, hn, hm, (fun h => nomatch h), fun ad had h0 => ?_⟩
  obtain rfl := Option.some.inj had
  have hpos : 0 < cap * k := Nat.mul_pos h0 hk
  have h1 := hc 0 hpos
  have hsp : a.spot = none ∧ ∃ cs e fr, w.heap[a.block]? = some (.cells cs e fr) := by
    rw [show a.add 0 = a from rfl] at h1
    unfold World.cell? at h1
    split at h1
    · rename_i cs e fr hh
      split at h1
      · cases h1
      · rename_i hs
        exact ⟨by simpa using hs, cs, e, fr, hh⟩
    · cases h1
  obtain ⟨hs, cs, e, fr, hh⟩ := hsp
  have hall : ∀ i, i < cap * k → cs[a.off + i]? = some (f i) := by
    intro i hi
    have h2 := hc i hi
    rw [show a.add i = ⟨a.block, a.off + i, none⟩ from by unfold Addr.add; split <;> (cases a; simp_all)] at h2
    simpa [World.cell?, hh] using h2
  refine ⟨hs, cs, e, fr, hh, ?_, fun i hi => ?_⟩
  · have := (Array.getElem?_eq_some_iff.1 (hall (cap * k - 1) (by omega))).1
    omega
  · have h3 : i < cap * k := Nat.lt_of_lt_of_le hi (Nat.mul_le_mul_right k hn)
    rw [hall i h3]
    simp [hi]
section
variable {H : Type} {enc : TypeId × Value → H} {W : World}
/-- a cell that holds a slice of bytes -/
theorem open_bytes' {fuel : Nat} {v : Value} {x : DataW H × List MemPlace} (h : DataW.trod enc Try.prog W 0 (fun _ => true) true fuel 36 [v] = some x) : ∃ a n c l, v = .slice a n c ∧ IsB W a n c l := by
  rcases open_ints Try.underlying36 Try.underlying5 (by kernel_rfl) h with ⟨hcs, _⟩ | ⟨a, l, c, zs, hcs, _, hl, hm, hz, _, hcell, hwz⟩
  · obtain rfl : v = .slice none 0 0 := by simpa using hcs
    exact ⟨none, 0, 0, [], rfl, IsB.nil W⟩
  · obtain rfl : v = .slice (some a) l c := by simpa using hcs
    have hz : zs.length = c := by simpa using hz
    refine ⟨some a, l, c, (zs.take l).map fun z => UInt8.ofNat z.toNat, rfl, ?_⟩
    have h7 := Sl_of_cells (w := W) (a := a) (n := l) (cap := c) (k := 1) (fun i => .int .u8 (zs.getD i 0)) (by decide) hl hm (fun i hi => hcell i (by omega))
    unfold IsB
    have he : bvs ((zs.take l).map fun z => UInt8.ofNat z.toNat) = (List.range (l * 1)).map fun i => Value.int .u8 (zs.getD i 0) := by
      refine List.ext_getElem (by simp [bvs]; omega) fun j hj1 hj2 => ?_
      simp [bvs] at hj1
      have hjz : j < zs.length := by omega
      have hwf := u8_of_wf (hwz _ (List.getElem_mem hjz))
      simp only [bvs, List.getElem_map, List.getElem_take, List.getElem_range, bv, hwf, List.getD, List.getElem?_eq_getElem hjz, Option.getD_some]
    rw [he]
    exact h7
theorem i64_of_wf {z : Int} (h : (Lit.int .i64 z).wf = true) : z ≤ 9223372036854775807 := by
  simp [Lit.wf, IntKind.min, IntKind.max, IntKind.signed, IntKind.bits] at h
  omega
theorem open_i64 {fuel : Nat} {v : Value} {x : DataW H × List MemPlace} (h : DataW.trod enc Try.prog W 0 (fun _ => true) true fuel 3 [v] = some x) : ∃ z, v = .int .i64 z ∧ z ≤ 9223372036854775807 := by
  obtain ⟨z, hv, _, hw⟩ := DataW.trod_int Try.underlying3 h
  exact ⟨z, by simpa using hv, i64_of_wf hw⟩
theorem five {α : Type} {l : List α} (h : l.length = 5) : ∃ a b c d e, l = [a, b, c, d, e] := by
  match l, h with
  | [a, b, c, d, e], _ => exact ⟨a, b, c, d, e, rfl⟩
theorem trod_five {P : Program} {e : TypeId} {f0 f1 f2 f3 f4 : Field} {fuel : Nat} {cs : List Value} {x : DataW H × List MemPlace} (he : P.underlying e = some (.struct #[f0, f1, f2, f3, f4])) (ce : P.cellsOf e = 5)
    (o0 : f0.offset = 0) (o1 : f1.offset = 1) (o2 : f2.offset = 2) (o3 : f3.offset = 3) (o4 : f4.offset = 4) (c0 : P.cellsOf f0.type = 1) (c1 : P.cellsOf f1.type = 1) (c2 : P.cellsOf f2.type = 1) (c3 : P.cellsOf f3.type = 1) (c4 : P.cellsOf f4.type = 1)
    (h : DataW.trod enc P W 0 (fun _ => true) true fuel e cs = some x) : ∃ v0 v1 v2 v3 v4 x0 x1 x2 x3 x4 n, cs = [v0, v1, v2, v3, v4] ∧ DataW.trod enc P W 0 (fun _ => true) true n f0.type [v0] = some x0 ∧ DataW.trod enc P W 0 (fun _ => true) true n f1.type [v1] = some x1 ∧
      DataW.trod enc P W 0 (fun _ => true) true n f2.type [v2] = some x2 ∧ DataW.trod enc P W 0 (fun _ => true) true n f3.type [v3] = some x3 ∧ DataW.trod enc P W 0 (fun _ => true) true n f4.type [v4] = some x4 := by
  obtain ⟨xs, n, _, _, hl, hxl, hf⟩ := DataW.trod_struct he h
  rw [ce] at hl
  obtain ⟨v0, v1, v2, v3, v4, rfl⟩ := five hl
  have hx5 : xs.length = 5 := hxl
  obtain ⟨x0, x1, x2, x3, x4, rfl⟩ := five hx5
  have e0 := hf 0 f0 rfl
  have e1 := hf 1 f1 rfl
  have e2 := hf 2 f2 rfl
  have e3 := hf 3 f3 rfl
  have e4 := hf 4 f4 rfl
  simp [o0, o1, o2, o3, o4, c0, c1, c2, c3, c4] at e0 e1 e2 e3 e4
  exact ⟨v0, v1, v2, v3, v4, x0, x1, x2, x3, x4, n, rfl, e0, e1, e2, e3, e4⟩
/-- the cells of one call -/
theorem open_act {fuel : Nat} {cs : List Value} {x : DataW H × List MemPlace} (h : DataW.trod enc Try.prog W 0 (fun _ => true) true fuel 38 cs = some x) : ∃ y : AV, cs = y.cells ∧ y.at W := by
  obtain ⟨v0, v1, v2, v3, v4, x0, x1, x2, x3, x4, n, rfl, e0, e1, e2, e3, e4⟩ := trod_five Try.underlying38 (by kernel_rfl) rfl rfl rfl rfl rfl (by kernel_rfl) (by kernel_rfl) (by kernel_rfl) (by kernel_rfl) (by kernel_rfl) h
  obtain ⟨z0, rfl, _⟩ := open_i64 e0
  obtain ⟨z1, rfl, _⟩ := open_i64 e1
  obtain ⟨z2, rfl, w2⟩ := open_i64 e2
  obtain ⟨z3, rfl, _⟩ := open_i64 e3
  obtain ⟨a, m, c, l, rfl, hb⟩ := open_bytes' e4
  exact ⟨⟨z0, z1, z2, z3, a, m, c, l⟩, rfl, hb, w2⟩
/-- a call that came in as a value -/
theorem open_actV {base : Nat} {v : Value} {d : DataW H} {ps : List MemPlace} (hok : Value.okWide Try.prog W .any base 38 v) (h : DataW.Trod enc Try.prog W 0 (fun _ => true) true 38 v d ps) :
    ∃ y : AV, v = .agg #[.int .i64 y.what, .int .i64 y.file, .int .i64 y.n, .int .i64 y.more, .slice y.sa y.sn y.sc] ∧ y.at W := by
  obtain ⟨fuel, hf⟩ := h
  simp only [Value.okWide, Try.underlying38] at hok
  obtain ⟨cs, rfl, _, _⟩ := hok
  obtain ⟨y, hy, hat⟩ := open_act hf
  refine ⟨y, ?_, hat⟩
  have : cs.toList = y.cells := hy
  congr 1
  apply Array.toList_inj.1
  rw [this]
  rfl
/-- a slice of calls that came in -/
theorem open_acts {a : Option Addr} {n cap : Nat} {d : DataW H} {ps : List MemPlace} (h : DataW.Trod enc Try.prog W 0 (fun _ => true) true 35 (.slice a n cap) d ps) :
    ∃ l, IsActs W a n cap l ∧ (n = 0 ∨ ∃ e s, d = .slice e s ∧ e.length = n) := by
  obtain ⟨fuel, hf⟩ := h
  have hc5 : Try.prog.cellsOf 38 = 5 := by kernel_rfl
  rcases open_slice Try.underlying35 hf with ⟨hcs, _⟩ | ⟨ad, len, c, m, k, D, Pl, hcs, _, hl, hm, hmm, hx, hel⟩
  · simp [Value.cells] at hcs
    obtain ⟨rfl, rfl, rfl⟩ := hcs
    exact ⟨[], ⟨Sl.nil W 5, rfl, fun x hx => by cases hx⟩, .inl rfl⟩
  · simp [Value.cells] at hcs
    obtain ⟨rfl, rfl, rfl⟩ := hcs
    have hmm : m = cap := by simpa using hmm
    subst hmm
    rw [hc5] at hel
    haveI : Inhabited AV := ⟨⟨0, 0, 0, 0, none, 0, 0, []⟩⟩
    obtain ⟨Y, hY⟩ := choose_lt (α := AV) (p := fun i y => W.cells? 0 (ad.add (i * 5)) 5 = some y.cells ∧ y.at W) (fun i hi => by
      obtain ⟨cs', h1, h2⟩ := hel i hi
      obtain ⟨y, rfl, hy⟩ := open_act h2
      exact ⟨y, h1, hy⟩)
    refine ⟨(List.range n).map Y, ⟨?_, by simp, fun x hx => ?_⟩, .inr ⟨(List.range n).map D, _, (Prod.mk.inj hx).1, by simp⟩⟩
    · have h7 := Sl_of_cells (w := W) (a := ad) (n := n) (cap := m) (k := 5) (fun j => (Y (j / 5)).cells.getD (j % 5) undef) (by decide) hl hm (fun j hj => by
        obtain ⟨h1, _⟩ := hY (j / 5) (by omega)
        obtain ⟨_, _, hcell⟩ := World.cells?_some h1
        have h2 := hcell (j % 5) (by omega)
        rw [add_add, show j / 5 * 5 + j % 5 = j from by omega] at h2
        rw [h2]
        have hlen : (Y (j / 5)).cells.length = 5 := rfl
        rw [List.getElem?_eq_getElem (by omega)]
        simp [List.getD, hlen, show j % 5 < 5 by omega])
      have he : actV ((List.range n).map Y) = (List.range (n * 5)).map fun j => (Y (j / 5)).cells.getD (j % 5) undef := by
        refine List.ext_getElem (by rw [actV_len]; simp) fun j hj1 hj2 => ?_
        rw [actV_len] at hj1
        simp at hj1
        have hg := actV_get ((List.range n).map Y) (i := j / 5) (by simp; omega)
        have hj5 : j % 5 < 5 := by omega
        have hjj : j = j / 5 * 5 + j % 5 := by omega
        have : (actV ((List.range n).map Y))[j]? = some ((Y (j / 5)).cells.getD (j % 5) undef) := by
          rw [hjj, show (j / 5 * 5 + j % 5) / 5 = j / 5 by omega, show (j / 5 * 5 + j % 5) % 5 = j % 5 by omega]
          simp only [List.getElem_map, List.getElem_range] at hg
          obtain ⟨g0, g1, g2, g3, g4⟩ := hg
          match hr : j % 5, hj5 with
          | 0, _ => exact g0
          | 1, _ => exact g1
          | 2, _ => exact g2
          | 3, _ => exact g3
          | 4, _ => exact g4
        rw [List.getElem?_eq_getElem (by rw [actV_len]; simpa using hj1)] at this
        simpa using Option.some.inj this
      rw [he]
      exact h7
    · obtain ⟨i, hi, rfl⟩ := List.mem_map.1 hx
      exact (hY i (by have := List.mem_range.1 hi; omega)).2
end
end Go.Proofs.Ytpobnbiakneoiaa
