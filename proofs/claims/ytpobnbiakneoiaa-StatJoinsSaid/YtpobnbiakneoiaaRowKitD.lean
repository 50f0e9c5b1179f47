import Derived.Test.YtpobnbiakneoiaaRowKit
import Derived.Test.YtpobnbiakneoiaaStatL
import Derived.Deep.Slices
import Derived.ChangeArms
namespace Go.Proofs.Ytpobnbiakneoiaa
open Go.RowKit Go.Cas Go.ChangeShapes Go.WideShapes Go.ChangeAt Go.Deep
set_option maxRecDepth 100000

theorem Sl_of_cells {w : World} {a : Addr} {n cap k : Nat} (f : Nat → Value) (hk : 0 < k) (hn : n ≤ cap) (hm : cap ≤ maxLen) (hc : ∀ i, i < cap * k → w.cell? (a.add i) = some (f i)) : Sl w k (some a) n cap ((List.range (n * k)).map f) := by
  refine ⟨by simp, hn, hm, (fun h => nomatch h), fun ad had h0 => ?_⟩
  obtain rfl := Option.some.inj had
  have hpos : 0 < cap * k := Nat.mul_pos h0 hk
  have h1 := hc 0 hpos
  have hsp : a.spot = none ∧ ∃ cs e fr, w.heap[a.block]? = some (.cells cs e fr) := by
    rw [show a.add 0 = a from rfl] at h1
    unfold World.cell? at h1
    split at h1
    · rename_i cs e fr hh
      split at h1
      · cases h1
      · rename_i hs
        exact ⟨by simpa using hs, cs, e, fr, hh⟩
    · cases h1
  obtain ⟨hs, cs, e, fr, hh⟩ := hsp
  have hall : ∀ i, i < cap * k → cs[a.off + i]? = some (f i) := by
    intro i hi
    have h2 := hc i hi
    rw [show a.add i = ⟨a.block, a.off + i, none⟩ from by unfold Addr.add; split <;> (cases a; simp_all)] at h2
    simpa [World.cell?, hh] using h2
  refine ⟨hs, cs, e, fr, hh, ?_, fun i hi => ?_⟩
  · have := (Array.getElem?_eq_some_iff.1 (hall (cap * k - 1) (by omega))).1
    omega
  · have h3 : i < cap * k := Nat.lt_of_lt_of_le hi (Nat.mul_le_mul_right k hn)
    rw [hall i h3]
    simp [hi]
section
variable {H : Type} {enc : TypeId × Value → H} {W : World}
theorem open_i {t : TypeId} {k : IntKind} {fuel : Nat} {v : Value} {x : DataW H × List MemPlace} (ht : Try.prog.underlying t = some (.int k)) (h : DataW.trod enc Try.prog W 0 (fun _ => true) true fuel t [v] = some x) : ∃ z, v = .int k z := by
  obtain ⟨z, hv, _, hw⟩ := DataW.trod_int ht h
  exact ⟨z, by simpa using hv⟩
theorem open_b {t : TypeId} {fuel : Nat} {v : Value} {x : DataW H × List MemPlace} (ht : Try.prog.underlying t = some .bool) (h : DataW.trod enc Try.prog W 0 (fun _ => true) true fuel t [v] = some x) : ∃ z, v = .bool z := by
  cases fuel with
  | zero => simp [DataW.trod] at h
  | succ n =>
    unfold DataW.trod at h
    rw [ht] at h
    split at h <;> simp_all
theorem four {α : Type} {l : List α} (h : l.length = 4) : ∃ a b c d, l = [a, b, c, d] := by
  match l, h with
  | [a, b, c, d], _ => exact ⟨a, b, c, d, rfl⟩
theorem three {α : Type} {l : List α} (h : l.length = 3) : ∃ a b c, l = [a, b, c] := by
  match l, h with
  | [a, b, c], _ => exact ⟨a, b, c, rfl⟩
theorem trod_four {P : Program} {e : TypeId} {f0 f1 f2 f3 : Field} {fuel : Nat} {cs : List Value} {x : DataW H × List MemPlace} (he : P.underlying e = some (.struct #[f0, f1, f2, f3])) (ce : P.cellsOf e = 4)
    (o0 : f0.offset = 0) (o1 : f1.offset = 1) (o2 : f2.offset = 2) (o3 : f3.offset = 3) (c0 : P.cellsOf f0.type = 1) (c1 : P.cellsOf f1.type = 1) (c2 : P.cellsOf f2.type = 1) (c3 : P.cellsOf f3.type = 1)
    (h : DataW.trod enc P W 0 (fun _ => true) true fuel e cs = some x) : ∃ v0 v1 v2 v3 x0 x1 x2 x3 n, cs = [v0, v1, v2, v3] ∧ DataW.trod enc P W 0 (fun _ => true) true n f0.type [v0] = some x0 ∧ DataW.trod enc P W 0 (fun _ => true) true n f1.type [v1] = some x1 ∧
      DataW.trod enc P W 0 (fun _ => true) true n f2.type [v2] = some x2 ∧ DataW.trod enc P W 0 (fun _ => true) true n f3.type [v3] = some x3 := by
  obtain ⟨xs, n, _, _, hl, hxl, hf⟩ := DataW.trod_struct he h
  rw [ce] at hl
  obtain ⟨v0, v1, v2, v3, rfl⟩ := four hl
  have hx5 : xs.length = 4 := hxl
  obtain ⟨x0, x1, x2, x3, rfl⟩ := four hx5
  have e0 := hf 0 f0 rfl
  have e1 := hf 1 f1 rfl
  have e2 := hf 2 f2 rfl
  have e3 := hf 3 f3 rfl
  simp [o0, o1, o2, o3, c0, c1, c2, c3] at e0 e1 e2 e3
  exact ⟨v0, v1, v2, v3, x0, x1, x2, x3, n, rfl, e0, e1, e2, e3⟩
theorem trod_three {P : Program} {e : TypeId} {f0 f1 f2 : Field} {fuel : Nat} {cs : List Value} {x : DataW H × List MemPlace} (he : P.underlying e = some (.struct #[f0, f1, f2])) (ce : P.cellsOf e = 3)
    (o0 : f0.offset = 0) (o1 : f1.offset = 1) (o2 : f2.offset = 2) (c0 : P.cellsOf f0.type = 1) (c1 : P.cellsOf f1.type = 1) (c2 : P.cellsOf f2.type = 1)
    (h : DataW.trod enc P W 0 (fun _ => true) true fuel e cs = some x) : ∃ v0 v1 v2 x0 x1 x2 n, cs = [v0, v1, v2] ∧ DataW.trod enc P W 0 (fun _ => true) true n f0.type [v0] = some x0 ∧ DataW.trod enc P W 0 (fun _ => true) true n f1.type [v1] = some x1 ∧
      DataW.trod enc P W 0 (fun _ => true) true n f2.type [v2] = some x2 := by
  obtain ⟨xs, n, _, _, hl, hxl, hf⟩ := DataW.trod_struct he h
  rw [ce] at hl
  obtain ⟨v0, v1, v2, rfl⟩ := three hl
  have hx5 : xs.length = 3 := hxl
  obtain ⟨x0, x1, x2, rfl⟩ := three hx5
  have e0 := hf 0 f0 rfl
  have e1 := hf 1 f1 rfl
  have e2 := hf 2 f2 rfl
  simp [o0, o1, o2, c0, c1, c2] at e0 e1 e2
  exact ⟨v0, v1, v2, x0, x1, x2, n, rfl, e0, e1, e2⟩
/-- the cells of one status -/
theorem open_st {fuel : Nat} {cs : List Value} {x : DataW H × List MemPlace} (h : DataW.trod enc Try.prog W 0 (fun _ => true) true fuel 77 cs = some x) : ∃ s : St, cs = [.int .i64 s.over, .bool s.pend, .int .i64 s.mode, .int .i64 s.prio] := by
  obtain ⟨v0, v1, v2, v3, x0, x1, x2, x3, n, rfl, e0, e1, e2, e3⟩ := trod_four Try.underlying77 (by kernel_rfl) rfl rfl rfl rfl (by kernel_rfl) (by kernel_rfl) (by kernel_rfl) (by kernel_rfl) h
  obtain ⟨z0, rfl⟩ := open_i Try.underlying2 e0
  obtain ⟨z1, rfl⟩ := open_b Try.underlying4 e1
  obtain ⟨z2, rfl⟩ := open_i Try.underlying75 e2
  obtain ⟨z3, rfl⟩ := open_i Try.underlying3 e3
  exact ⟨⟨z0, z1, z2, z3⟩, rfl⟩
/-- a cell that holds a list of statuses -/
theorem open_sts {fuel : Nat} {v : Value} {x : DataW H × List MemPlace} (h : DataW.trod enc Try.prog W 0 (fun _ => true) true fuel 25 [v] = some x) : ∃ s : SL, v = .slice s.sa s.sn s.sc ∧ IsSt W s.sa s.sn s.sc s.st := by
  have hc4 : Try.prog.cellsOf 77 = 4 := by kernel_rfl
  rcases open_slice Try.underlying25 h with ⟨hcs, _⟩ | ⟨ad, len, c, m, k, D, Pl, hcs, _, hl, hm, hmm, hx, hel⟩
  · obtain rfl : v = .slice none 0 0 := by simpa using hcs
    exact ⟨⟨none, 0, 0, []⟩, rfl, Sl.nil W 4, rfl⟩
  · obtain rfl : v = .slice (some ad) len c := by simpa using hcs
    have hmm : m = c := by simpa using hmm
    subst hmm
    rw [hc4] at hel
    haveI : Inhabited St := ⟨st0⟩
    obtain ⟨Y, hY⟩ := choose_lt (α := St) (p := fun i s => W.cells? 0 (ad.add (i * 4)) 4 = some [.int .i64 s.over, .bool s.pend, .int .i64 s.mode, .int .i64 s.prio]) (fun i hi => by
      obtain ⟨cs', h1, h2⟩ := hel i hi
      obtain ⟨s, rfl⟩ := open_st h2
      exact ⟨s, h1⟩)
    refine ⟨⟨some ad, len, m, (List.range len).map Y⟩, rfl, ?_, by simp⟩
    have h7 := Sl_of_cells (w := W) (a := ad) (n := len) (cap := m) (k := 4) (fun j => ([.int .i64 (Y (j / 4)).over, .bool (Y (j / 4)).pend, .int .i64 (Y (j / 4)).mode, .int .i64 (Y (j / 4)).prio] : List Value).getD (j % 4) undef) (by decide) hl hm (fun j hj => by
      have h1 := hY (j / 4) (by omega)
      obtain ⟨_, _, hcell⟩ := World.cells?_some h1
      have h2 := hcell (j % 4) (by omega)
      rw [add_add, show j / 4 * 4 + j % 4 = j from by omega] at h2
      rw [h2, List.getElem?_eq_getElem (by simp; omega)]
      simp [List.getD, show j % 4 < 4 by omega])
    have he : stV ((List.range len).map Y) = (List.range (len * 4)).map fun j => ([.int .i64 (Y (j / 4)).over, .bool (Y (j / 4)).pend, .int .i64 (Y (j / 4)).mode, .int .i64 (Y (j / 4)).prio] : List Value).getD (j % 4) undef := by
      refine List.ext_getElem (by rw [stV_len]; simp) fun j hj1 hj2 => ?_
      rw [stV_len] at hj1
      simp at hj1
      have hg := stV_get ((List.range len).map Y) (i := j / 4) (by simp; omega)
      have hj4 : j % 4 < 4 := by omega
      have hjj : j = j / 4 * 4 + j % 4 := by omega
      have : (stV ((List.range len).map Y))[j]? = some (([.int .i64 (Y (j / 4)).over, .bool (Y (j / 4)).pend, .int .i64 (Y (j / 4)).mode, .int .i64 (Y (j / 4)).prio] : List Value).getD (j % 4) undef) := by
        rw [hjj, show (j / 4 * 4 + j % 4) / 4 = j / 4 by omega, show (j / 4 * 4 + j % 4) % 4 = j % 4 by omega]
        simp only [List.getElem_map, List.getElem_range] at hg
        obtain ⟨g0, g1, g2, g3⟩ := hg
        match hr : j % 4, hj4 with
        | 0, _ => exact g0
        | 1, _ => exact g1
        | 2, _ => exact g2
        | 3, _ => exact g3
      rw [List.getElem?_eq_getElem (by rw [stV_len]; simpa using hj1)] at this
      simpa using Option.some.inj this
    rw [he]
    exact h7
/-- a shape that came in -/
theorem open_shape {base : Nat} {v : Value} {d : DataW H} {ps : List MemPlace} (hok : Value.okWide Try.prog W .any base 23 v) (h : DataW.Trod enc Try.prog W 0 (fun _ => true) true 23 v d ps) :
    ∃ s : Int × Int × Int, v = .agg #[.int .i64 s.1, .int .i64 s.2.1, .int .i64 s.2.2] ∧ True := by
  obtain ⟨fuel, hf⟩ := h
  simp only [Value.okWide, Try.underlying23] at hok
  obtain ⟨cs, rfl, _, _⟩ := hok
  obtain ⟨v0, v1, v2, x0, x1, x2, n, hcs, e0, e1, e2⟩ := trod_three Try.underlying23 (by kernel_rfl) rfl rfl rfl (by kernel_rfl) (by kernel_rfl) (by kernel_rfl) hf
  obtain ⟨z0, rfl⟩ := open_i Try.underlying3 e0
  obtain ⟨z1, rfl⟩ := open_i Try.underlying3 e1
  obtain ⟨z2, rfl⟩ := open_i Try.underlying3 e2
  refine ⟨(z0, z1, z2), ?_, trivial⟩
  have : cs.toList = [.int .i64 z0, .int .i64 z1, .int .i64 z2] := hcs
  congr 1
  apply Array.toList_inj.1
  rw [this]
/-- a slice of lists that came in -/
theorem open_lists {a : Option Addr} {n cap : Nat} {d : DataW H} {ps : List MemPlace} (h : DataW.Trod enc Try.prog W 0 (fun _ => true) true 24 (.slice a n cap) d ps) :
    ∃ l, IsL0 W a n cap l ∧ (n = 0 ∨ ∃ e s, d = .slice e s ∧ e.length = n) := by
  obtain ⟨fuel, hf⟩ := h
  have hc1 : Try.prog.cellsOf 25 = 1 := by kernel_rfl
  rcases open_slice1 Try.underlying24 hc1 hf with ⟨hcs, _⟩ | ⟨ad, len, c, m, k, V, D, Pl, hcs, _, hl, hm, hmm, hx, hel⟩
  · simp [Value.cells] at hcs
    obtain ⟨rfl, rfl, rfl⟩ := hcs
    exact ⟨[], ⟨Sl.nil W 1, rfl, fun x hx => by cases hx⟩, .inl rfl⟩
  · simp [Value.cells] at hcs
    obtain ⟨rfl, rfl, rfl⟩ := hcs
    have hmm : m = cap := by simpa using hmm
    subst hmm
    haveI : Inhabited SL := ⟨⟨none, 0, 0, []⟩⟩
    obtain ⟨Y, hY⟩ := choose_lt (α := SL) (p := fun i s => V i = .slice s.sa s.sn s.sc ∧ IsSt W s.sa s.sn s.sc s.st) (fun i hi => open_sts (hel i hi).2)
    refine ⟨(List.range n).map Y, ⟨?_, by simp, fun x hx => ?_⟩, .inr ⟨(List.range n).map D, _, (Prod.mk.inj hx).1, by simp⟩⟩
    · have h7 := Sl_of_cells (w := W) (a := ad) (n := n) (cap := m) (k := 1) V (by decide) hl hm (fun j hj => (hel j (by omega)).1)
      have he : slV ((List.range n).map Y) = (List.range (n * 1)).map V := by
        unfold slV
        rw [List.map_map, Nat.mul_one]
        exact List.map_congr_left fun i hi => ((hY i (by have := List.mem_range.1 hi; omega)).1).symm
      rw [he]
      exact h7
    · obtain ⟨i, hi, rfl⟩ := List.mem_map.1 hx
      exact (hY i (by have := List.mem_range.1 hi; omega)).2
end
theorem statJoins_r (s : Int × Int × Int) (a : Option Addr) (n cap : Nat) (ls : List SL) (w : World) (_h : True) (h : IsL0 w a n cap ls ∧ n * 24 ≤ 140737488351232) :
    Calls Try.prog 3 #[.agg #[.int .i64 s.1, .int .i64 s.2.1, .int .i64 s.2.2], .slice a n cap] w fun e w' => e = .returned (.bool true) ∧ Below w.heap.size w w' :=
  statJoins_c s.1 s.2.1 s.2.2 a n cap ls w h.1 (by have := h.2; omega)
end Go.Proofs.Ytpobnbiakneoiaa
