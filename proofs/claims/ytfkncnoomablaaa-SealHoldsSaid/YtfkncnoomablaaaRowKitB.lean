import Derived.Test.YtfkncnoomablaaaRowKit
import Derived.Deep.Matrix
namespace Go.Proofs.Ytfkncnoomablaaa
open Go.RowKit Go.Cas Go.ChangeShapes Go.WideShapes Go.ChangeAt

theorem Sl_of_cells {w : World} {a : Addr} {n cap k : Nat} (f : Nat → Value) (hk : 0 < k) (hn : n ≤ cap) (hm : cap ≤ maxLen) (hc : ∀ i, i < cap * k → w.cell? (a.add i) = some (f i)) : Sl w k (some a) n cap ((List.range (n * k)).map f) := by
  refine ⟨by simp, hn, hm, (fun h => nomatch h), fun ad had h0 => ?_⟩
  obtain rfl := Option.some.inj had
  have hpos : 0 < cap * k := Nat.mul_pos h0 hk
  have h1 := hc 0 hpos
  have hsp : a.spot = none ∧ ∃ cs e fr, w.heap[a.block]? = some (.cells cs e fr) := by
    rw [show a.add 0 = a from rfl] at h1
    unfold World.cell? at h1
    split at h1
    · rename_i cs e fr hh
      split at h1
      · cases h1
      · rename_i hs
        exact ⟨by simpa using hs, cs, e, fr, hh⟩
    · cases h1
  obtain ⟨hs, cs, e, fr, hh⟩ := hsp
  have hall : ∀ i, i < cap * k → cs[a.off + i]? = some (f i) := by
    intro i hi
    have h2 := hc i hi
    rw [show a.add i = ⟨a.block, a.off + i, none⟩ from by unfold Addr.add; split <;> (cases a; simp_all)] at h2
    simpa [World.cell?, hh] using h2
  refine ⟨hs, cs, e, fr, hh, ?_, fun i hi => ?_⟩
  · have := (Array.getElem?_eq_some_iff.1 (hall (cap * k - 1) (by omega))).1
    omega
  · have h3 : i < cap * k := Nat.lt_of_lt_of_le hi (Nat.mul_le_mul_right k hn)
    rw [hall i h3]
    simp [hi]

def bytesOf (zs : List Int) : List UInt8 := zs.map fun z => UInt8.ofNat z.toNat
/-- A slice of slices of bytes that came in. -/
theorem open_rows {H : Type} {enc : TypeId × Value → H} {W : World} {a : Option Addr} {n cap : Nat} {d : DataW H} {ps : List MemPlace}
    (h : DataW.Trod enc Try.prog W 0 (fun _ => true) true 46 (.slice a n cap) d ps) : ∃ ls, IsBB W a n cap ls := by
  obtain ⟨fuel, hf⟩ := h
  rcases Go.Deep.open_int_rows Try.underlying46 Try.underlying22 Try.underlying5 (by kernel_rfl) (by kernel_rfl) hf with ⟨hcs, _⟩ | ⟨x, len, c, A, L, C, Z, hcs, _, hl, hm, _, hrow⟩
  · simp [Value.cells] at hcs
    obtain ⟨rfl, rfl, rfl⟩ := hcs
    exact ⟨[], [], Sl.nil W 1, rfl, fun i hi => by omega⟩
  · simp [Value.cells] at hcs
    obtain ⟨rfl, rfl, rfl⟩ := hcs
    refine ⟨(List.range n).map fun r => bytesOf ((Z r).take (L r)), _, Sl_of_cells (k := 1) (fun r => .slice (A r) (L r) (C r)) (by decide) hl hm (fun i hi => (hrow i (by omega)).1), by simp, fun i hi => ⟨A i, L i, C i, by simp [hi], ?_⟩⟩
    obtain ⟨_, h1, h2, h3, h4, h5, h6⟩ := hrow i (by omega)
    rw [show ((List.range n).map fun r => bytesOf ((Z r).take (L r))).getD i [] = bytesOf ((Z i).take (L i)) from by simp [List.getD, hi]]
    cases hA : A i with
    | none =>
      have hc0 := h5 hA
      have hl0 : L i = 0 := by omega
      rw [hc0, hl0]
      simp only [List.take_zero]
      exact IsB.nil W
    | some a' =>
      have h7 := Sl_of_cells (w := W) (a := a') (n := L i) (cap := C i) (k := 1) (fun c => .int .u8 ((Z i).getD c 0)) (by decide) h1 h2 (fun c hc => (h6 a' hA).2 c (by omega))
      unfold IsB
      have he : bvs (bytesOf ((Z i).take (L i))) = (List.range (L i * 1)).map fun c => Value.int .u8 ((Z i).getD c 0) := by
        refine List.ext_getElem (by simp [bvs, bytesOf]; omega) fun j hj1 hj2 => ?_
        simp [bvs, bytesOf] at hj1
        have hjz : j < (Z i).length := by omega
        have hwf := u8_of_wf (h4 _ (List.getElem_mem hjz))
        simp only [bvs, bytesOf, List.getElem_map, List.getElem_take, List.getElem_range, bv, hwf, List.getD, List.getElem?_eq_getElem hjz, Option.getD_some]
      rw [he]
      exact h7
end Go.Proofs.Ytfkncnoomablaaa
