import Derived.Test.YtknndpncdnhnpaaRows
import Derived.Test.YtknndpncdnhnpaaBase
import Derived.WalkKit
import Derived.ProofKit
import Derived.OpenShut
import Derived.ShutString
import Derived.ChangeOld
import Derived.ChangeSlices
namespace Go.Proofs.Ytknndpncdnhnpaa
open Go.RowKit Go.Cas Go.ChangeShapes Go.WideShapes Go.ChangeAt

theorem u8_of_wf {z : Int} (h : (Lit.int .u8 z).wf = true) : ((UInt8.ofNat z.toNat).toNat : Int) = z := by
  have h2 : 0 ≤ z ∧ z < 256 := by
    simp [Lit.wf, IntKind.min, IntKind.max, IntKind.signed, IntKind.bits] at h
    omega
  rw [UInt8.toNat_ofNat']
  omega

set_option maxRecDepth 100000 in
/-- A slice of bytes that came in. -/
theorem open_bytes {H : Type} {enc : TypeId × Value → H} {W : World} {base : Nat} {a : Option Addr} {n cap : Nat} {d : DataW H} {ps : List MemPlace}
    (hok : Value.okWide Try.prog W .any base 32 (.slice a n cap)) (h : DataW.Trod enc Try.prog W 0 (fun _ => true) true 32 (.slice a n cap) d ps) : ∃ l, IsB W a n cap l := by
  obtain ⟨fuel, hf⟩ := h
  rcases open_ints Try.underlying32 Try.underlying5 (by kernel_rfl) hf with ⟨hcs, _⟩ | ⟨x, l, c, zs, hcs, _, hl, hm, hz, _, hcell, hwz⟩
  · simp [Value.cells] at hcs
    obtain ⟨rfl, rfl, rfl⟩ := hcs
    exact ⟨[], IsB.nil W⟩
  · simp [Value.cells] at hcs
    obtain ⟨rfl, rfl, rfl⟩ := hcs
    have hz : zs.length = cap := by simpa using hz
    have hhas : Cell.okWide Try.prog W .any base 32 (.slice (some x) n cap) := by
      simpa only [Value.okWide, Try.underlying32] using hok
    simp only [Cell.okWide, Try.underlying32, Cell.ok] at hhas
    obtain ⟨_, _, _, hspot, row, cells, hshape, _⟩ := hhas
    obtain ⟨b, o, sp⟩ := x
    obtain rfl : sp = none := hspot
    have hrow : ∃ cs e fr, W.heap[b]? = some (.cells cs e fr) := by
      unfold World.shape? at hshape
      dsimp only at hshape
      split at hshape
      · rename_i cs e fr hh; exact ⟨cs, e, fr, hh⟩
      · cases hshape
    obtain ⟨cs, e, fr, hh⟩ := hrow
    have hc : ∀ i, i < zs.length → cs[o + i]? = some (.int .u8 (zs.getD i 0)) := by
      intro i hi
      have h1 := hcell i hi
      rw [show (⟨b, o, none⟩ : Addr).add i = ⟨b, o + i, none⟩ from by unfold Addr.add; split <;> simp_all] at h1
      unfold World.cell? at h1
      dsimp only at h1
      rw [hh] at h1
      simpa using h1
    refine ⟨(zs.take n).map (fun z => UInt8.ofNat z.toNat), by rw [bvs_len, List.length_map, List.length_take]; omega, hl, hm, (fun h => nomatch h), fun ad had h0 => ?_⟩
    obtain rfl := Option.some.inj had
    refine ⟨rfl, cs, e, fr, hh, ?_, fun i hi => ?_⟩
    · have := (Array.getElem?_eq_some_iff.1 (hc (cap - 1) (by omega))).1
      show o + cap * 1 ≤ cs.size
      omega
    · have hi' : i < zs.length := by omega
      show cs[o + i]? = _
      rw [hc i hi', bvs, List.getElem?_map, List.getElem?_map, List.getElem?_take, if_pos (by omega), List.getElem?_eq_getElem hi']
      have hwf := u8_of_wf (hwz _ (List.getElem_mem hi'))
      simp only [Option.map_some, bv, hwf, List.getD, List.getElem?_eq_getElem hi', Option.getD_some]
end Go.Proofs.Ytknndpncdnhnpaa
