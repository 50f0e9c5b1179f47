/-
  No cell of these rows narrows 'for every input' (looked for: loops, veiled, ifaces, maps, wideKeys, modest, calm, conditions, laid).
  DERIVED. THE GIVEN ROWS OF THIS SEAT. 7 by the template 'for every input the law returns true; each argument reads behind the call as it read before'; 0 by the template 'total and deterministic' (their statements: YtfkncnoomablaaaTotals.lean).
  GIVEN WITH THE SEED: the statements are not yours to turn. If you find one false, say at which input.
  Laid BY PROGRAM, IN A SANDBOX (cutbox-rows.mjs): the forced cells as the released guide's own fill.sh prints them over the translation 15d5725a9d682480… (all of the seat's roots in one cut). By AI agents, Wed Nov 11 2026. No macro, syntax, notation, axiom, sorry.
-/
import Derived.Test.YtfkncnoomablaaaChecked
import GoSem.Claim
import GoSem.ClaimJoined
import GoSem.ClaimMapViews
import Derived.JoinedTies
import Derived.KernelRfl
namespace Go.Proofs.Ytfkncnoomablaaa
/- THE CELL 'sum', in the pinned program and in every row, IS THE sha256 OF THE DUMP (.gsa) THAT YtfkncnoomablaaaProg.lean LOADS. Nothing in Lean hashes anything: it is a label: what it is worth is what the hold of that sum in a sandbox is worth. -/
noncomputable def Try.pinned : Pinned := { name := "ytfkncnoomablaaa", sum := "15d5725a9d68248022789f77b8d4cbe8de6f8689b811c3113f08d74cf949f0e9", checked := Try.checked }
namespace Rows
def none {H : Type} : Left H := { results := [], args := [] }

/-- 'castellanlaw02.SealSums': WHATEVER THE INPUT: true; the input reads as it did. -/
def sealSumsSpec : ChangeSpec := { name := "sealSums", fn := fun _ => fun
  | [d1, d2] => { results := [.lit (.bool true)], args := [d1, d2] }
  | _ => none }
def sealSumsRow : OpenClaim := { program := "ytfkncnoomablaaa", sum := "15d5725a9d68248022789f77b8d4cbe8de6f8689b811c3113f08d74cf949f0e9", func := "castellan/castellanlaw02.SealSums", spec := "sealSums", unfollowed := true, recurses := true, apart := false }
def SealSumsSaid : Prop := sealSumsRow.holds Try.pinned (OpenSpec.ofChange sealSumsSpec)

/-- ITS FALSE NEIGHBOUR: 'it returns false'. Refute it at one input. -/
def sealSumsWrong : ChangeSpec := { name := "sealSums", fn := fun _ => fun
  | [d1, d2] => { results := [.lit (.bool false)], args := [d1, d2] }
  | _ => none }
def SealSumsWrongFalsely : Prop := sealSumsRow.holds Try.pinned (OpenSpec.ofChange sealSumsWrong)

/-- 'castellanlaw02.SealFrames': WHATEVER THE INPUT: true; the input reads as it did. -/
def sealFramesSpec : ChangeSpec := { name := "sealFrames", fn := fun _ => fun
  | [d1, d2] => { results := [.lit (.bool true)], args := [d1, d2] }
  | _ => none }
def sealFramesRow : OpenClaim := { program := "ytfkncnoomablaaa", sum := "15d5725a9d68248022789f77b8d4cbe8de6f8689b811c3113f08d74cf949f0e9", func := "castellan/castellanlaw02.SealFrames", spec := "sealFrames", unfollowed := true, recurses := true, apart := false }
def SealFramesSaid : Prop := sealFramesRow.holds Try.pinned (OpenSpec.ofChange sealFramesSpec)

/-- ITS FALSE NEIGHBOUR: 'it returns false'. Refute it at one input. -/
def sealFramesWrong : ChangeSpec := { name := "sealFrames", fn := fun _ => fun
  | [d1, d2] => { results := [.lit (.bool false)], args := [d1, d2] }
  | _ => none }
def SealFramesWrongFalsely : Prop := sealFramesRow.holds Try.pinned (OpenSpec.ofChange sealFramesWrong)

/-- 'castellanlaw02.SealOpens': WHATEVER THE INPUT: true; the input reads as it did. -/
def sealOpensSpec : ChangeSpec := { name := "sealOpens", fn := fun _ => fun
  | [d] => { results := [.lit (.bool true)], args := [d] }
  | _ => none }
def sealOpensRow : OpenClaim := { program := "ytfkncnoomablaaa", sum := "15d5725a9d68248022789f77b8d4cbe8de6f8689b811c3113f08d74cf949f0e9", func := "castellan/castellanlaw02.SealOpens", spec := "sealOpens", unfollowed := true, recurses := true, apart := false }
def SealOpensSaid : Prop := sealOpensRow.holds Try.pinned (OpenSpec.ofChange sealOpensSpec)

/-- ITS FALSE NEIGHBOUR: 'it returns false'. Refute it at one input. -/
def sealOpensWrong : ChangeSpec := { name := "sealOpens", fn := fun _ => fun
  | [d] => { results := [.lit (.bool false)], args := [d] }
  | _ => none }
def SealOpensWrongFalsely : Prop := sealOpensRow.holds Try.pinned (OpenSpec.ofChange sealOpensWrong)

/-- 'castellanlaw02.SealLong': WHATEVER THE INPUT: true; the input reads as it did. -/
def sealLongSpec : ChangeSpec := { name := "sealLong", fn := fun _ => fun
  | [d1, d2] => { results := [.lit (.bool true)], args := [d1, d2] }
  | _ => none }
def sealLongRow : OpenClaim := { program := "ytfkncnoomablaaa", sum := "15d5725a9d68248022789f77b8d4cbe8de6f8689b811c3113f08d74cf949f0e9", func := "castellan/castellanlaw02.SealLong", spec := "sealLong", unfollowed := true, recurses := true, apart := false }
def SealLongSaid : Prop := sealLongRow.holds Try.pinned (OpenSpec.ofChange sealLongSpec)

/-- ITS FALSE NEIGHBOUR: 'it returns false'. Refute it at one input. -/
def sealLongWrong : ChangeSpec := { name := "sealLong", fn := fun _ => fun
  | [d1, d2] => { results := [.lit (.bool false)], args := [d1, d2] }
  | _ => none }
def SealLongWrongFalsely : Prop := sealLongRow.holds Try.pinned (OpenSpec.ofChange sealLongWrong)

/-- 'castellanlaw02.SealTurned': WHATEVER THE INPUT: true; the input reads as it did. -/
def sealTurnedSpec : ChangeSpec := { name := "sealTurned", fn := fun _ => fun
  | [d1, d2] => { results := [.lit (.bool true)], args := [d1, d2] }
  | _ => none }
def sealTurnedRow : OpenClaim := { program := "ytfkncnoomablaaa", sum := "15d5725a9d68248022789f77b8d4cbe8de6f8689b811c3113f08d74cf949f0e9", func := "castellan/castellanlaw02.SealTurned", spec := "sealTurned", unfollowed := true, recurses := true, apart := false }
def SealTurnedSaid : Prop := sealTurnedRow.holds Try.pinned (OpenSpec.ofChange sealTurnedSpec)

/-- ITS FALSE NEIGHBOUR: 'it returns false'. Refute it at one input. -/
def sealTurnedWrong : ChangeSpec := { name := "sealTurned", fn := fun _ => fun
  | [d1, d2] => { results := [.lit (.bool false)], args := [d1, d2] }
  | _ => none }
def SealTurnedWrongFalsely : Prop := sealTurnedRow.holds Try.pinned (OpenSpec.ofChange sealTurnedWrong)

/-- 'castellanlaw02.SealEach': WHATEVER THE INPUT: true; the input reads as it did. -/
def sealEachSpec : ChangeSpec := { name := "sealEach", fn := fun _ => fun
  | [d1, d2] => { results := [.lit (.bool true)], args := [d1, d2] }
  | _ => none }
def sealEachRow : OpenClaim := { program := "ytfkncnoomablaaa", sum := "15d5725a9d68248022789f77b8d4cbe8de6f8689b811c3113f08d74cf949f0e9", func := "castellan/castellanlaw02.SealEach", spec := "sealEach", unfollowed := true, recurses := true, apart := false }
def SealEachSaid : Prop := sealEachRow.holds Try.pinned (OpenSpec.ofChange sealEachSpec)

/-- ITS FALSE NEIGHBOUR: 'it returns false'. Refute it at one input. -/
def sealEachWrong : ChangeSpec := { name := "sealEach", fn := fun _ => fun
  | [d1, d2] => { results := [.lit (.bool false)], args := [d1, d2] }
  | _ => none }
def SealEachWrongFalsely : Prop := sealEachRow.holds Try.pinned (OpenSpec.ofChange sealEachWrong)

/-- 'castellanlaw02.SealHolds': WHATEVER THE INPUT: true; the input reads as it did. -/
def sealHoldsSpec : ChangeSpec := { name := "sealHolds", fn := fun _ => fun
  | [d1, d2] => { results := [.lit (.bool true)], args := [d1, d2] }
  | _ => none }
def sealHoldsRow : OpenClaim := { program := "ytfkncnoomablaaa", sum := "15d5725a9d68248022789f77b8d4cbe8de6f8689b811c3113f08d74cf949f0e9", func := "castellan/castellanlaw02.SealHolds", spec := "sealHolds", unfollowed := true, recurses := true, apart := false }
def SealHoldsSaid : Prop := sealHoldsRow.holds Try.pinned (OpenSpec.ofChange sealHoldsSpec)

/-- ITS FALSE NEIGHBOUR: 'it returns false'. Refute it at one input. -/
def sealHoldsWrong : ChangeSpec := { name := "sealHolds", fn := fun _ => fun
  | [d1, d2] => { results := [.lit (.bool false)], args := [d1, d2] }
  | _ => none }
def SealHoldsWrongFalsely : Prop := sealHoldsRow.holds Try.pinned (OpenSpec.ofChange sealHoldsWrong)

/- THE SECOND FORM. 'bulk': how many values and letters a reading holds, each counted each time it is reached (what is shared counts as often as it is met; a slice's spare places count too). A statement '..UptoSaid' is the law's where the arguments, and the package variables that the reading takes, are together of bulk at most 1048576: NARROWER than '..Said'. Prove '..Said' where nothing that the law and all that it calls make is longer than what came in: it says more and counts as full. Else prove '..UptoSaid'. A law counts once. -/
mutual
def uptoBulk {H : Type} : DataW H → Nat
  | .lit (.string bytes) => bytes.length + 1
  | .lit _ => 1
  | .nil => 1
  | .ptr d => uptoBulk d + 1
  | .slice elems spare => uptoBulkAll elems + uptoBulkAll spare + 1
  | .agg parts => uptoBulkAll parts + 1
  | .iface _ d => uptoBulk d + 1
  | .map entries => uptoBulkEntries entries + 1
  | .held _ => 1
def uptoBulkAll {H : Type} : List (DataW H) → Nat
  | [] => 0
  | d :: r => uptoBulk d + uptoBulkAll r
def uptoBulkEntries {H : Type} : List (Lit × DataW H) → Nat
  | [] => 0
  | x :: r => uptoBulkEntry x + uptoBulkEntries r
def uptoBulkEntry {H : Type} : Lit × DataW H → Nat
  | (.string bytes, d) => bytes.length + uptoBulk d + 1
  | (_, d) => uptoBulk d + 1
 end
def uptoSmall : (H : Type) → List (DataW H) → Bool := fun _ ds => decide (uptoBulkAll ds ≤ 1048576)
def OpenSpec.upto (s : _root_.Go.ChangeSpec) : _root_.Go.OpenSpec := { _root_.Go.OpenSpec.ofChange s with cond := some uptoSmall }

/-- 'castellanlaw02.SealSums', WHERE WHAT IT READS IS OF BULK AT MOST 1048576: true; the input reads as it did. -/
def sealSumsUptoRow : OpenClaim := { program := "ytfkncnoomablaaa", sum := "15d5725a9d68248022789f77b8d4cbe8de6f8689b811c3113f08d74cf949f0e9", func := "castellan/castellanlaw02.SealSums", spec := "sealSums", unfollowed := true, recurses := true, apart := false, narrowed := true }
def SealSumsUptoSaid : Prop := sealSumsUptoRow.holds Try.pinned (OpenSpec.upto sealSumsSpec)

/-- 'castellanlaw02.SealFrames', WHERE WHAT IT READS IS OF BULK AT MOST 1048576: true; the input reads as it did. -/
def sealFramesUptoRow : OpenClaim := { program := "ytfkncnoomablaaa", sum := "15d5725a9d68248022789f77b8d4cbe8de6f8689b811c3113f08d74cf949f0e9", func := "castellan/castellanlaw02.SealFrames", spec := "sealFrames", unfollowed := true, recurses := true, apart := false, narrowed := true }
def SealFramesUptoSaid : Prop := sealFramesUptoRow.holds Try.pinned (OpenSpec.upto sealFramesSpec)

/-- 'castellanlaw02.SealOpens', WHERE WHAT IT READS IS OF BULK AT MOST 1048576: true; the input reads as it did. -/
def sealOpensUptoRow : OpenClaim := { program := "ytfkncnoomablaaa", sum := "15d5725a9d68248022789f77b8d4cbe8de6f8689b811c3113f08d74cf949f0e9", func := "castellan/castellanlaw02.SealOpens", spec := "sealOpens", unfollowed := true, recurses := true, apart := false, narrowed := true }
def SealOpensUptoSaid : Prop := sealOpensUptoRow.holds Try.pinned (OpenSpec.upto sealOpensSpec)

/-- 'castellanlaw02.SealLong', WHERE WHAT IT READS IS OF BULK AT MOST 1048576: true; the input reads as it did. -/
def sealLongUptoRow : OpenClaim := { program := "ytfkncnoomablaaa", sum := "15d5725a9d68248022789f77b8d4cbe8de6f8689b811c3113f08d74cf949f0e9", func := "castellan/castellanlaw02.SealLong", spec := "sealLong", unfollowed := true, recurses := true, apart := false, narrowed := true }
def SealLongUptoSaid : Prop := sealLongUptoRow.holds Try.pinned (OpenSpec.upto sealLongSpec)

/-- 'castellanlaw02.SealTurned', WHERE WHAT IT READS IS OF BULK AT MOST 1048576: true; the input reads as it did. -/
def sealTurnedUptoRow : OpenClaim := { program := "ytfkncnoomablaaa", sum := "15d5725a9d68248022789f77b8d4cbe8de6f8689b811c3113f08d74cf949f0e9", func := "castellan/castellanlaw02.SealTurned", spec := "sealTurned", unfollowed := true, recurses := true, apart := false, narrowed := true }
def SealTurnedUptoSaid : Prop := sealTurnedUptoRow.holds Try.pinned (OpenSpec.upto sealTurnedSpec)

/-- 'castellanlaw02.SealEach', WHERE WHAT IT READS IS OF BULK AT MOST 1048576: true; the input reads as it did. -/
def sealEachUptoRow : OpenClaim := { program := "ytfkncnoomablaaa", sum := "15d5725a9d68248022789f77b8d4cbe8de6f8689b811c3113f08d74cf949f0e9", func := "castellan/castellanlaw02.SealEach", spec := "sealEach", unfollowed := true, recurses := true, apart := false, narrowed := true }
def SealEachUptoSaid : Prop := sealEachUptoRow.holds Try.pinned (OpenSpec.upto sealEachSpec)

/-- 'castellanlaw02.SealHolds', WHERE WHAT IT READS IS OF BULK AT MOST 1048576: true; the input reads as it did. -/
def sealHoldsUptoRow : OpenClaim := { program := "ytfkncnoomablaaa", sum := "15d5725a9d68248022789f77b8d4cbe8de6f8689b811c3113f08d74cf949f0e9", func := "castellan/castellanlaw02.SealHolds", spec := "sealHolds", unfollowed := true, recurses := true, apart := false, narrowed := true }
def SealHoldsUptoSaid : Prop := sealHoldsUptoRow.holds Try.pinned (OpenSpec.upto sealHoldsSpec)

end Rows
end Go.Proofs.Ytfkncnoomablaaa
