import Derived.Test.YtknndpncdnhnpaaSealC
import Derived.Laws.MakeOwn
import Derived.Lib.SlBytesConst
namespace Go.Proofs.Ytknndpncdnhnpaa
open Go.RowKit Go.Cas

theorem crc_check : crc [49, 50, 51, 52, 53, 54, 55, 56, 57] = 3421780262 := by kernel_rfl
theorem crc_nil : crc [] = 0 := by kernel_rfl
theorem frameB_nil : ((frameB []).length, (frameB []).getD 0 0) = (5, 0) := by kernel_rfl
theorem openB_nil : openB [] = ([], 0, 110) := by kernel_rfl
theorem openB_five : openB [0, 0, 0, 0, 0] = ([], 0, 120) := by kernel_rfl

theorem nine : (#[.int .u8 49, .int .u8 50, .int .u8 51, .int .u8 52, .int .u8 53, .int .u8 54, .int .u8 55, .int .u8 56, .int .u8 57] : Array Value).toList = bvs [49, 50, 51, 52, 53, 54, 55, 56, 57] := by
  simp [bvs, bv]
theorem nine_flat : crc ([[49, 50, 51, 52, 53, 54, 55, 56, 57]] : List (List UInt8)).flatten = 3421780262 := by
  rw [show ([[49, 50, 51, 52, 53, 54, 55, 56, 57]] : List (List UInt8)).flatten = [49, 50, 51, 52, 53, 54, 55, 56, 57] from rfl, crc_check]
theorem none_flat : crc ([] : List (List UInt8)).flatten = 0 := crc_nil
end Go.Proofs.Ytknndpncdnhnpaa
