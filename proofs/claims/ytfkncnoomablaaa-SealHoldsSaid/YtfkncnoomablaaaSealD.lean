import Derived.Test.YtfkncnoomablaaaSealC
import Derived.Laws.MakeOwn
import Derived.Lib.SlBytesConst
namespace Go.Proofs.Ytfkncnoomablaaa
open Go.RowKit Go.Cas

theorem below_then {w w1 w2 : World} (h : Below w.heap.size w w1) (h' : Below w1.heap.size w1 w2) : Below w.heap.size w w2 := h.trans (h'.mono h.size)
theorem crc_check : crc [49, 50, 51, 52, 53, 54, 55, 56, 57] = 3421780262 := by kernel_rfl
theorem crc_nil : crc [] = 0 := by kernel_rfl
theorem frameB_nil : ((frameB []).length, (frameB []).getD 0 0) = (5, 0) := by kernel_rfl
theorem openB_nil : openB [] = ([], 0, 110) := by kernel_rfl
theorem openB_five : openB [0, 0, 0, 0, 0] = ([], 0, 120) := by kernel_rfl

/-- A new block of bytes. -/
theorem IsB_freshF (w : World) (e : TypeId) (fr : Nat × Nat) (l : List UInt8) (n : Nat) (hn : l.length = n) (hl : n ≤ maxLen) {cs : Array Value} (hc : cs.toList = bvs l) : IsB (w.alloc (.cells cs e fr)) (some ⟨w.heap.size, 0, none⟩) n n l := by
  subst hn
  refine ⟨by rw [bvs_len, Nat.mul_one], Nat.le_refl _, hl, fun h => (nomatch h), fun ad had h0 => ?_⟩
  obtain rfl := Option.some.inj had
  refine ⟨rfl, cs, e, fr, heap_alloc_new w _, ?_, fun i hi => ?_⟩
  · have h1 : cs.size = l.length := by rw [← Array.length_toList, hc, bvs_len]
    show 0 + l.length * 1 ≤ cs.size
    omega
  · show cs[0 + i]? = _
    rw [Nat.zero_add, ← Array.getElem?_toList, hc]
theorem IsB_fresh (w : World) (e : TypeId) (l : List UInt8) (n : Nat) (hn : l.length = n) (hl : n ≤ maxLen) {cs : Array Value} (hc : cs.toList = bvs l) : IsB (w.alloc (.cells cs e)) (some ⟨w.heap.size, 0, none⟩) n n l := IsB_freshF w e _ l n hn hl hc
theorem nine : (#[.int .u8 49, .int .u8 50, .int .u8 51, .int .u8 52, .int .u8 53, .int .u8 54, .int .u8 55, .int .u8 56, .int .u8 57] : Array Value).toList = bvs [49, 50, 51, 52, 53, 54, 55, 56, 57] := by
  simp [bvs, bv]
theorem nine_flat : crc ([[49, 50, 51, 52, 53, 54, 55, 56, 57]] : List (List UInt8)).flatten = 3421780262 := by
  rw [show ([[49, 50, 51, 52, 53, 54, 55, 56, 57]] : List (List UInt8)).flatten = [49, 50, 51, 52, 53, 54, 55, 56, 57] from rfl, crc_check]
theorem none_flat : crc ([] : List (List UInt8)).flatten = 0 := crc_nil
theorem make_bytes (w : World) (n : Nat) {x : Int} (hx : x = (n : Int)) (hn : n ≤ 2 ^ 40) :
    ∃ cs, (Instr.makeSlice 22 (.int .i64 x) (.int .i64 x)).run Try.prog w = .ok (.slice (some ⟨w.heap.size, 0, none⟩) n n) (w.alloc (.cells cs 5)) ∧ cs.toList = bvs (List.replicate n 0) := by
  subst hx
  have hi := infoU8
  cases hq : Try.prog.info? 5 with
  | none => rw [hq] at hi; cases hi
  | some i =>
    rw [hq] at hi
    simp only [Option.map_some, Option.some.injEq, Prod.mk.injEq] at hi
    obtain ⟨hz, hs, hb⟩ := hi
    have := run_make (P := Try.prog) w 22 5 i (.int .u8 0) Try.underlying22 hq hz .i64 .i64 (n : Int) (n : Int) (by omega) (by omega)
    rw [Int.toNat_natCast, hs, Nat.mul_one] at this
    refine ⟨_, this (by rw [hb]; omega) (by omega), ?_⟩
    apply List.ext_getElem
    · simp [madeCells, bvs]
    · intro k h1 h2
      simp [madeCells, bvs, bv, Value.cells, Nat.mod_one]
set_option maxRecDepth 100000 in
set_option maxHeartbeats 4000000 in
theorem works_c (w : World) : Calls Try.prog 10 #[] w fun e w' => e = .returned (.bool true) ∧ Below w.heap.size w w' := by
  go_enter Try.func10, Try.ntmps10
  go_wp2_with fail
  refine (seal_ok none 0 0 [] (by decide) _ (IsB.nil _)).mono ?_
  rintro e w1 ⟨v1, rfl, ho1, hb1⟩
  obtain ⟨a1, n1, c1, rfl, hs1⟩ := ho1.slice'
  have hn1 : n1 = 5 := by rw [← hs1.len]; exact congrArg Prod.fst frameB_nil
  subst hn1
  obtain ⟨b1, o1, rfl, -⟩ := hs1.some_of_lt (by have := hs1.le; omega)
  go_wp2_with fail
  refine (open_c none 0 0 [] (by decide) _ (IsB.nil _)).mono ?_
  rintro e w2 ⟨v2, rfl, ho2, hb2⟩
  rw [openB_nil]
  have hs12 := hs1.later hb2
  obtain ⟨cs5, hmk, hcs5⟩ := make_bytes w2 5 (x := 5) rfl (by decide)
  go_wp2_with fail
  refine (open_c _ 5 5 [0, 0, 0, 0, 0] (by decide) _ (IsB_fresh w2 _ [0, 0, 0, 0, 0] 5 rfl (by decide) hcs5)).mono ?_
  rintro e w3 ⟨v3, rfl, ho3, hb3⟩
  rw [openB_five]
  have hs13 := (hs12.alloc _).later hb3
  have hcc := fun C => Lib.run_convert_bytes_const (P := Try.prog) w3 22 5 C 9 9 Try.underlying22 Try.underlying5
  go_wp2_with fail
  refine (sum_c _ 1 1 [[49, 50, 51, 52, 53, 54, 55, 56, 57]] (by decide) (by decide) _ ?_).mono ?_
  · have := IsBB.new1 (IsB_freshF w3 5 (9, 10) [49, 50, 51, 52, 53, 54, 55, 56, 57] 9 rfl (by decide) nine) 22
    rwa [World.size_alloc] at this
  rintro e w4 ⟨rfl, hb4⟩
  rw [nine_flat]
  have hs14 := ((hs13.alloc _).alloc _).later hb4
  go_wp2_with fail
  refine (sum_c none 0 0 [] (by decide) (by simp) _ ⟨[], Sl.nil _ 1, rfl, fun i hi => by omega⟩).mono ?_
  rintro e w5 ⟨rfl, hb5⟩
  rw [none_flat]
  have hs15 := hs14.later hb5
  have hcell := hs15.cell (i := 0) (by omega)
  rw [Nat.add_zero] at hcell
  rw [show (frameB []).getD 0 0 = 0 from congrArg Prod.snd frameB_nil] at hcell
  go_wp2_with (first | (go_at_call 16; refine (num_c _ _).mono ?_; rintro e w' ⟨rfl, rfl⟩))
  go_ret
  exact ⟨rfl, below_then (below_then (below_then (below_then (below_then (below_then (below_then hb1 hb2) (below_alloc _ _)) hb3) (below_alloc _ _)) (below_alloc _ _)) hb4) hb5⟩
end Go.Proofs.Ytfkncnoomablaaa
