import Derived.Test.YtknndpncdnhnpaaOctD
namespace Go.Proofs.Ytknndpncdnhnpaa
open Go.RowKit Go.Cas

theorem four_ty : Try.prog.underlying 127 = some (.array 256 108) := by kernel_rfl

/-- the table's first k numbers -/
def TabTo (w : World) (blk k : Nat) : Prop := ∃ cs e, w.heap[blk]? = some (.cells cs e (0, 0)) ∧ cs.size = 256 ∧ ∀ i, i < k → cs[i]? = some (.int .u32 (turns 8 i : Int))
theorem TabTo.cell {w : World} {blk k i : Nat} (h : TabTo w blk k) (hi : i < k) : w.cell? ⟨blk, i, none⟩ = some (.int .u32 (turns 8 i : Int)) := by
  obtain ⟨cs, e, hh, _, hc⟩ := h
  simp [World.cell?, hh, hc i hi]
theorem TabTo.lt {w : World} {blk k : Nat} (h : TabTo w blk k) : blk < w.heap.size := by
  obtain ⟨cs, e, hh, _⟩ := h
  exact (Array.getElem?_eq_some_iff.1 hh).1
theorem TabTo.later {w w' : World} {blk k : Nat} (h : TabTo w blk k) (hb : Below w.heap.size w w') : TabTo w' blk k := by
  have hl := h.lt
  obtain ⟨cs, e, hh, r⟩ := h
  exact ⟨cs, e, (hb.block _ hl).trans hh, r⟩
theorem TabTo.block {w w' : World} {blk k : Nat} (h : TabTo w blk k) (he : w'.heap[blk]? = w.heap[blk]?) : TabTo w' blk k := by
  obtain ⟨cs, e, hh, r⟩ := h
  exact ⟨cs, e, he.trans hh, r⟩
theorem TabTo.old {w : World} {blk k i : Nat} (h : TabTo w blk k) (hi : i < 256) : ∃ v, w.cell? ⟨blk, i, none⟩ = some v := by
  obtain ⟨cs, e, hh, hs, _⟩ := h
  exact ⟨cs[i], by simp [World.cell?, hh, hs, hi]⟩
theorem TabTo.fz {w : World} {blk k : Nat} (h : TabTo w blk k) (i : Nat) : w.frozen? ⟨blk, i, none⟩ = false := by
  obtain ⟨cs, e, hh, hs, _⟩ := h
  simp [World.frozen?, hh]
theorem TabTo.set {w : World} {blk k : Nat} (h : TabTo w blk k) (hk : k < 256) : TabTo (w.setCell ⟨blk, k, none⟩ (.int .u32 (turns 8 k : Int))) blk (k + 1) := by
  obtain ⟨cs, e, hh, hs, hc⟩ := h
  refine ⟨cs.setIfInBounds k (.int .u32 (turns 8 k : Int)), e, by simp [World.setCell, Array.getElem?_modify, hh], by simp [hs], fun i hi => ?_⟩
  rw [Array.getElem?_setIfInBounds]
  by_cases hik : k = i
  · subst hik; simp [hs, hk]
  · rw [if_neg hik]; exact hc i (by omega)

theorem and1 {v : Nat} (hv : v < 2 ^ 32) : bits BinOp.and IntKind.u32 (v : Int) 1 = ((v % 2 : Nat) : Int) := by
  have := u32_and_nat v 1 (by omega) (by omega)
  rw [nat_mask1] at this; exact this
theorem xorP {v : Nat} (hv : v < 2 ^ 32) : bits BinOp.xor IntKind.u32 (v : Int) 3988292384 = ((v ^^^ turnP : Nat) : Int) :=
  u32_xor_nat v 3988292384 (by omega) (by omega)

set_option maxHeartbeats 1000000 in
set_option maxRecDepth 100000 in
theorem fill_c (blk : Nat) (w : World) (h : TabTo w blk 0) : Calls Try.prog 77 #[.pointer (some ⟨blk, 0, none⟩)] w fun e w' => e = .returned (.tuple #[]) ∧ TabTo w' blk 256 ∧ w.grownBy w' (some blk) := by
  go_enter Try.func77, Try.ntmps77
  go_wp2
  go_loopw [5] (fun i wr => ∃ k : Nat, k ≤ 256 ∧ i = .int .i64 k ∧ TabTo wr blk k ∧ w.grownBy wr (some blk)) (fun i _ => 256 - (intOf i).toNat)
  case atStart => exact ⟨0, by omega, rfl, h, World.grownBy.refl _ _⟩
  case round =>
    obtain ⟨k, hk, rfl, ht, hg⟩ := hrel
    by_cases hlt : k < 256
    · obtain ⟨old, hold⟩ := ht.old hlt
      have hfz := ht.fz k
      go_wp2
      go_loop [3, 10] (fun s j => ∃ m v : Nat, m ≤ 8 ∧ j = .int .i64 m ∧ s = .int .u32 v ∧ v < 2 ^ 32 ∧ turns (8 - m) v = turns 8 k) (fun _ j => 8 - (intOf j).toNat)
      case atStart => exact ⟨0, k, by omega, rfl, rfl, by omega, rfl⟩
      case round =>
        obtain ⟨m, v, hm, rfl, rfl, hv, htv⟩ := hrel
        have hand := and1 hv
        have hx := xorP (v := v / 2) (by omega)
        rw [show ((v / 2 : Nat) : Int) = (v : Int) / 2 from by omega] at hx
        have HV := Lib.hid hv; clear hv
        have HT := Lib.hid htv; clear htv
        by_cases hm8 : m < 8
        · have e8 : 8 - m = (8 - (m + 1)) + 1 := by omega
          have HE := Lib.hid e8; clear e8
          have hlt1 := turn1_lt HV.out
          have HL := Lib.hid hlt1; clear hlt1
          by_cases hodd : v % 2 = 1
          · have ho : ((v : Int) % 2 == 1) = true := by simp; omega
            have ht1 : turn1 v = v / 2 ^^^ turnP := by rw [turn1, if_pos hodd]
            have HO := Lib.hid ht1; clear ht1 hodd
            go_wp2
            go_round
            case rel => exact ⟨m + 1, turn1 v, by omega, by go_num, by rw [HO.out], HL.out, by rw [← HT.out, HE.out]; rfl⟩
            case measure => simp [intOf]; omega
          · have ho : ((v : Int) % 2 == 1) = false := by simp; omega
            have ht1 : turn1 v = v / 2 := by rw [turn1, if_neg hodd]
            have HO := Lib.hid ht1; clear ht1 hodd
            go_wp2
            go_round
            case rel => exact ⟨m + 1, turn1 v, by omega, by go_num, by rw [HO.out]; go_num, HL.out, by rw [← HT.out, HE.out]; rfl⟩
            case measure => simp [intOf]; omega
        · have hv2 : v = turns 8 k := by
            have := HT.out
            rw [show 8 - m = 0 from by omega] at this
            exact this
          go_wp2
          go_roundw
          case rel => exact ⟨k + 1, by omega, by go_num, ht.set hlt, grown_trans hg (grown_set _ _ _ _)⟩
          case measure => simp [intOf]; omega
    · go_wp2
      obtain rfl : k = 256 := by omega
      go_end0
      exact ⟨rfl, ht, hg⟩

set_option maxHeartbeats 1000000 in
set_option maxRecDepth 100000 in
theorem step_c (blk : Nat) (w : World) (h : TabTo w blk 256) (s : Nat) (hs : s < 2 ^ 32) (c : UInt8) : Calls Try.prog 79 #[.pointer (some ⟨blk, 0, none⟩), .int .u32 (s : Int), .int .u8 (c.toNat : Int)] w fun e w' => e = .returned (.int .u32 (stepB s c : Int)) ∧ w = w' := by
  have hc := c.toNat_lt
  have hst := stepB_table s c
  have hstl := stepB_lt hs c
  generalize stepB s c = r at *
  generalize c.toNat = c at *
  have hx1 := u8_xor_nat (s % 256) c (by omega) hc
  have hxl : s % 256 ^^^ c < 256 := Nat.xor_lt_two_pow (n := 8) (by omega) hc
  have hcell := h.cell hxl
  have hx2 := u32_xor_nat (turns 8 (s % 256 ^^^ c)) (s / 256) (turns_lt (by omega)) (by omega)
  generalize s % 256 ^^^ c = i at *
  rw [show ((s % 256 : Nat) : Int) = (s : Int) % 256 from by omega] at hx1
  rw [show ((s / 256 : Nat) : Int) = (s : Int) / 256 from by omega, ← hst] at hx2
  have HS := Lib.hid hs; clear hs
  have HR := Lib.hid hst; clear hst
  have HL := Lib.hid hstl; clear hstl
  generalize turns 8 i = y at *
  go_enter Try.func79, Try.ntmps79
  go_wp2
  go_ret
  exact ⟨rfl, rfl⟩

set_option maxHeartbeats 1000000 in
set_option maxRecDepth 100000 in
theorem refSum_c (a : Option Addr) (n cap : Nat) (l : List UInt8) (hn : n ≤ 2 ^ 40) (w : World) (h : IsB w a n cap l) :
    Calls Try.prog 71 #[.slice a n cap] w fun e w' => e = .returned (.int .u32 (crc l : Int)) ∧ w = w' := by
  have hl := h.len
  have HL := Lib.hid hl; clear hl
  go_enter Try.func71, Try.ntmps71
  go_wp2
  go_loop [3, 4] (fun s i => ∃ k : Nat, k ≤ n ∧ i = .int .i64 k ∧ s = .int .u32 (runB ones (l.take k) : Int)) (fun _ i => n - (intOf i).toNat)
  case atStart => exact ⟨0, by omega, rfl, rfl⟩
  case round =>
    obtain ⟨k, hk, rfl, rfl⟩ := hrel
    by_cases hlt : k < n
    · obtain ⟨b, off, rfl, hbl⟩ := h.some_of_lt (by have := h.le; omega)
      have hcell := h.cell hlt
      have hr : runB ones (l.take (k + 1)) = stepB (runB ones (l.take k)) (l.getD k 0) := by
        have : k < l.length := by have := HL.out; omega
        rw [List.take_succ_eq_append_getElem this, runB_append]
        simp [List.getD, this, runB]
      have hv := runB_lt ones_lt (l.take k)
      generalize runB ones (l.take k) = s at hv hr
      generalize l.getD k 0 = c at hcell hr
      have hx := u32_xor_nat s c.toNat hv (by have := c.toNat_lt; omega)
      have hxl := xorB_lt hv c
      rw [stepB] at hr
      have hcl := c.toNat_lt
      generalize c.toNat = c at *
      generalize s ^^^ c = x at *
      have HV := Lib.hid hv; clear hv
      have HX := Lib.hid hxl; clear hxl
      have HR := Lib.hid hr; clear hr
      go_wp2
      go_loop [3, 5] (fun s j => ∃ m v : Nat, m ≤ 8 ∧ j = .int .i64 m ∧ s = .int .u32 v ∧ v < 2 ^ 32 ∧ turns (8 - m) v = turns 8 x) (fun _ j => 8 - (intOf j).toNat)
      case atStart => exact ⟨0, x, by omega, rfl, rfl, HX.out, rfl⟩
      case round =>
        obtain ⟨m, v, hm, rfl, rfl, hv, htv⟩ := hrel
        have hx := xorP (v := v / 2) (by omega)
        rw [show ((v / 2 : Nat) : Int) = (v : Int) / 2 from by omega] at hx
        have HV := Lib.hid hv; clear hv
        have HT := Lib.hid htv; clear htv
        by_cases hm8 : m < 8
        · have e8 : 8 - m = (8 - (m + 1)) + 1 := by omega
          have HE := Lib.hid e8; clear e8
          have hlt1 := turn1_lt HV.out
          have HL := Lib.hid hlt1; clear hlt1
          have hw32 : IntKind.u32.wrap ((v : Int) / 2) = (v : Int) / 2 := by
            have := HV.out
            rw [IntKind.wrap_u32']; omega
          by_cases hodd : v % 2 = 1
          · have ho : ((v : Int) % 2 == 1) = true := by simp; omega
            have ht1 : turn1 v = v / 2 ^^^ turnP := by rw [turn1, if_pos hodd]
            have HO := Lib.hid ht1; clear ht1 hodd
            go_wp2
            go_round
            case rel => exact ⟨m + 1, turn1 v, by omega, by go_num, by rw [HO.out], HL.out, by rw [← HT.out, HE.out]; rfl⟩
            case measure => simp [intOf]; omega
          · have ho : ((v : Int) % 2 == 1) = false := by simp; omega
            have ht1 : turn1 v = v / 2 := by rw [turn1, if_neg hodd]
            have HO := Lib.hid ht1; clear ht1 hodd
            go_wp2
            go_round
            case rel => exact ⟨m + 1, turn1 v, by omega, by go_num, by rw [HO.out]; go_num, HL.out, by rw [← HT.out, HE.out]; rfl⟩
            case measure => simp [intOf]; omega
        · have hv2 : v = turns 8 x := by
            have := HT.out
            rw [show 8 - m = 0 from by omega] at this
            exact this
          have HV2 := Lib.hid hv2; clear hv2
          go_wp2
          go_round
          case rel => exact ⟨k + 1, by omega, by go_num, by rw [HR.out, HV2.out]⟩
          case measure => simp [intOf]; omega
    · obtain rfl : k = n := by omega
      go_wp2
      go_ret
      refine ⟨ret_int ?_, rfl⟩
      have hv := runB_lt ones_lt l
      have e : l.take k = l := List.take_of_length_le (by have := HL.out; omega)
      rw [e]
      simp only [crc, ones] at *
      generalize runB 4294967295 l = s at *
      show (4294967295 - (s : Int)) % 4294967296 = _
      omega
end Go.Proofs.Ytknndpncdnhnpaa
