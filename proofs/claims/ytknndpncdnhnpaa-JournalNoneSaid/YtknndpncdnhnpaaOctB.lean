import Derived.Test.YtknndpncdnhnpaaOctA
import Derived.BigQuiet
import Derived.Deep.QuietTactic
namespace Go.Proofs.Ytknndpncdnhnpaa
open Go.RowKit Go.Cas

theorem or128 {m : Nat} : bits BinOp.or IntKind.u8 ((m : Int) % 256) 128 = ((m % 128 + 128 : Nat) : Int) := by
  rw [show ((m : Int) % 256) = ((m % 256 : Nat) : Int) from by omega, show (128 : Int) = ((128 : Nat) : Int) from rfl]
  rw [u8_or_nat (m % 256) 128 (by omega) (by omega)]
  have : m % 256 ||| 128 = m % 128 + 128 := by
    have h := Nat.and_or_distrib_right (m % 256) 127 128
    apply Nat.eq_of_testBit_eq
    intro i
    have e : (m % 128 + 128).testBit i = (if i < 7 then m.testBit i else decide (i = 7)) := by
      rw [Nat.add_comm, show (128 : Nat) = 2 ^ 7 from rfl]
      by_cases h7 : i < 7
      · rw [Nat.testBit_two_pow_add_gt h7, Nat.testBit_mod_two_pow, if_pos h7]; simp [h7]
      · by_cases he : i = 7
        · subst he; rw [Nat.testBit_two_pow_add_eq, Nat.testBit_mod_two_pow]; simp
        · rw [if_neg h7, decide_eq_false he]
          apply Nat.testBit_lt_two_pow
          have : 2 ^ 8 ≤ 2 ^ i := Nat.pow_le_pow_right (by omega) (by omega)
          have : m % 2 ^ 7 < 2 ^ 7 := Nat.mod_lt _ (by decide)
          omega
    rw [e, Nat.testBit_or, show (256 : Nat) = 2 ^ 8 from rfl, Nat.testBit_mod_two_pow, show (128 : Nat) = 2 ^ 7 from rfl, Nat.testBit_two_pow]
    by_cases h7 : i < 7
    · have h8 : i < 8 := by omega
      have hne : ¬ 7 = i := by omega
      simp [h7, h8, hne]
    · by_cases he : i = 7
      · subst he; simp
      · have h8 : ¬ i < 8 := by omega
        have hne : ¬ 7 = i := by omega
        simp [h7, h8, hne, he]
  rw [this]

theorem idx7 : ∀ w, (Instr.index 36 (.agg #[.int .i64 7, .int .i64 10]) (.int .i64 0)).run Try.prog w = .ok (.int .i64 7) w := fun _ => by kernel_rfl
theorem idx10 : ∀ w, (Instr.index 36 (.agg #[.int .i64 7, .int .i64 10]) (.int .i64 1)).run Try.prog w = .ok (.int .i64 10) w := fun _ => by kernel_rfl

set_option maxRecDepth 100000 in
theorem number_c (n : Nat) (hn : n < 2 ^ 64) (w : World) : Calls Try.prog 58 #[.int .u64 (n : Int)] w (RetB 5 w (numB n)) := by
  have H := Lib.hid hn; clear hn
  go_enter Try.func58, Try.ntmps58
  go_wp2
  go_loopw [0, 2] (fun x v wr => ∃ (k m : Nat) (l : List UInt8), x = .int .u64 (m : Int) ∧ m ≤ n ∧ m < 2 * 128 ^ k ∧ k ≤ 9 ∧ numB n = l ++ numF k m ∧ OwnB wr w.heap.size 5 v l ∧ Below w.heap.size w wr) (fun x _ _ => (intOf x).toNat)
  case atStart => exact ⟨9, n, [], rfl, Nat.le_refl _, by have := H.out; omega, Nat.le_refl _, rfl, World.ownsRow_nil _ _ _ _, Below.refl _ _⟩
  case round =>
    obtain ⟨k, m, l, rfl, hmn, hm, hk, hl, ho, hb⟩ := hrel
    have HM := Lib.hid hmn; clear hmn
    obtain ⟨a, cap, rfl, hs⟩ := ho.slice
    have hlen : l.length ≤ 10 := by have := numB_len n; rw [hl] at this; simp at this; omega
    have HL := Lib.hid hl; clear hl
    have hsz := hb.size
    by_cases hlt : m < 128
    · go_wp2_with (at_builtin; refine wpList_append_byte rfl _ _ 32 rfl w.heap.size 5 _ Try.underlying32 infoU8 rfl l rfl ho _ rfl (by omega) (by omega) (by omega) ?_; intro a1 cap1 w1 ho1 hb1)
      go_ret
      refine ⟨_, rfl, ?_, hb.trans hb1⟩
      have : numF k m = [UInt8.ofNat m] := by cases k <;> simp [numF, hlt]
      rw [HL.out, this]
      simpa using ho1
    · have ho128 := or128 (m := m)
      have i7 := idx7
      go_wp2_with (first | (at_builtin; refine wpList_append_byte rfl _ _ 32 rfl w.heap.size 5 _ Try.underlying32 infoU8 rfl l rfl ho _ rfl (by omega) (by omega) (by omega) ?_; intro a1 cap1 w1 ho1 hb1) | (go_at_call 75; refine (wide_c _).mono ?_; rintro e w2 ⟨rfl, hb2⟩))
      go_roundw
      case rel =>
        cases k with
        | zero => simp at hm; omega
        | succ k =>
          have hb3 : Below w.heap.size w w2 := (hb.trans hb1).trans (hb2.mono (by have := hb1.size; omega))
          refine ⟨k, m / 128, l ++ [UInt8.ofNat (m % 128 + 128)], by go_num, by have := HM.out; omega, by rw [Nat.pow_succ] at hm; omega, by omega, ?_, ?_, hb3⟩
          · rw [HL.out, numF, if_neg hlt]; simp
          · have e : ((m : Int) % 128 + 128).toNat = m % 128 + 128 := by omega
            rw [e] at ho1
            have ho2 := ho1.later hb2
            simpa [OwnB] using ho2
      case measure => simp [intOf]; omega

/-! ### A number is read: the document's -/
theorem mulRef {i c : Nat} (hi : i ≤ 9) (hc : i = 9 → c % 128 ≤ 1) : IntKind.u64.wrap (((c : Int) % 128) * (128 ^ i : Nat)) = ((c % 128 * 128 ^ i : Nat) : Int) := by
  rw [show ((c : Int) % 128) * ((128 ^ i : Nat) : Int) = ((c % 128 * 128 ^ i : Nat) : Int) from by push_cast; rfl]
  apply u64_in (Int.natCast_nonneg _)
  have h1 : c % 128 * 128 ^ i ≤ 127 * 128 ^ i := Nat.mul_le_mul_right _ (by omega)
  by_cases h9 : i = 9
  · subst h9
    have := hc rfl
    have : c % 128 * 128 ^ 9 ≤ 1 * 128 ^ 9 := Nat.mul_le_mul_right _ this
    omega
  · have : 128 ^ (i + 1) ≤ 128 ^ 9 := Nat.pow_le_pow_right (by omega) (by omega)
    rw [Nat.pow_succ] at this
    omega

theorem accRef {i c acc : Nat} (hi : i ≤ 9) (hc : i = 9 → c % 128 ≤ 1) (ha : acc < 128 ^ i) : acc + c % 128 * 128 ^ i < 2 ^ 64 ∧ acc + c % 128 * 128 ^ i < 128 ^ (i + 1) := by
  have h1 : c % 128 * 128 ^ i ≤ 127 * 128 ^ i := Nat.mul_le_mul_right _ (by omega)
  have h2 : acc + c % 128 * 128 ^ i < 128 ^ (i + 1) := by rw [Nat.pow_succ]; omega
  refine ⟨?_, h2⟩
  by_cases h9 : i = 9
  · subst h9
    have := hc rfl
    have : c % 128 * 128 ^ 9 ≤ 1 * 128 ^ 9 := Nat.mul_le_mul_right _ this
    omega
  · have : 128 ^ (i + 1) ≤ 128 ^ 9 := Nat.pow_le_pow_right (by omega) (by omega)
    omega
theorem power_q (k : Nat) (hk : k ≤ 9) (w : World) : Calls Try.prog 89 #[.int .i64 (k : Int)] w fun e w' => e = .returned (.int .u64 ((128 ^ k : Nat) : Int)) ∧ w' = w :=
  (power_c k hk w).mono fun _ _ ⟨h1, h2⟩ => ⟨h1, h2.symm⟩

set_option maxRecDepth 100000 in
theorem refRead_c (a : Option Addr) (n cap : Nat) (l : List UInt8) (hn : n ≤ 2 ^ 40) (w : World) (h : IsB w a n cap l) :
    Calls Try.prog 85 #[.slice a n cap] w fun e w' => e = .returned (.tuple #[.int .u64 ((readN l).1 : Int), .int .i64 ((readN l).2.1 : Int), .int .i64 ((readN l).2.2 : Int)]) ∧ Below w.heap.size w w' := by
  have hl := h.len
  have HL := Lib.hid hl; clear hl
  go_enter Try.func85, Try.ntmps85
  go_wp2
  go_loopw [5, 6] (fun v i wr => ∃ (j acc : Nat), i = .int .i64 (j : Int) ∧ v = .int .u64 (acc : Int) ∧ j ≤ n ∧ j ≤ 9 ∧ acc < 128 ^ j ∧ readN l = rdN j acc (l.drop j) ∧ Below w.heap.size w wr) (fun _ i _ => n - (intOf i).toNat)
  case atStart => exact ⟨0, 0, rfl, rfl, by omega, by omega, by omega, rfl, Below.refl _ _⟩
  case round =>
    obtain ⟨j, acc, rfl, rfl, hj, hj9, hacc, hr, hb⟩ := hrel
    have hsz := hb.size
    have HA := Lib.hid hacc; clear hacc
    by_cases hlt : j < n
    · obtain ⟨b, off, rfl, hbl⟩ := h.some_of_lt (by have := h.le; omega)
      have hcell := (h.later hb).cell (i := j) hlt
      have hd : l.drop j = l.getD j 0 :: l.drop (j + 1) := by
        have : j < l.length := by have := HL.out; omega
        rw [List.drop_eq_getElem_cons this]; simp [List.getD, this]
      rw [hd, rdN] at hr
      generalize l.getD j 0 = c at hr hcell
      have hc := c.toNat_lt
      generalize c.toNat = c at hr hcell hc
      by_cases e1 : (j = 9 ∧ 1 < c) ∨ (0 < j ∧ c = 0)
      · rw [if_pos e1] at hr
        have HR := Lib.hid hr; clear hr
        have H1 := Lib.hid e1
        by_cases e9 : j = 9
        · subst e9
          by_cases eg : 1 < c
          · clear e1
            go_wp2
            go_ret3
            rw [HR.out]
            exact ⟨rfl, hb⟩
          · have ez : c = 0 := by omega
            subst ez
            clear e1
            go_wp2
            go_ret3
            rw [HR.out]
            exact ⟨rfl, hb⟩
        · have ez : c = 0 := by omega
          have ep : 0 < j := by omega
          subst ez
          clear e1
          have e9' : ((j : Int) == 9) = false := by simp; omega
          clear e9
          go_wp2
          go_ret3
          rw [HR.out]
          exact ⟨rfl, hb⟩
      · rw [if_neg e1] at hr
        have hmul := mulRef (i := j) (c := c) hj9 (by omega)
        have HP := power_q j hj9
        have hadd : IntKind.u64.wrap ((acc : Int) + ((c % 128 * 128 ^ j : Nat) : Int)) = ((acc + c % 128 * 128 ^ j : Nat) : Int) := by
          rw [show (acc : Int) + ((c % 128 * 128 ^ j : Nat) : Int) = ((acc + c % 128 * 128 ^ j : Nat) : Int) from by push_cast; rfl]
          exact u64_in (Int.natCast_nonneg _) (by have := accRef (i := j) (c := c) hj9 (by omega) HA.out; rw [Int.toNat_natCast]; exact this.1)
        have hlt2 : c ≥ 128 → j < 9 ∧ acc + c % 128 * 128 ^ j < 128 ^ (j + 1) := fun h => ⟨by omega, (accRef (i := j) (c := c) hj9 (by omega) HA.out).2⟩
        clear HA
        have HT := Lib.hid hlt2; clear hlt2
        generalize 128 ^ j = p at hmul HP hadd hr HT
        generalize c % 128 * p = q at hmul hadd hr HT
        generalize acc + q = s at hadd hr HT
        have H1 := Lib.hid e1; clear e1
        by_cases e2 : c < 128
        · rw [if_pos e2] at hr
          have HR := Lib.hid hr; clear hr
          by_cases e9 : j = 9
          · have g1 : ((j : Int) == 9) = true := by simp; omega
            have f1 : decide (1 < (c : Int)) = false := by have := H1.out; simp; omega
            have f2 : ((c : Int) == 0) = false := by have := H1.out; simp; omega
            have ep : 0 < j := by omega
            clear e9
            go_wp2
            go_quiet ((go_at_call 89; exact Calls.quiet_of_same (HP _)))
            go_wp2
            go_ret3
            rw [HR.out]
            exact ⟨by simp, below_drewN hb _⟩
          · have g1 : ((j : Int) == 9) = false := by simp; omega
            clear e9
            by_cases e0 : j = 0
            · have ep : ¬ 0 < j := by omega
              clear e0
              go_wp2
              go_quiet ((go_at_call 89; exact Calls.quiet_of_same (HP _)))
              go_wp2
              go_ret3
              rw [HR.out]
              exact ⟨by simp, below_drewN hb _⟩
            · have ep : 0 < j := by omega
              have f2 : ((c : Int) == 0) = false := by have := H1.out; simp; omega
              clear e0
              go_wp2
              go_quiet ((go_at_call 89; exact Calls.quiet_of_same (HP _)))
              go_wp2
              go_ret3
              rw [HR.out]
              exact ⟨by simp, below_drewN hb _⟩
        · rw [if_neg e2] at hr
          have HR := Lib.hid hr; clear hr
          obtain ⟨h9, hs⟩ := HT.out (by omega)
          have HS := Lib.hid hs; clear hs
          have g1 : ((j : Int) == 9) = false := by simp; omega
          by_cases e0 : j = 0
          · have ep : ¬ 0 < j := by omega
            clear e0
            go_wp2
            go_quiet ((go_at_call 89; exact Calls.quiet_of_same (HP _)))
            go_wp2
            go_roundw
            case rel => exact ⟨j + 1, s, by go_num, rfl, by omega, by omega, HS.out, HR.out, below_drewN hb _⟩
            case measure => simp [intOf]; omega
          · have ep : 0 < j := by omega
            have f2 : ((c : Int) == 0) = false := by have := H1.out; simp; omega
            clear e0
            go_wp2
            go_quiet ((go_at_call 89; exact Calls.quiet_of_same (HP _)))
            go_wp2
            go_roundw
            case rel => exact ⟨j + 1, s, by go_num, rfl, by omega, by omega, HS.out, HR.out, below_drewN hb _⟩
            case measure => simp [intOf]; omega
    · have e : j = n := by omega
      have : l.drop j = [] := List.drop_eq_nil_of_le (by have := HL.out; omega)
      rw [this, rdN] at hr
      have HR := Lib.hid hr; clear hr
      go_wp2
      go_ret3
      rw [HR.out]
      exact ⟨rfl, hb⟩
end Go.Proofs.Ytknndpncdnhnpaa
