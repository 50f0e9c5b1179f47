import Derived.Test.YtknndpncdnhnpaaProg
import Derived.Test.YtknndpncdnhnpaaByteFn
namespace Go.Proofs.Ytknndpncdnhnpaa
open Go.RowKit Go.Cas

theorem pow128_lt {j : Nat} (h : j ≤ 9) : 128 ^ j ≤ 9223372036854775808 := by
  have : 128 ^ j ≤ 128 ^ 9 := Nat.pow_le_pow_right (by omega) h
  omega
theorem mul128 {j : Nat} (h : j < 9) : IntKind.u64.wrap (128 * 128 ^ j) = 128 ^ (j + 1) := by
  have h1 := pow128_lt (j := j + 1) (by omega)
  rw [show (128 : Int) * 128 ^ j = ((128 ^ (j + 1) : Nat) : Int) from by rw [Nat.pow_succ]; push_cast; rw [Int.mul_comm]]
  rw [show (128 : Int) ^ (j + 1) = ((128 ^ (j + 1) : Nat) : Int) from by push_cast; rfl]
  simp only [IntKind.wrap, IntKind.bits, IntKind.signed]
  simp only [Bool.false_and]
  generalize 128 ^ (j + 1) = x at *
  simp
  omega

set_option maxRecDepth 100000 in
theorem power_c (k : Nat) (hk : k ≤ 9) (w : World) : Calls Try.prog 89 #[.int .i64 (k : Int)] w fun e w' => e = .returned (.int .u64 ((128 ^ k : Nat) : Int)) ∧ w = w' := by
  go_enter Try.func89, Try.ntmps89
  go_wp2
  go_loop [3, 4] (fun p i => ∃ j : Nat, j ≤ k ∧ i = .int .i64 j ∧ p = .int .u64 ((128 ^ j : Nat) : Int)) (fun _ i => k - (intOf i).toNat)
  case atStart => exact ⟨0, Nat.zero_le _, rfl, rfl⟩
  case round =>
    obtain ⟨j, hj, rfl, rfl⟩ := hrel
    by_cases hlt : j < k
    · go_wp2
      go_round
      case rel => exact ⟨j + 1, by omega, by go_num, by rw [mul128 (by omega)]; simp⟩
      case measure => simp [intOf]; omega
    · go_wp2
      go_ret
      obtain rfl : j = k := by omega
      exact ⟨ret_int (by simp), rfl⟩

theorem wide_c (w : World) : Calls Try.prog 75 #[] w fun e w' => e = .returned (.agg #[.int .i64 7, .int .i64 10]) ∧ Below w.heap.size w w' := by
  go_enter Try.func75, Try.ntmps75
  go_wp2
  exact bodyPost_ret (v := .agg #[.int .i64 7, .int .i64 10]) (by simp [results, Try.results75, go_sem]) rfl ⟨rfl, (Below.refl _ _).alloc (Nat.le_refl _) _⟩

theorem u64_in {x : Int} (h0 : 0 ≤ x) (h1 : x.toNat < 2 ^ 64) : IntKind.u64.wrap x = x := by
  simp only [IntKind.wrap, IntKind.bits, IntKind.signed, Bool.false_and]
  simp
  omega

set_option maxRecDepth 100000 in
theorem refNumber_c (n : Nat) (hn : n < 2 ^ 64) (w : World) : Calls Try.prog 69 #[.int .u64 (n : Int)] w (RetB 5 w (numB n)) := by
  have H := Lib.hid hn; clear hn
  go_enter Try.func69, Try.ntmps69
  go_wp2
  go_loopw [0, 3] (fun x v wr => ∃ (k m : Nat) (l : List UInt8), x = .int .u64 (m : Int) ∧ m ≤ n ∧ m < 2 * 128 ^ k ∧ k ≤ 9 ∧ numB n = l ++ numF k m ∧ OwnB wr w.heap.size 5 v l ∧ Below w.heap.size w wr) (fun x _ _ => (intOf x).toNat)
  case atStart => exact ⟨9, n, [], rfl, Nat.le_refl _, by have := H.out; omega, Nat.le_refl _, rfl, World.ownsRow_nil _ _ _ _, Below.refl _ _⟩
  case round =>
    obtain ⟨k, m, l, rfl, hmn, hm, hk, hl, ho, hb⟩ := hrel
    have HM := Lib.hid hmn; clear hmn
    obtain ⟨a, cap, rfl, hs⟩ := ho.slice
    have hlen : l.length ≤ 10 := by have := numB_len n; rw [hl] at this; simp at this; omega
    have HL := Lib.hid hl; clear hl
    have hsz := hb.size
    by_cases hlt : m < 128
    · go_wp2_with (at_builtin; refine wpList_append_byte rfl _ _ 32 rfl w.heap.size 5 _ Try.underlying32 infoU8 rfl l rfl ho _ rfl (by omega) (by omega) (by omega) ?_; intro a1 cap1 w1 ho1 hb1)
      go_ret
      refine ⟨_, rfl, ?_, hb.trans hb1⟩
      have : numF k m = [UInt8.ofNat m] := by cases k <;> simp [numF, hlt]
      rw [HL.out, this]
      simpa using ho1
    · go_wp2_with (at_builtin; refine wpList_append_byte rfl _ _ 32 rfl w.heap.size 5 _ Try.underlying32 infoU8 rfl l rfl ho _ rfl (by omega) (by omega) (by omega) ?_; intro a1 cap1 w1 ho1 hb1)
      have hq := u64_in (x := (m : Int) / 128) (by omega) (by have h1 := H.out; have h2 := HM.out; omega)
      rw [hq]
      go_roundw
      case rel =>
        cases k with
        | zero => simp at hm; omega
        | succ k =>
          refine ⟨k, m / 128, l ++ [UInt8.ofNat (m % 128 + 128)], by go_num, by have := HM.out; omega, by rw [Nat.pow_succ] at hm; omega, by omega, ?_, ?_, hb.trans hb1⟩
          · rw [HL.out, numF, if_neg hlt]; simp
          · have e : (128 + (m : Int) % 128).toNat = m % 128 + 128 := by omega
            rw [e] at ho1
            simpa [OwnB] using ho1
      case measure => simp [intOf]; omega
end Go.Proofs.Ytknndpncdnhnpaa
