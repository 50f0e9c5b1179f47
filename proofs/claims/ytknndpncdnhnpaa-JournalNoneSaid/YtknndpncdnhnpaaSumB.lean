import Derived.Test.YtknndpncdnhnpaaSumA
namespace Go.Proofs.Ytknndpncdnhnpaa
open Go.RowKit Go.Cas

set_option maxRecDepth 100000 in
theorem refFour_c (n : Nat) (hn : n < 2 ^ 32) (w : World) : Calls Try.prog 70 #[.int .u32 (n : Int)] w (RetB 5 w (fourB n)) := by
  have HN := Lib.hid hn; clear hn
  go_enter Try.func70, Try.ntmps70
  go_wp2
  go_ret
  refine ⟨_, rfl, ownB_new w _ (fourB n) (by rw [fourB_len]; decide) ?_, (Below.refl _ _).alloc (Nat.le_refl _) _⟩
  simp only [bvs, fourB, bv, List.map_cons, List.map_nil, UInt8.toNat_ofNat']
  congr

theorem fourB_take {n k : Nat} (hk : k < 4) : (fourB n).take k ++ [UInt8.ofNat ((n : Int) / 2 ^ (8 * (3 - k)) % 256).toNat] = (fourB n).take (k + 1) := by
  have e : ∀ m : Nat, UInt8.ofNat ((n : Int) / ((2 ^ m : Nat) : Int) % 256).toNat = UInt8.ofNat (n / 2 ^ m) := by
    intro m
    rw [← UInt8.toNat_inj, UInt8.toNat_ofNat', UInt8.toNat_ofNat']
    have : ((n : Int) / ((2 ^ m : Nat) : Int) % 256).toNat = n / 2 ^ m % 256 := by
      rw [show ((n : Int) / ((2 ^ m : Nat) : Int) % 256) = ((n / 2 ^ m % 256 : Nat) : Int) from by rw [Int.natCast_emod, Int.natCast_ediv]; rfl]
      rfl
    rw [this]; omega
  have e2 := e (8 * (3 - k))
  rw [show ((2 ^ (8 * (3 - k)) : Nat) : Int) = (2 : Int) ^ (8 * (3 - k)) from by push_cast; rfl] at e2
  rw [e2]
  match k, hk with
  | 0, _ => rfl
  | 1, _ => rfl
  | 2, _ => rfl
  | 3, _ => simp [fourB]

set_option maxRecDepth 100000 in
theorem four_c (n : Nat) (hn : n < 2 ^ 32) (w : World) : Calls Try.prog 60 #[.int .u32 (n : Int)] w (RetB 5 w (fourB n)) := by
  have HN := Lib.hid hn; clear hn
  go_enter Try.func60, Try.ntmps60
  go_wp2
  go_loopw [3, 4] (fun v i wr => ∃ k : Nat, k ≤ 4 ∧ i = .int .i64 (3 - (k : Int)) ∧ OwnB wr w.heap.size 5 v ((fourB n).take k) ∧ Below w.heap.size w wr) (fun _ i _ => (intOf i + 1).toNat)
  case atStart => exact ⟨0, by omega, rfl, World.ownsRow_nil _ _ _ _, Below.refl _ _⟩
  case round =>
    obtain ⟨k, hk, rfl, ho, hb⟩ := hrel
    obtain ⟨a, cap, rfl, hs⟩ := ho.slice
    have hsz := hb.size
    have hlen : ((fourB n).take k).length = k := by rw [List.length_take, fourB_len]; omega
    have HO := Lib.hid ho; clear ho
    rw [hlen] at hs
    by_cases hlt : k < 4
    · go_wp2_with (at_builtin; refine wpList_append_byte rfl _ _ 32 rfl w.heap.size 5 _ Try.underlying32 infoU8 rfl ((fourB n).take k) rfl HO.out _ rfl (by omega) (by omega) (by omega) ?_; intro a1 cap1 w1 ho1 hb1)
      go_roundw
      case rel =>
        rw [fourB_take hlt, hlen] at ho1
        have hl2 : ((fourB n).take (k + 1)).length = k + 1 := by rw [List.length_take, fourB_len]; omega
        exact ⟨k + 1, by omega, by congr 1; omega, ho1, hb.trans hb1⟩
      case measure => simp [intOf]; omega
    · obtain rfl : k = 4 := by omega
      go_wp2
      go_ret
      have := HO.out
      rw [show (fourB n).take 4 = fourB n from rfl] at this
      exact ⟨_, rfl, this, hb⟩

end Go.Proofs.Ytknndpncdnhnpaa
