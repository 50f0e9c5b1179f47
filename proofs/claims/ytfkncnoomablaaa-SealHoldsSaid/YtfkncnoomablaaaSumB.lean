import Derived.Test.YtfkncnoomablaaaSumA
namespace Go.Proofs.Ytfkncnoomablaaa
open Go.RowKit Go.Cas

theorem num_c (n : Int) (w : World) : Calls Try.prog 16 #[.int .i64 n] w fun e w' => e = .returned (.int .i64 n) ∧ w = w' := by
  go_enter Try.func16, Try.ntmps16
  go_wp2
  go_ret
  exact ⟨rfl, rfl⟩

theorem ownB_new (w : World) (e : TypeId) (l : List UInt8) (hl : l.length ≤ maxLen) {cs : Array Value} (hc : cs.toList = bvs l) : OwnB (w.alloc (.cells cs e)) w.heap.size e (.slice (some ⟨w.heap.size, 0, none⟩) l.length l.length) l := by
  have hs : cs.size = l.length := by rw [← Array.length_toList, hc, bvs_len]
  refine ⟨by rw [bvs_len]; omega, .inr ⟨w.heap.size, l.length, cs, rfl, Nat.le_refl _, heap_alloc_new w _, Nat.le_refl _, hl, by omega, ?_⟩⟩
  rw [hc, List.take_of_length_le (by rw [bvs_len]; omega)]

set_option maxRecDepth 100000 in
theorem refFour_c (n : Nat) (hn : n < 2 ^ 32) (w : World) : Calls Try.prog 29 #[.int .u32 (n : Int)] w (RetB 5 w (fourB n)) := by
  have HN := Lib.hid hn; clear hn
  go_enter Try.func29, Try.ntmps29
  go_wp2
  go_ret
  refine ⟨_, rfl, ownB_new w _ (fourB n) (by rw [fourB_len]; decide) ?_, (Below.refl _ _).alloc (Nat.le_refl _) _⟩
  simp only [bvs, fourB, bv, List.map_cons, List.map_nil, UInt8.toNat_ofNat']
  congr

theorem fourB_take {n k : Nat} (hk : k < 4) : (fourB n).take k ++ [UInt8.ofNat ((n : Int) / 2 ^ (8 * (3 - k)) % 256).toNat] = (fourB n).take (k + 1) := by
  have e : ∀ m : Nat, UInt8.ofNat ((n : Int) / ((2 ^ m : Nat) : Int) % 256).toNat = UInt8.ofNat (n / 2 ^ m) := by
    intro m
    rw [← UInt8.toNat_inj, UInt8.toNat_ofNat', UInt8.toNat_ofNat']
    have : ((n : Int) / ((2 ^ m : Nat) : Int) % 256).toNat = n / 2 ^ m % 256 := by
      rw [show ((n : Int) / ((2 ^ m : Nat) : Int) % 256) = ((n / 2 ^ m % 256 : Nat) : Int) from by rw [Int.natCast_emod, Int.natCast_ediv]; rfl]
      rfl
    rw [this]; omega
  have e2 := e (8 * (3 - k))
  rw [show ((2 ^ (8 * (3 - k)) : Nat) : Int) = (2 : Int) ^ (8 * (3 - k)) from by push_cast; rfl] at e2
  rw [e2]
  match k, hk with
  | 0, _ => rfl
  | 1, _ => rfl
  | 2, _ => rfl
  | 3, _ => simp [fourB]

set_option maxRecDepth 100000 in
theorem four_c (n : Nat) (hn : n < 2 ^ 32) (w : World) : Calls Try.prog 28 #[.int .u32 (n : Int)] w (RetB 5 w (fourB n)) := by
  have HN := Lib.hid hn; clear hn
  go_enter Try.func28, Try.ntmps28
  go_wp2
  go_loopw [3, 4] (fun v i wr => ∃ k : Nat, k ≤ 4 ∧ i = .int .i64 (3 - (k : Int)) ∧ OwnB wr w.heap.size 5 v ((fourB n).take k) ∧ Below w.heap.size w wr) (fun _ i _ => (intOf i + 1).toNat)
  case atStart => exact ⟨0, by omega, rfl, World.ownsRow_nil _ _ _ _, Below.refl _ _⟩
  case round =>
    obtain ⟨k, hk, rfl, ho, hb⟩ := hrel
    obtain ⟨a, cap, rfl, hs⟩ := ho.slice
    have hsz := hb.size
    have hlen : ((fourB n).take k).length = k := by rw [List.length_take, fourB_len]; omega
    have HO := Lib.hid ho; clear ho
    rw [hlen] at hs
    by_cases hlt : k < 4
    · go_wp2_with (at_builtin; refine wpList_append_byte rfl _ _ 22 rfl w.heap.size 5 _ Try.underlying22 infoU8 rfl ((fourB n).take k) rfl HO.out _ rfl (by omega) (by omega) (by omega) ?_; intro a1 cap1 w1 ho1 hb1)
      go_roundw
      case rel =>
        rw [fourB_take hlt, hlen] at ho1
        have hl2 : ((fourB n).take (k + 1)).length = k + 1 := by rw [List.length_take, fourB_len]; omega
        exact ⟨k + 1, by omega, by congr 1; omega, ho1, hb.trans hb1⟩
      case measure => simp [intOf]; omega
    · obtain rfl : k = 4 := by omega
      go_wp2
      go_ret
      have := HO.out
      rw [show (fourB n).take 4 = fourB n from rfl] at this
      exact ⟨_, rfl, this, hb⟩

set_option maxRecDepth 100000 in
theorem clone_c (a : Option Addr) (n cap : Nat) (l : List UInt8) (hn : n ≤ 2 ^ 40) (w : World) (h : IsB w a n cap l) : Calls Try.prog 33 #[.slice a n cap] w (RetB 5 w l) := by
  go_enter Try.func33, Try.ntmps33
  have heq := fun w => Go.Lib.run_eql_slice_nil (P := Try.prog) w 22 5 a n cap 0 0 Try.underlying22
  cases a with
  | none =>
    obtain rfl := h.2.2.2.1 rfl
    obtain rfl : n = 0 := by have := h.le; omega
    have : l = [] := List.eq_nil_of_length_eq_zero h.len
    subst this
    go_wp2
    go_ret
    exact ⟨_, rfl, World.ownsRow_nil _ _ _ _, Below.refl _ _⟩
  | some ad =>
    have hnew := ownB_new w 5 [] (by decide) (cs := #[]) rfl
    go_wp2_with (at_builtin; refine wpList_append_bs rfl _ _ 22 rfl w.heap.size 5 _ Try.underlying22 infoU8 rfl [] rfl hnew _ n cap l rfl (h.alloc _) (by simp; omega) (by simp) ?_; intro a1 cap1 w1 ho1 hb1 _)
    go_ret
    refine ⟨_, rfl, ?_, ((Below.refl _ _).alloc (Nat.le_refl _) _).trans hb1⟩
    simpa using ho1

set_option maxRecDepth 100000 in
theorem equal_c (a : Option Addr) (n cap : Nat) (l : List UInt8) (a' : Option Addr) (n' cap' : Nat) (l' : List UInt8) (hn : n ≤ 2 ^ 40) (hn' : n' ≤ 2 ^ 40) (w : World) (h : IsB w a n cap l) (h' : IsB w a' n' cap' l') :
    Calls Try.prog 31 #[.slice a n cap, .slice a' n' cap'] w fun e w' => e = .returned (.bool (decide (l = l'))) ∧ Below w.heap.size w w' := by
  have hl := h.len
  have hl' := h'.len
  by_cases hnn : n = n'
  · subst hnn
    have HL := Lib.hid hl; clear hl
    have HL' := Lib.hid hl'; clear hl'
    go_enter Try.func31, Try.ntmps31
    go_wp2
    go_loopw [5, 13] (fun _ i wr => ∃ k : Nat, k ≤ n ∧ i = .int .i64 k ∧ l.take k = l'.take k ∧ Below w.heap.size w wr) (fun _ i _ => n - (intOf i).toNat)
    case atStart => exact ⟨0, by omega, rfl, rfl, Below.refl _ _⟩
    case round =>
      obtain ⟨k, hk, rfl, ht, hb⟩ := hrel
      have HT := Lib.hid ht; clear ht
      by_cases hlt : k < n
      · obtain ⟨b, off, rfl, hbl⟩ := h.some_of_lt (by have := h.le; omega)
        obtain ⟨b', off', rfl, hbl'⟩ := h'.some_of_lt (by have := h'.le; omega)
        have hc := (h.later hb).cell hlt
        have hc' := (h'.later hb).cell hlt
        have hs : l.take (k + 1) = l.take k ++ [l.getD k 0] := by
          have : k < l.length := by have := HL.out; omega
          rw [List.take_succ_eq_append_getElem this]; simp [List.getD, this]
        have hs' : l'.take (k + 1) = l'.take k ++ [l'.getD k 0] := by
          have : k < l'.length := by have := HL'.out; omega
          rw [List.take_succ_eq_append_getElem this]; simp [List.getD, this]
        have HS := Lib.hid hs; clear hs
        have HS' := Lib.hid hs'; clear hs'
        by_cases he : l.getD k 0 = l'.getD k 0
        · rw [← he] at hc'
          have HE := Lib.hid he; clear he
          go_wp2
          go_quiet (fail)
          go_wp2
          go_roundw
          case rel => exact ⟨k + 1, by omega, by go_num, by rw [HS.out, HS'.out, HT.out, HE.out], below_drewN hb _⟩
          case measure => simp [intOf]; omega
        · have hne : (((l.getD k 0).toNat : Int) != ((l'.getD k 0).toNat : Int)) = true := by
            simp only [bne_iff_ne, ne_eq, Int.natCast_inj, UInt8.toNat_inj]; exact he
          have hd : decide (l = l') = false := by
            rw [decide_eq_false_iff_not]
            intro e
            exact he (by rw [e])
          have HD := Lib.hid hd; clear hd he
          generalize (l.getD k 0).toNat = x at *
          generalize (l'.getD k 0).toNat = y at *
          go_wp2
          go_quiet (fail)
          go_wp2
          go_ret
          rw [HD.out]
          exact ⟨rfl, below_drewN hb _⟩
      · obtain rfl : k = n := by omega
        go_wp2
        go_ret
        have e : l = l' := by
          have := HT.out
          rwa [List.take_of_length_le (by have := HL.out; omega), List.take_of_length_le (by have := HL'.out; omega)] at this
        exact ⟨by simp [e], hb⟩
  · have HL := Lib.hid hl; clear hl
    have HL' := Lib.hid hl'; clear hl'
    have hne : ((n : Int) != (n' : Int)) = true := by simp; omega
    clear hnn
    go_enter Try.func31, Try.ntmps31
    go_wp2
    go_ret
    have hd : decide (l = l') = false := by
      rw [decide_eq_false_iff_not]
      intro e
      have h1 := HL.out
      have h2 := HL'.out
      rw [e] at h1
      simp at hne
      omega
    rw [hd]
    exact ⟨rfl, Below.refl _ _⟩
end Go.Proofs.Ytfkncnoomablaaa
