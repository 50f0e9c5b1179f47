import Derived.Test.YtknndpncdnhnpaaSumB
namespace Go.Proofs.Ytknndpncdnhnpaa
open Go.RowKit Go.Cas

set_option maxRecDepth 100000 in
theorem upTo_c (a : Option Addr) (n cap m : Nat) (l : List UInt8) (hm : m ≤ n) (w : World) (h : IsB w a n cap l) :
    Calls Try.prog 74 #[.agg #[.slice a n cap], .int .i64 (m : Int)] w fun e w' => ∃ a', e = .returned (.slice a' m m) ∧ IsB w' a' m m (l.take m) ∧ Below w.heap.size w w' := by
  have hc := h.le
  go_enter Try.func74, Try.ntmps74
  go_wp2
  go_ret
  exact ⟨a, rfl, IsB_pre (h.alloc _) hm (Nat.le_refl _) (by omega), (Below.refl _ _).alloc (Nat.le_refl _) _⟩

set_option maxRecDepth 100000 in
theorem grow_c (m : Nat) (hm : m ≤ 2 ^ 40) (w : World) : Calls Try.prog 76 #[.slice none 0 0, .int .i64 (m : Int)] w (RetB 5 w []) := by
  go_enter Try.func76, Try.ntmps76
  by_cases h0 : m = 0
  · subst h0
    go_wp2
    go_ret
    exact ⟨_, rfl, World.ownsRow_nil _ _ _ _, Below.refl _ _⟩
  · have hpos : 0 < m := by omega
    obtain ⟨i, hi, hz, hsize, hby⟩ := info_parts infoU8
    have hrun := Go.Lib.run_append_nil_zeros (P := Try.prog) w 32 3 32 5 i (.int .u8 0) .i64 .i64 Try.underlying32 Try.underlying3 hi hz m hpos (by omega) (by omega) (by rw [hby]; omega)
    go_wp2_with (at_builtin; refine Go.Lib.wpList_append_run _ rfl _ _ 32 3 rfl _ _ rfl rfl _ _ hrun ?_)
    go_ret
    have hge := grownCap_ge w m 0 5
    have hle := grownCap_le_maxLen w m 0 5 (by unfold maxLen; omega)
    refine ⟨_, rfl, ⟨rfl, .inr ⟨w.heap.size, grownCap w m 0 5, _, rfl, Nat.le_refl _, heap_alloc_new w _, Nat.zero_le _, hle, ?_, by simp [bvs]⟩⟩, ((Below.refl _ _).alloc (Nat.le_refl _) _).drew⟩
    simp [size_zeroCells]
    omega

def sumLen (ls : List (List UInt8)) : Nat := ls.flatten.length
theorem flatten_take (ls : List (List UInt8)) (k : Nat) (h : k < ls.length) : (ls.take (k + 1)).flatten = (ls.take k).flatten ++ ls.getD k [] := by
  rw [List.take_succ_eq_append_getElem h, List.flatten_append]; simp [List.getD, h]
theorem flatten_le (ls : List (List UInt8)) (k : Nat) : (ls.take k).flatten.length ≤ ls.flatten.length := by
  have := congrArg (fun x => (List.flatten x).length) (List.take_append_drop k ls)
  simp only [List.flatten_append, List.length_append] at this
  omega

set_option maxHeartbeats 1000000 in
set_option maxRecDepth 100000 in
theorem concat_c (a : Option Addr) (n cap : Nat) (ls : List (List UInt8)) (hn : n ≤ 2 ^ 40) (hs : ls.flatten.length ≤ 2 ^ 40) (w : World) (h : IsBB w a n cap ls) :
    Calls Try.prog 59 #[.slice a n cap] w (RetB 5 w ls.flatten) := by
  have hl := h.len
  have HL := Lib.hid hl; clear hl
  have HS := Lib.hid hs; clear hs
  go_enter Try.func59, Try.ntmps59
  go_wp2
  go_loop [3, 11] (fun s i => ∃ k : Nat, k ≤ n ∧ i = .int .i64 k ∧ s = .int .i64 ((ls.take k).flatten.length : Int)) (fun _ i => n - (intOf i).toNat)
  case atStart => exact ⟨0, by omega, rfl, rfl⟩
  case round =>
    obtain ⟨k, hk, rfl, rfl⟩ := hrel
    by_cases hlt : k < n
    · obtain ⟨b, off, rfl, hbl⟩ := h.some_of_lt (by have := h.le; omega)
      obtain ⟨a', n', c', hc, hb'⟩ := h.cell hlt
      have ht := congrArg List.length (flatten_take ls k (by have := HL.out; omega))
      rw [List.length_append, hb'.len] at ht
      have hle := flatten_le ls (k + 1)
      have hq : (ls.take k).flatten.length + n' ≤ 2 ^ 40 := by have := HS.out; omega
      have HT := Lib.hid ht; clear ht hle
      generalize (ls.take k).flatten.length = q at *
      go_wp2
      go_round
      case rel => exact ⟨k + 1, by omega, by go_num, by rw [HT.out]; go_num⟩
      case measure => simp [intOf]; omega
    · obtain rfl : k = n := by omega
      have e : ls.take k = ls := List.take_of_length_le (by have := HL.out; omega)
      rw [e]
      have hq := HS.out
      have E := Lib.hid e; clear e
      generalize ls.flatten.length = q at hq ⊢
      go_wp2_with fail
      refine (grow_c q hq _).mono ?_
      rintro e w1 ⟨v1, rfl, ho, hb1⟩
      go_wp2_with fail
      go_loopw [6, 27] (fun v i wr => ∃ j : Nat, j ≤ k ∧ i = .int .i64 j ∧ OwnB wr w.heap.size 5 v (ls.take j).flatten ∧ Below w.heap.size w wr) (fun _ i _ => k - (intOf i).toNat)
      case atStart => exact ⟨0, by omega, rfl, ho, hb1⟩
      case round =>
        obtain ⟨j, hj, rfl, ho, hb⟩ := hrel
        obtain ⟨a1, m1, cap1, rfl, hs1⟩ := ho.slice'
        have hm1 := hs1.len
        have hsz := hb.size
        by_cases hlt : j < k
        · obtain ⟨b, off, rfl, hbl⟩ := h.some_of_lt (by have := h.le; omega)
          obtain ⟨a', n', c', hc, hb'⟩ := (h.later hb).cell hlt
          have ht := flatten_take ls j (by have := HL.out; omega)
          have htl := congrArg List.length ht
          rw [List.length_append, hb'.len] at htl
          have hle := flatten_le ls (j + 1)
          have hq : m1 + n' ≤ 2 ^ 40 := by have := HS.out; omega
          have HT := Lib.hid ht; clear ht htl hle hm1
          go_wp2_with (at_builtin; refine wpList_append_bs rfl _ _ 32 rfl w.heap.size 5 _ Try.underlying32 infoU8 rfl _ rfl ho _ n' c' _ rfl hb' (by omega) (by omega) ?_; intro a2 cap2 w2 ho2 hb2 _)
          go_roundw
          case rel => exact ⟨j + 1, by omega, by go_num, by rw [HT.out]; exact ho2, hb.trans hb2⟩
          case measure => simp [intOf]; omega
        · obtain rfl : j = k := by omega
          clear hm1
          go_wp2
          go_ret
          rw [E.out] at ho
          exact ⟨_, rfl, ho, hb⟩
end Go.Proofs.Ytknndpncdnhnpaa
