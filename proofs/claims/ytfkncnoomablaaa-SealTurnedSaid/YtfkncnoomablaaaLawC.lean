import Derived.Test.YtfkncnoomablaaaLawA
import Derived.Test.YtfkncnoomablaaaRowKit
namespace Go.Proofs.Ytfkncnoomablaaa
open Go.RowKit Go.Cas

/-- n bytes of the call's own, in one block. -/
def FillB (w : World) (blk n : Nat) : Prop := ∃ cs e l, w.heap[blk]? = some (.cells cs e (0, 0)) ∧ cs.toList = bvs l ∧ l.length = n
theorem FillB.size {w : World} {blk n : Nat} (h : FillB w blk n) : ∃ cs e, w.heap[blk]? = some (.cells cs e (0, 0)) ∧ cs.size = n := by
  obtain ⟨cs, e, l, hh, hc, hl⟩ := h
  exact ⟨cs, e, hh, by rw [← Array.length_toList, hc, bvs_len, hl]⟩
theorem FillB.old {w : World} {blk n i : Nat} (h : FillB w blk n) (hi : i < n) : ∃ v, w.cell? ⟨blk, i, none⟩ = some v := by
  obtain ⟨cs, e, hh, hs⟩ := h.size
  exact ⟨cs[i], by simp [World.cell?, hh, hs, hi]⟩
theorem FillB.fz {w : World} {blk n : Nat} (h : FillB w blk n) (i : Nat) : w.frozen? ⟨blk, i, none⟩ = false := by
  obtain ⟨cs, e, hh, hs⟩ := h.size
  simp [World.frozen?, hh]
theorem FillB.set {w : World} {blk n i : Nat} (h : FillB w blk n) (c : UInt8) : FillB (w.setCell ⟨blk, i, none⟩ (.int .u8 (c.toNat : Int))) blk n := by
  obtain ⟨cs, e, l, hh, hc, hl⟩ := h
  refine ⟨cs.setIfInBounds i (.int .u8 (c.toNat : Int)), e, l.set i c, by simp [World.setCell, Array.getElem?_modify, hh], ?_, by simp [hl]⟩
  rw [Array.toList_setIfInBounds, hc, bvs, bvs, List.map_set]
  rfl
theorem FillB.isB {w : World} {blk n : Nat} (h : FillB w blk n) (hn : n ≤ maxLen) : ∃ l, IsB w (some ⟨blk, 0, none⟩) n n l := by
  obtain ⟨cs, e, l, hh, hc, hl⟩ := h
  refine ⟨l, by rw [bvs_len]; omega, Nat.le_refl _, hn, (fun h => nomatch h), fun ad had => ?_⟩
  obtain rfl := Option.some.inj had
  refine ⟨rfl, cs, e, _, hh, fun _ => ?_, fun i hi => ?_⟩
  · have h1 : cs.size = l.length := by rw [← Array.length_toList, hc, bvs_len]
    show 0 + n * 1 ≤ cs.size
    omega
  · show cs[0 + i]? = _
    rw [Nat.zero_add, ← Array.getElem?_toList, hc]

theorem numB_three : ((numB 65535).length, (numB 65536).length, (numB 65537).length) = (3, 3, 3) := by kernel_rfl
theorem frame_seven {l : List UInt8} {n : Nat} (hl : l.length = n) (h1 : 65535 ≤ n) (h2 : n ≤ 65536) : (frameB l).length = n + 7 := by
  rw [frameB_len, hl]
  have h3 : (numB n).length = 3 := by
    have := numB_three
    simp only [Prod.mk.injEq] at this
    rcases Nat.lt_or_ge n 65536 with h | h
    · obtain rfl : n = 65535 := by omega
      exact this.1
    · obtain rfl : n = 65536 := by omega
      exact this.2.1
  omega
theorem open_toolong (l : List UInt8) : openB (numB 65537 ++ l) = ([], 0, 3) := by
  have hr := readN_numB 65537 (by decide) l
  unfold openB
  simp only [hr]
  rw [if_neg (by simp), if_pos (by decide)]

set_option maxRecDepth 100000 in
set_option maxHeartbeats 4000000 in
theorem sealLong_c (c more : Int) (w : World) (hc : (Lit.int .u8 c).wf = true) (_hm : (Lit.int .i64 more).wf = true) :
    Calls Try.prog 6 #[.int .u8 c, .int .i64 more] w fun e w' => e = .returned (.bool true) ∧ Below w.heap.size w w' := by
  obtain ⟨c8, rfl⟩ : ∃ c8 : UInt8, (c8.toNat : Int) = c := ⟨_, u8_of_wf hc⟩
  clear hc _hm
  go_enter Try.func6, Try.ntmps6
  by_cases hm1 : more < -1
  · go_wp2_with fail
    refine (works_c _).mono ?_
    rintro e w1 ⟨rfl, hb1⟩
    go_wp2_with fail
    go_ret
    exact ⟨rfl, hb1⟩
  by_cases hm2 : 1 < more
  · go_wp2_with fail
    refine (works_c _).mono ?_
    rintro e w1 ⟨rfl, hb1⟩
    go_wp2_with fail
    go_ret
    exact ⟨rfl, hb1⟩
  obtain ⟨n, hn⟩ : ∃ n : Nat, 65536 + more = (n : Int) := ⟨(65536 + more).toNat, by omega⟩
  have hW : IntKind.i64.wrap (65536 + more) = (n : Int) := by rw [hn]; exact i64_in (by omega) (by omega)
  obtain ⟨cs, hmk, hcs⟩ := make_bytes w n (x := (n : Int)) rfl (by omega)
  have hf0 : FillB (w.alloc (.cells cs 5)) w.heap.size n := ⟨cs, _, _, heap_alloc_new w _, hcs, List.length_replicate⟩
  go_wp2_with fail
  go_loopw [6] (fun i wr => ∃ k : Nat, k ≤ n ∧ i = .int .i64 k ∧ FillB wr w.heap.size n ∧ Below w.heap.size w wr) (fun i _ => n - (intOf i).toNat)
  case atStart => exact ⟨0, by omega, rfl, hf0, below_alloc _ _⟩
  case round =>
    obtain ⟨k, hk, rfl, hf, hb⟩ := hrel
    by_cases hlt : k < n
    · obtain ⟨old, hold⟩ := hf.old hlt
      have hfz := hf.fz k
      go_wp2
      go_roundw
      case rel => exact ⟨k + 1, by omega, by go_num, hf.set c8, hb.setCell (Nat.le_refl _) _⟩
      case measure => simp [intOf]; omega
    · obtain rfl : k = n := by omega
      obtain ⟨l, hl⟩ := hf.isB (by unfold maxLen; omega)
      have hll := hl.len
      by_cases hbig : k ≤ 65536
      · have hmp : ¬ 0 < more := by omega
        have h7 := frame_seven hll (by omega) hbig
        go_wp2_with fail
        refine (seal_ok _ k k l hbig _ hl).mono ?_
        rintro e w2 ⟨v2, rfl, ho2, hb2⟩
        obtain ⟨a2, n2, c2, rfl, hs2⟩ := ho2.slice'
        have hn2 := hs2.len
        have hB2 := hb.trans (hb2.mono hb.size)
        have hl2 := hl.later hb2
        go_wp2_with fail
        refine (refNumber_c 65537 (by decide) _).mono ?_
        rintro e w3 ⟨v3, rfl, ho3, hb3⟩
        obtain ⟨a3, n3, c3, rfl, hs3⟩ := ho3.slice'
        have hn3 := hs3.len
        have hn10 := numB_len 65537
        have hB3 := below_then hB2 hb3
        have hl3 := hl2.later hb3
        have hz3 := hb3.size
        go_wp2_with (at_builtin; refine wpList_append_bs rfl _ _ 22 rfl w2.heap.size 5 _ Try.underlying22 infoU8 rfl _ rfl ho3 _ k k l rfl hl3 (by omega) (by omega) ?_; intro a4 cap4 w4 ho4 hb4 _)
        have hs4 := ho4.isB
        have hB4 := hB3.trans (hb4.mono hB2.size)
        refine (open_c a4 (n3 + k) cap4 (numB 65537 ++ l) (by omega) _ (by simpa [hn3, hll] using hs4)).mono ?_
        rintro e w5 ⟨v5, rfl, ho5, hb5⟩
        rw [open_toolong]
        have hB5 := below_then hB4 hb5
        obtain rfl : n2 = k + 7 := by omega
        have hW7 : IntKind.i64.wrap ((k : Int) + 7) = (k : Int) + 7 := i64_in (by omega) (by omega)
        go_wp2_with (first | (go_at_call 16; refine (num_c _ _).mono ?_; rintro e w' ⟨rfl, rfl⟩))
        refine (works_c _).mono ?_
        rintro e w6 ⟨rfl, hb6⟩
        go_wp2_with fail
        go_ret
        exact ⟨rfl, below_then hB5 hb6⟩
      · have hmp : 0 < more := by omega
        go_wp2_with fail
        refine (seal_long _ k k (by omega) (by omega) _).mono ?_
        rintro e w2 ⟨v2, rfl, ho2, hb2⟩
        obtain ⟨a2, n2, c2, rfl, hs2⟩ := ho2.slice'
        obtain rfl : n2 = 0 := by rw [← hs2.len]; rfl
        have hB2 := hb.trans (hb2.mono hb.size)
        have hl2 := hl.later hb2
        go_wp2_with fail
        refine (refNumber_c 65537 (by decide) _).mono ?_
        rintro e w3 ⟨v3, rfl, ho3, hb3⟩
        obtain ⟨a3, n3, c3, rfl, hs3⟩ := ho3.slice'
        have hn3 := hs3.len
        have hn10 := numB_len 65537
        have hB3 := below_then hB2 hb3
        have hl3 := hl2.later hb3
        have hz3 := hb3.size
        go_wp2_with (at_builtin; refine wpList_append_bs rfl _ _ 22 rfl w2.heap.size 5 _ Try.underlying22 infoU8 rfl _ rfl ho3 _ k k l rfl hl3 (by omega) (by omega) ?_; intro a4 cap4 w4 ho4 hb4 _)
        have hs4 := ho4.isB
        have hB4 := hB3.trans (hb4.mono hB2.size)
        refine (open_c a4 (n3 + k) cap4 (numB 65537 ++ l) (by omega) _ (by simpa [hn3, hll] using hs4)).mono ?_
        rintro e w5 ⟨v5, rfl, ho5, hb5⟩
        rw [open_toolong]
        have hB5 := below_then hB4 hb5
        go_wp2_with (first | (go_at_call 16; refine (num_c _ _).mono ?_; rintro e w' ⟨rfl, rfl⟩))
        refine (works_c _).mono ?_
        rintro e w6 ⟨rfl, hb6⟩
        go_wp2_with fail
        go_ret
        exact ⟨rfl, below_then hB5 hb6⟩
end Go.Proofs.Ytfkncnoomablaaa
