import Derived.Test.YtknndpncdnhnpaaOctB
namespace Go.Proofs.Ytknndpncdnhnpaa
open Go.RowKit Go.Cas

/-- a reader of bytes in memory -/
def Rd (w : World) (blk : Nat) (a : Option Addr) (n cap j : Nat) : Prop := w.heap[blk]? = some (.cells #[.slice a n cap, .int .i64 (j : Int)] 147 (0, 0))
theorem Rd.c0 {w : World} {blk : Nat} {a : Option Addr} {n cap j : Nat} (h : Rd w blk a n cap j) : w.cell? ⟨blk, 0, none⟩ = some (.slice a n cap) := by
  unfold Rd at h; simp [World.cell?, h]
theorem Rd.c1 {w : World} {blk : Nat} {a : Option Addr} {n cap j : Nat} (h : Rd w blk a n cap j) : w.cell? ⟨blk, 1, none⟩ = some (.int .i64 (j : Int)) := by
  unfold Rd at h; simp [World.cell?, h]
theorem Rd.fz {w : World} {blk : Nat} {a : Option Addr} {n cap j : Nat} (h : Rd w blk a n cap j) (i : Nat) : w.frozen? ⟨blk, i, none⟩ = false := by
  unfold Rd at h; simp [World.frozen?, h]
theorem Rd.set {w : World} {blk : Nat} {a : Option Addr} {n cap j : Nat} (h : Rd w blk a n cap j) (k : Nat) : Rd (w.setCell ⟨blk, 1, none⟩ (.int .i64 (k : Int))) blk a n cap k := by
  unfold Rd at *; simp [World.setCell, Array.getElem?_modify, h]
theorem Rd.lt {w : World} {blk : Nat} {a : Option Addr} {n cap j : Nat} (h : Rd w blk a n cap j) : blk < w.heap.size := (Array.getElem?_eq_some_iff.1 h).1
theorem Rd.later {w w' : World} {blk : Nat} {a : Option Addr} {n cap j : Nat} (h : Rd w blk a n cap j) (hb : Below w.heap.size w w') : Rd w' blk a n cap j := (hb.block _ h.lt).trans h
theorem Rd.drewN {w : World} {blk : Nat} {a : Option Addr} {n cap j : Nat} (h : Rd w blk a n cap j) (q : Nat) : Rd (w.drewN q) blk a n cap j := h
theorem Rd.grown {w w' : World} {blk : Nat} {a : Option Addr} {n cap j : Nat} {r : Option Nat} (h : Rd w blk a n cap j) (hg : w.grownBy w' r) (hne : some blk ≠ r) : Rd w' blk a n cap j := (hg.block _ h.lt hne).trans h

set_option maxRecDepth 100000 in
theorem has_c (blk : Nat) (a : Option Addr) (n cap j : Nat) (w : World) (hn : n ≤ 2 ^ 40) (hj : j ≤ n) (hr : Rd w blk a n cap j) :
    Calls Try.prog 86 #[.pointer (some ⟨blk, 0, none⟩), .int .u64 1] w fun e w' => e = .returned (.bool (decide (j < n))) ∧ Below w.heap.size w w' := by
  have h0 := hr.c0
  have h1 := hr.c1
  go_enter Try.func86, Try.ntmps86
  go_wp2
  go_quiet (fail)
  go_wp2
  go_ret
  refine ⟨?_, below_drewN (Below.refl _ _) _⟩
  show Ending.returned (.bool (decide (1 ≤ (n : Int) - (j : Int)))) = _
  congr 2
  rw [decide_eq_decide]; omega

set_option maxRecDepth 100000 in
theorem take_c (b off blk : Nat) (n cap j : Nat) (l : List UInt8) (w : World) (hn : n ≤ 2 ^ 40) (hj : j < n) (hr : Rd w blk (some ⟨b, off, none⟩) n cap j) (hs : IsB w (some ⟨b, off, none⟩) n cap l) :
    Calls Try.prog 87 #[.pointer (some ⟨blk, 0, none⟩), .int .i64 1] w fun e w' => e = .returned (.slice (some ⟨b, off + j, none⟩) 1 1) ∧ Rd w' blk (some ⟨b, off, none⟩) n cap (j + 1) ∧ w.grownBy w' (some blk) := by
  have h0 := hr.c0
  have h1 := hr.c1
  have hf := hr.fz 1
  have hc : n ≤ cap := hs.le
  go_enter Try.func87, Try.ntmps87
  go_wp2
  go_quiet (fail)
  go_wp2
  go_ret
  have := (hr.drewN nq).set (j + 1)
  push_cast at this
  exact ⟨rfl, this, grown_trans (grown_drewN (World.grownBy.refl _ _) nq) (grown_set _ _ _ _)⟩

theorem orRef {i c acc : Nat} (hi : i ≤ 9) (h9 : i = 9 → c % 128 ≤ 1) (ha : acc < 128 ^ i) :
    bits BinOp.or IntKind.u64 (acc : Int) ((c % 128 * 128 ^ i : Nat) : Int) = ((acc + c % 128 * 128 ^ i : Nat) : Int) := by
  have hb := accRef hi h9 ha
  rw [u64_or_nat acc (c % 128 * 128 ^ i) (by omega) (by omega)]
  congr 1
  rw [Nat.or_comm, show (128 : Nat) ^ i = 2 ^ (7 * i) from by rw [show (128 : Nat) = 2 ^ 7 from rfl, ← Nat.pow_mul]] at *
  rw [nat_join (7 * i) _ _ (Nat.mul_mod_left _ _) ha]
  omega

set_option maxHeartbeats 4000000 in
set_option maxRecDepth 100000 in
theorem rdnum_c (blk : Nat) (a : Option Addr) (n cap : Nat) (l : List UInt8) (w : World) (hn : n ≤ 2 ^ 40) (hr : Rd w blk a n cap 0) (h : IsB w a n cap l) (hne : ∀ ad, a = some ad → 0 < cap → ad.block ≠ blk) :
    Calls Try.prog 83 #[.pointer (some ⟨blk, 0, none⟩)] w fun e w' => ∃ j, e = .returned (.tuple #[.int .u64 ((readN l).1 : Int), .int .i64 ((readN l).2.2 : Int)]) ∧
      Rd w' blk a n cap j ∧ w.grownBy w' (some blk) ∧ ((readN l).2.2 = 0 → j = (readN l).2.1) := by
  have hl := h.len
  have HL := Lib.hid hl; clear hl
  go_enter Try.func83, Try.ntmps83
  go_wp2
  refine wp_scope_ahead 0 (fun a1 w1 => ∃ u0 u1 u2 u3 u4 u5 u6 u7 u8 u9 u10 u11 u12 u13 u14 u15 u16 u17 u18 u19 u20 u21 u22 u23 u24 u25 u26 u27 u28 u29 u30 u31 u32 u33 u34 u35 u36 u37 u38 u39 u40 u41 u42 u43 u44 u45 u46 u47 : Value, a1 = { tmps := #[u0, u1, u2, u3, u4, u5, u6, u7, u8, u9, u10, u11, u12, u13, u14, u15, u16, u17, u18, u19, u20, u21, u22, u23, u24, u25, u26, u27, u28, u29, u30, u31, u32, u33, u34, u35, u36, u37, u38, u39, u40, u41, u42, u43, u44, u45, u46, u47], defers := [] } ∧ ∃ j, readN l = (0, 0, 111) ∧ Rd w1 blk a n cap j ∧ w.grownBy w1 (some blk)) rfl ?_ ?_
  · go_wp2
    go_loopw [2, 4] (fun v i wr => ∃ (j acc : Nat), i = .int .i64 (j : Int) ∧ v = .int .u64 (acc : Int) ∧ j ≤ n ∧ j ≤ 9 ∧ acc < 128 ^ j ∧ readN l = rdN j acc (l.drop j) ∧ Rd wr blk a n cap j ∧ w.grownBy wr (some blk)) (fun _ i _ => n - (intOf i).toNat)
    case atStart => exact ⟨0, 0, rfl, rfl, by omega, by omega, by omega, rfl, hr, World.grownBy.refl _ _⟩
    case round =>
      obtain ⟨j, acc, rfl, rfl, hj, hj9, hacc, hrd, hr1, hg⟩ := hrel
      have HA := Lib.hid hacc; clear hacc
      have hs1 := h.grown' hg (fun ad e h0 => fun e2 => hne ad e h0 (Option.some.inj e2))
      by_cases hlt : j < n
      · obtain ⟨b, off, rfl, hbl⟩ := h.some_of_lt (by have := h.le; omega)
        have hd : l.drop j = l.getD j 0 :: l.drop (j + 1) := by
          have : j < l.length := by have := HL.out; omega
          rw [List.drop_eq_getElem_cons this]; simp [List.getD, this]
        rw [hd, rdN] at hrd
        have hbne : b ≠ blk := hne _ rfl (by have := h.le; omega)
        go_wp2_with fail
        refine (has_c blk _ n cap j _ hn hj hr1).mono ?_
        rintro e w2 ⟨rfl, hb2⟩
        have hr2 := hr1.later hb2
        have hs2 := hs1.later hb2
        have hd1 : decide (j < n) = true := by simp [hlt]
        rw [hd1]
        go_wp2_with fail
        refine (take_c b off blk n cap j l _ hn hlt hr2 hs2).mono ?_
        rintro e w3 ⟨rfl, hr3, hg3⟩
        have hs3 := hs2.grown hg3 (fun ad e => by cases e; simpa using hbne)
        have hcell := hs3.cell (i := j) hlt
        generalize l.getD j 0 = c at hrd hcell
        have hc := c.toNat_lt
        generalize c.toNat = c at hrd hcell hc
        go_wp2_with fail
        refine (wide_c _).mono ?_
        rintro e w4 ⟨rfl, hb4⟩
        have hr4 := hr3.later hb4
        have hs4 := hs3.later hb4
        have hg4 : w.grownBy w4 (some blk) := grown_below (grown_trans (grown_below hg hb2) hg3) hb4
        have i10 := idx10
        clear hcell hs3 hs2 hs1 hr3 hr2 hr1
        have H1 := Lib.hid (Classical.em ((j = 9 ∧ 1 < c) ∨ (0 < j ∧ c = 0)))
        by_cases e1 : (j = 9 ∧ 1 < c) ∨ (0 < j ∧ c = 0)
        · rw [if_pos e1] at hrd
          have HR := Lib.hid hrd; clear hrd H1
          by_cases e9 : j = 9
          · by_cases eg : 1 < c
            · have g1 : ((j : Int) == 9) = true := by simp; omega
              have f1 : decide (1 < (c : Int)) = true := by simp; omega
              clear e1 e9 eg
              go_wp2_with fail
              go_step3
              simp only [Exit.then]
              exact ⟨rfl, _, _, _, _, _, _, _, _, _, _, _, _, _, _, _, _, _, _, _, _, _, _, _, _, _, _, _, _, _, _, _, _, _, _, _, _, _, _, _, _, _, _, _, _, _, _, _, _, rfl, _, HR.out, hr4, hg4⟩
            · have g1 : ((j : Int) == 9) = true := by simp; omega
              have f1 : decide (1 < (c : Int)) = false := by simp; omega
              have ez : ((c : Int) == 0) = true := by simp; omega
              have ep : 0 < j := by omega
              clear e1 e9 eg
              go_wp2_with fail
              go_step3
              simp only [Exit.then]
              exact ⟨rfl, _, _, _, _, _, _, _, _, _, _, _, _, _, _, _, _, _, _, _, _, _, _, _, _, _, _, _, _, _, _, _, _, _, _, _, _, _, _, _, _, _, _, _, _, _, _, _, _, rfl, _, HR.out, hr4, hg4⟩
          · have g1 : ((j : Int) == 9) = false := by simp; omega
            have ez : ((c : Int) == 0) = true := by simp; omega
            have ep : 0 < j := by omega
            clear e1 e9
            go_wp2_with fail
            go_step3
            simp only [Exit.then]
            exact ⟨rfl, _, _, _, _, _, _, _, _, _, _, _, _, _, _, _, _, _, _, _, _, _, _, _, _, _, _, _, _, _, _, _, _, _, _, _, _, _, _, _, _, _, _, _, _, _, _, _, _, rfl, _, HR.out, hr4, hg4⟩
        · rw [if_neg e1] at hrd
          have hand : bits BinOp.andNot IntKind.u8 (c : Int) 128 = ((c % 128 : Nat) : Int) := by
            have := u8_andNot_nat c 128 hc (by omega)
            rw [show (255 - 128 : Nat) = 127 from rfl, nat_mask7] at this
            exact this
          have hor := orRef (i := j) (c := c) hj9 (by omega) HA.out
          have hsh : IntKind.u64.wrap ((c : Int) % 128 * 2 ^ (7 * j)) = ((c % 128 * 128 ^ j : Nat) : Int) := by
            rw [← mulRef (i := j) (c := c) hj9 (by omega), show (128 : Nat) ^ j = 2 ^ (7 * j) from by rw [show (128 : Nat) = 2 ^ 7 from rfl, ← Nat.pow_mul]]
            push_cast; rfl
          have hlt2 : c ≥ 128 → j < 9 ∧ acc + c % 128 * 128 ^ j < 128 ^ (j + 1) := fun h => ⟨by omega, (accRef (i := j) (c := c) hj9 (by omega) HA.out).2⟩
          clear HA H1
          have HT := Lib.hid hlt2; clear hlt2
          generalize c % 128 * 128 ^ j = q at hsh hor hrd HT
          generalize acc + q = s at hor hrd HT
          have i7 := idx7
          have e1' := Lib.hid e1; clear e1
          by_cases e2 : c < 128
          · rw [if_pos e2] at hrd
            have HR := Lib.hid hrd; clear hrd
            by_cases e9 : j = 9
            · have g1 : ((j : Int) == 9) = true := by simp; omega
              have f1 : decide (1 < (c : Int)) = false := by have := e1'.out; simp; omega
              have f2 : ((c : Int) == 0) = false := by have := e1'.out; simp; omega
              have ep : 0 < j := by omega
              clear e9
              go_wp2_with fail
              refine (wide_c _).mono ?_
              rintro e w5 ⟨rfl, hb5⟩
              have hr5 := hr4.later hb5
              have hg5 : w.grownBy w5 (some blk) := grown_below hg4 hb5
              go_wp2_with fail
              simp only [jump_ret]
              go_ret2
              rw [HR.out]
              exact ⟨j + 1, by simp, hr5, hg5, fun _ => rfl⟩
            · have g1 : ((j : Int) == 9) = false := by simp; omega
              clear e9
              by_cases e0 : j = 0
              · have ep : ¬ 0 < j := by omega
                clear e0
                go_wp2_with fail
                refine (wide_c _).mono ?_
                rintro e w5 ⟨rfl, hb5⟩
                have hr5 := hr4.later hb5
                have hg5 : w.grownBy w5 (some blk) := grown_below hg4 hb5
                go_wp2_with fail
                simp only [jump_ret]
                go_ret2
                rw [HR.out]
                exact ⟨j + 1, by simp, hr5, hg5, fun _ => rfl⟩
              · have ep : 0 < j := by omega
                have f2 : ((c : Int) == 0) = false := by have := e1'.out; simp; omega
                clear e0
                go_wp2_with fail
                refine (wide_c _).mono ?_
                rintro e w5 ⟨rfl, hb5⟩
                have hr5 := hr4.later hb5
                have hg5 : w.grownBy w5 (some blk) := grown_below hg4 hb5
                go_wp2_with fail
                simp only [jump_ret]
                go_ret2
                rw [HR.out]
                exact ⟨j + 1, by simp, hr5, hg5, fun _ => rfl⟩
          · rw [if_neg e2] at hrd
            have HR := Lib.hid hrd; clear hrd
            obtain ⟨h9, hs⟩ := HT.out (by omega)
            have HS := Lib.hid hs; clear hs
            have g1 : ((j : Int) == 9) = false := by simp; omega
            by_cases e0 : j = 0
            · have ep : ¬ 0 < j := by omega
              clear e0
              go_wp2_with fail
              refine (wide_c _).mono ?_
              rintro e w5 ⟨rfl, hb5⟩
              have hr5 := hr4.later hb5
              have hg5 : w.grownBy w5 (some blk) := grown_below hg4 hb5
              go_wp2_with fail
              go_roundw
              case rel => exact ⟨j + 1, s, by go_num, rfl, by omega, by omega, HS.out, HR.out, hr5, hg5⟩
              case measure => simp [intOf]; omega
            · have ep : 0 < j := by omega
              have f2 : ((c : Int) == 0) = false := by have := e1'.out; simp; omega
              clear e0
              go_wp2_with fail
              refine (wide_c _).mono ?_
              rintro e w5 ⟨rfl, hb5⟩
              have hr5 := hr4.later hb5
              have hg5 : w.grownBy w5 (some blk) := grown_below hg4 hb5
              go_wp2_with fail
              go_roundw
              case rel => exact ⟨j + 1, s, by go_num, rfl, by omega, by omega, HS.out, HR.out, hr5, hg5⟩
              case measure => simp [intOf]; omega
      · have e : j = n := by omega
        have : l.drop j = [] := List.drop_eq_nil_of_le (by have := HL.out; omega)
        rw [this, rdN] at hrd
        have HR := Lib.hid hrd; clear hrd
        go_wp2_with fail
        refine (has_c blk _ n cap j _ hn hj hr1).mono ?_
        rintro e w2 ⟨rfl, hb2⟩
        have hd : decide (j < n) = false := by simp; omega
        rw [hd]
        go_wp2
        simp only [jump_ret]
        go_ret2
        rw [HR.out]
        exact ⟨j, rfl, hr1.later hb2, grown_below hg hb2, by simp⟩
  · rintro a1 w1 ⟨u0, u1, u2, u3, u4, u5, u6, u7, u8, u9, u10, u11, u12, u13, u14, u15, u16, u17, u18, u19, u20, u21, u22, u23, u24, u25, u26, u27, u28, u29, u30, u31, u32, u33, u34, u35, u36, u37, u38, u39, u40, u41, u42, u43, u44, u45, u46, u47, rfl, j, hrd, hr1, hg1⟩
    have HR := Lib.hid hrd; clear hrd
    go_wp2
    simp only [jump_ret]
    go_ret2
    rw [HR.out]
    exact ⟨j, rfl, hr1, hg1, by simp⟩
end Go.Proofs.Ytknndpncdnhnpaa
