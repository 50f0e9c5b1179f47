import Derived.Test.YtknndpncdnhnpaaJouG
namespace Go.Proofs.Ytknndpncdnhnpaa
open Go.RowKit Go.Cas
set_option linter.unusedSimpArgs false
set_option linter.unusedVariables false
attribute [local go_sem] Oper.semAt_some

theorem g70 : (ds0 70000).good := ⟨⟨Nat.le_refl _, Nat.le_refl _, by decide, by decide⟩, by decide, by decide, by decide⟩
theorem e70o : jopen (ds0 70000) 0 = (ds0 70000, 0) := by
  have : wholeB ([] : List UInt8) = 0 := wholeB_nil
  simp [jopen, fileOk, ds0, DS.fl, this]
/-- what a record tells of its length -/
theorem jlog_len (l : List UInt8) : (jlog (ds0 70000) 0 l).2 = if l.length ≤ 65536 then 0 else 3 := by
  unfold jlog
  split
  · rename_i hle
    have h3 := numB_len l.length
    have h4 := frameB_len l
    have : ¬ ((70000 : Int) - ((frameB l).length : Int) < 0) := by omega
    simp [DS.append, fileOk, ds0, DS.fl, this]
  · rfl
set_option maxRecDepth 100000 in
set_option maxHeartbeats 4000000 in
theorem journalLong_c (more : Int) (w : World) (_h : (Lit.int .i64 more).wf = true) : Calls Try.prog 3 #[.int .i64 more] w fun e w' => e = .returned (.bool true) ∧ Below w.heap.size w w' := by
  have HW := Lib.hid (works08_c)
  by_cases hlo : more < -1
  · have m0 : decide (more < -1) = true := by simpa using hlo
    clear hlo
    go_enter Try.func3, Try.ntmps3
    go_wp2_with fail
    refine (HW.out _).mono ?_
    rintro e w1 ⟨rfl, hb1⟩
    go_wp2_with fail
    go_ret
    exact ⟨rfl, hb1⟩
  by_cases hhi : 1 < more
  · have m0 : decide (more < -1) = false := by simpa using hlo
    have m1 : decide (1 < more) = true := by simpa using hhi
    clear hlo hhi
    go_enter Try.func3, Try.ntmps3
    go_wp2_with fail
    refine (HW.out _).mono ?_
    rintro e w1 ⟨rfl, hb1⟩
    go_wp2_with fail
    go_ret
    exact ⟨rfl, hb1⟩
  have m0 : decide (more < -1) = false := by simpa using hlo
  have m1 : decide (1 < more) = false := by simpa using hhi
  obtain ⟨n, hn⟩ : ∃ n : Nat, (n : Int) = 65536 + more := ⟨(65536 + more).toNat, by omega⟩
  have hwr : IntKind.i64.wrap (65536 + more) = 65536 + more := i64_in (by omega) (by omega)
  have hn40 : n ≤ 2 ^ 40 := by omega
  have hmk := fun W : World => make_bytes W n (x := 65536 + more) hn.symm hn40
  obtain ⟨cs, hc⟩ := Classical.axiomOfChoice hmk
  have hm := fun W => (hc W).1
  have hC := Lib.hid (fun W => (hc W).2)
  clear hmk hc
  obtain ⟨l, hl⟩ : ∃ l, List.replicate n (0 : UInt8) = l := ⟨_, rfl⟩
  have hll : l.length = n := by rw [← hl, List.length_replicate]
  rw [hl] at hC
  have hno := jlog_len l
  rw [hll] at hno
  obtain ⟨r, hr⟩ : ∃ r, jlog (ds0 70000) 0 l = r := ⟨_, rfl⟩
  obtain ⟨r1, r2⟩ := r
  rw [hr] at hno
  have hfin : (more = 1 ∧ r2 = 3) ∨ (more ≠ 1 ∧ r2 = 0) := by
    simp only at hno
    by_cases h1 : more = 1
    · exact .inl ⟨h1, by rw [hno, if_neg (by omega)]⟩
    · exact .inr ⟨h1, by rw [hno, if_pos (by omega)]⟩
  have hml : n ≤ maxLen := by unfold maxLen; omega
  clear hl hno hlo hhi
  have HN := Lib.hid hn
  clear hn
  obtain ⟨b, hb⟩ : ∃ b, w.heap.size = b := ⟨_, rfl⟩
  have hnew := new_c 70000 w (by decide) (by decide)
  rw [hb] at hnew ⊢
  go_enter Try.func3, Try.ntmps3
  go_wp2_with fail
  refine hnew.mono ?_
  rintro e w1 ⟨rfl, hd1, hb1⟩
  clear hnew
  have hz1 : b ≤ w1.heap.size := Nat.le_of_lt hd1.lt
  have hop := jopen_c b _ 0 w1 hd1 g70 rfl
  unfold Opened at hop
  rw [e70o] at hop
  go_wp2_with fail
  refine hop.mono ?_
  rintro e w2 ⟨⟨-, jb, rfl, hj2, hjb⟩ | ⟨h0, -⟩, hd2, hg2⟩
  case inr => exact absurd rfl h0
  have hne : jb ≠ b := by have := hd1.lt; omega
  have hb2 := bg hb1 (by omega) hg2
  clear hop hb1 hd1 hg2 hjb
  have hsz2 := hd2.lt
  have hal := below_alloc w2 (.cells (cs w2) 5)
  have hlg := jlog_c jb b 0 _ (some ⟨w2.heap.size, 0, none⟩) n n l hn40 _ (hd2.later hal) g70 (hj2.later hal) (IsB_fresh w2 _ _ n hll hml (hC.out w2))
  have hb3 := hb2.trans (hal.mono (Nat.le_of_lt hsz2))
  rw [hr] at hlg
  clear hj2 hd2 hb2 hal hr
  rcases hfin with ⟨h1, rfl⟩ | ⟨h1, rfl⟩
  · have m2 : (more == 1) = true := by simpa using h1
    clear h1
    go_wp2_with (first | (go_at_call 11; refine (num8_c _ _).mono ?_; rintro e w' ⟨rfl, rfl⟩))
    refine hlg.mono ?_
    rintro e w3 ⟨rfl, hd3, hg3⟩
    have hb4 := bg hb3 (by omega) hg3
    go_wp2_with (first | (go_at_call 11; refine (num8_c _ _).mono ?_; rintro e w' ⟨rfl, rfl⟩))
    refine (HW.out _).mono ?_
    rintro e w4 ⟨rfl, hbw⟩
    go_wp2_with fail
    go_ret
    exact ⟨rfl, hb4.trans (hbw.mono (Nat.le_of_lt hd3.lt))⟩
  · have m2 : (more == 1) = false := by simpa using h1
    clear h1
    go_wp2_with (first | (go_at_call 11; refine (num8_c _ _).mono ?_; rintro e w' ⟨rfl, rfl⟩))
    refine hlg.mono ?_
    rintro e w3 ⟨rfl, hd3, hg3⟩
    have hb4 := bg hb3 (by omega) hg3
    go_wp2_with (first | (go_at_call 11; refine (num8_c _ _).mono ?_; rintro e w' ⟨rfl, rfl⟩))
    refine (HW.out _).mono ?_
    rintro e w4 ⟨rfl, hbw⟩
    go_wp2_with fail
    go_ret
    exact ⟨rfl, hb4.trans (hbw.mono (Nat.le_of_lt hd3.lt))⟩
end Go.Proofs.Ytknndpncdnhnpaa
