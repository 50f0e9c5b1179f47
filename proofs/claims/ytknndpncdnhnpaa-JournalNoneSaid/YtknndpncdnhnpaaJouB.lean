import Derived.Test.YtknndpncdnhnpaaJouA
namespace Go.Proofs.Ytknndpncdnhnpaa
open Go.RowKit Go.Cas
set_option linter.unusedSimpArgs false
set_option linter.unusedVariables false
attribute [local go_sem] Oper.semAt_some

set_option maxRecDepth 100000 in
set_option maxHeartbeats 1000000 in
theorem steps_c (q g1 g2 : Nat) (cs1 cs2 : Array Value) (no1 no2 : Int) (R1 R2 : World → Prop) (w : World) (hq : w.heap[q]? = some (.cells #[.func (.func g1) #[] cs1, .func (.func g2) #[] cs2] 49 (0, 0)))
    (e1 : ∀ args w, (callFunc g1 args).run Try.prog w = .ok (.enter g1 args) w) (e2 : ∀ args w, (callFunc g2 args).run Try.prog w = .ok (.enter g2 args) w)
    (h1 : Calls Try.prog g1 cs1 w fun e w' => e = .returned (.int .i64 no1) ∧ R1 w' ∧ w'.heap[q]? = w.heap[q]?)
    (h2 : no1 = 0 → ∀ W, R1 W → Calls Try.prog g2 cs2 W fun e w' => e = .returned (.int .i64 no2) ∧ R2 w' ∧ w'.heap[q]? = W.heap[q]?) :
    Calls Try.prog 34 #[.slice (some ⟨q, 0, none⟩) 2 2] w fun e w' => (no1 ≠ 0 ∧ e = .returned (.int .i64 no1) ∧ R1 w') ∨ (no1 = 0 ∧ e = .returned (.int .i64 no2) ∧ R2 w') := by
  have H1 := Lib.hid h1
  have H2 := Lib.hid h2
  have HQ := Lib.hid hq
  clear h1 h2 hq
  go_enter Try.func34, Try.ntmps34
  go_wp2_with fail
  go_loopw [8] (fun i wr => ∃ k : Nat, k ≤ 2 ∧ i = .int .i64 (k : Int) ∧ Hid (k = 0 → wr = w) ∧ wr.heap[q]? = some (.cells #[.func (.func g1) #[] cs1, .func (.func g2) #[] cs2] 49 (0, 0)) ∧ (k = 1 → no1 = 0 ∧ R1 wr) ∧ (k = 2 → no1 = 0 ∧ no2 = 0 ∧ R2 wr)) (fun i _ => 2 - (intOf i).toNat)
  case atStart => exact ⟨0, by decide, rfl, Lib.hid (fun _ => rfl), HQ.out, fun h => absurd h (by decide), fun h => absurd h (by decide)⟩
  case round =>
    obtain ⟨k, hk, rfl, HW, hq, hr1, hr2⟩ := hrel
    have q0 := row_cell hq 0 rfl
    have q1 := row_cell hq 1 rfl
    have HR1 := Lib.hid hr1
    have HR2 := Lib.hid hr2
    have HQR := Lib.hid hq
    clear hr1 hr2 hq
    obtain rfl | rfl | rfl : k = 0 ∨ k = 1 ∨ k = 2 := by omega
    · have hw := HW.out rfl
      subst hw
      go_wp2_with fail
      refine H1.out.mono ?_
      rintro e w1 ⟨rfl, hr, hqq⟩
      by_cases hn : no1 = 0
      · have hb : (no1 != 0) = false := by simp [hn]
        have HN := Lib.hid hn
        clear hn
        go_wp2_with fail
        exact ⟨⟨1, by decide, rfl, Lib.hid (fun h => absurd h (by decide)), hqq.trans HQR.out, fun _ => ⟨HN.out, hr⟩, fun h => absurd h (by decide)⟩, by simp [intOf]⟩
      · have hb : (no1 != 0) = true := by simpa using hn
        have HN := Lib.hid hn
        clear hn
        go_wp2_with fail
        go_ret
        exact .inl ⟨HN.out, rfl, hr⟩
    · have hr1 := HR1.out rfl
      have h2' := H2.out hr1.1 _ hr1.2
      have HN1 := Lib.hid hr1.1
      clear hr1
      go_wp2_with fail
      refine h2'.mono ?_
      rintro e w1 ⟨rfl, hr, hqq⟩
      clear h2'
      by_cases hn : no2 = 0
      · have hb : (no2 != 0) = false := by simp [hn]
        have HN := Lib.hid hn
        clear hn
        go_wp2_with fail
        exact ⟨⟨2, by decide, rfl, Lib.hid (fun h => absurd h (by decide)), hqq.trans HQR.out, fun h => absurd h (by decide), fun _ => ⟨HN1.out, HN.out, hr⟩⟩, by simp [intOf]⟩
      · have hb : (no2 != 0) = true := by simpa using hn
        have HN := Lib.hid hn
        clear hn
        go_wp2_with fail
        go_ret
        exact .inr ⟨HN1.out, rfl, hr⟩
    · have hr2 := HR2.out rfl
      have HN2 := Lib.hid hr2
      clear hr2
      go_wp2_with fail
      go_ret
      exact .inr ⟨HN2.out.1, by rw [HN2.out.2.1]; rfl, HN2.out.2.2⟩
/-- what Log tells -/
def jlog (s : DS) (file : Int) (l : List UInt8) : DS × Int := if l.length ≤ 65536 then s.append file (frameB l) else (s, 3)
theorem seal_all (a : Option Addr) (n cap : Nat) (l : List UInt8) (hn : n ≤ 2 ^ 40) (w : World) (h : IsB w a n cap l) :
    Calls Try.prog 36 #[.slice a n cap] w (RetBE w (if l.length ≤ 65536 then frameB l else []) (if l.length ≤ 65536 then 0 else 3)) := by
  have hl := h.len
  by_cases hc : l.length ≤ 65536
  · rw [if_pos hc, if_pos hc]; exact seal_ok a n cap l (by omega) w h
  · rw [if_neg hc, if_neg hc]; exact seal_long a n cap (by omega) hn w
theorem enter_log1 : ∀ args w, (callFunc 35 args).run Try.prog w = .ok (.enter 35 args) w := enters_of Try.func35 (by kernel_rfl) rfl
theorem enter_log2 : ∀ args w, (callFunc 37 args).run Try.prog w = .ok (.enter 37 args) w := enters_of Try.func37 (by kernel_rfl) rfl
set_option maxRecDepth 100000 in
theorem log1_c (Bb Bf : Nat) (a : Option Addr) (n cap : Nat) (l : List UInt8) (x : Value) (hn : n ≤ 2 ^ 40) (w : World) (h : IsB w a n cap l) (hb : Box w Bb (.slice a n cap)) (hf : Box w Bf x) :
    Calls Try.prog 35 #[.pointer (some ⟨Bb, 0, none⟩), .pointer (some ⟨Bf, 0, none⟩)] w fun e w' =>
      ∃ a' n' c', e = .returned (.int .i64 ((if l.length ≤ 65536 then 0 else 3 : Nat) : Int)) ∧ IsB w' a' n' c' (if l.length ≤ 65536 then frameB l else []) ∧ Box w' Bf (.slice a' n' c') ∧ (∀ ad, a' = some ad → w.heap.size ≤ ad.block) ∧ w.grownBy w' (some Bf) := by
  have hs := seal_all a n cap l hn w h
  have hc := hb.cell
  generalize (if l.length ≤ 65536 then frameB l else []) = F at *
  generalize (if l.length ≤ 65536 then 0 else 3 : Nat) = no at *
  go_enter Try.func35, Try.ntmps35
  go_wp2_with fail
  refine hs.mono ?_
  rintro e w1 ⟨v, rfl, ho, hb1⟩
  obtain ⟨a1, n1, c1, rfl, hs1⟩ := ho.slice'
  have hown := own_block ho
  have hf1 := hf.later hb1
  have hc1 := hf1.cell
  have hz1 := hf1.fz
  have hlt := hf.lt
  go_wp2_with fail
  go_ret
  refine ⟨a1, n1, c1, by rfl, hs1.grown (grown_set _ _ _ _) (fun ad ha e => ?_), hf1.set _, hown, grown_trans (grown_of_below hb1) (grown_set _ _ _ _)⟩
  have := hown ad ha
  have := Option.some.inj e
  omega
set_option maxRecDepth 100000 in
set_option maxHeartbeats 1000000 in
theorem log2_c (Bj Bf jb b : Nat) (file : Int) (s : DS) (a : Option Addr) (n cap : Nat) (l : List UInt8) (hn : n ≤ 2 ^ 40) (w : World) (hd : IsD w b s) (hg : s.good) (hj : Box w Bj (.pointer (some ⟨jb, 0, none⟩))) (hc : JC w jb b file)
    (h : IsB w a n cap l) (hf : Box w Bf (.slice a n cap)) (hne : ∀ ad, a = some ad → 0 < cap → ad.block ≠ b) :
    Calls Try.prog 37 #[.pointer (some ⟨Bj, 0, none⟩), .pointer (some ⟨Bf, 0, none⟩)] w fun e w' =>
      e = .returned (.int .i64 (s.append file l).2) ∧ IsD w' b (s.append file l).1 ∧ w.grownBy w' (some b) := by
  have hap := fun W (hW : Below w.heap.size w W) => append_all b s file W (hd.later hW) hg.2.2.1 hg.2.2.2 a n cap l (h.later hW) hn hg.1 hne
  obtain ⟨r, hr⟩ : ∃ r, s.append file l = r := ⟨_, rfl⟩
  rw [hr] at hap ⊢
  clear hr
  have HAP := Lib.hid hap
  clear hap
  have j0 := hj.cell
  have c0 := row_cell hc 0 rfl
  have c1 := row_cell hc 1 rfl
  have f0 := hf.cell
  go_enter Try.func37, Try.ntmps37
  go_wp2_with fail
  refine mix_begin 11 (Held fun w' => w'.cell? ⟨Bj, 0, none⟩ = some (.pointer (some ⟨jb, 0, none⟩)) ∧ w'.cell? ⟨jb, 0, none⟩ = some (.pointer (some ⟨b, 0, none⟩)) ∧ w'.cell? ⟨jb, 1, none⟩ = some (.int .i64 file) ∧ w'.cell? ⟨Bf, 0, none⟩ = some (.slice a n cap)) (by kernel_rfl) (by kernel_rfl) (Held.mk ⟨j0, c0, c1, f0⟩) (fun hS => ?_)
  refine mix_take (v := ?_) 0 rfl (by decide) (by kernel_rfl) (by kernel_rfl) (fun _ _ _ h => h) hS rfl ?_ ?_
  rotate_left
  · (intro w' hw'; first | (go_simp; done) | (go_simp; with_reducible rfl) | (obtain ⟨g0, g1, g2, g3⟩ := hw'.out; first | (go_simp; done) | (go_simp; with_reducible rfl)))
  simp only [Act.put, List.setIfInBounds_toArray, List.set_cons_zero, List.set_cons_succ]
  refine mix_take (v := ?_) 1 rfl (by decide) (by kernel_rfl) (by kernel_rfl) (fun _ _ _ h => h) hS rfl ?_ ?_
  rotate_left
  · (intro w' hw'; first | (go_simp; done) | (go_simp; with_reducible rfl) | (obtain ⟨g0, g1, g2, g3⟩ := hw'.out; first | (go_simp; done) | (go_simp; with_reducible rfl)))
  simp only [Act.put, List.setIfInBounds_toArray, List.set_cons_zero, List.set_cons_succ]
  refine mix_take (v := ?_) 2 rfl (by decide) (by kernel_rfl) (by kernel_rfl) (fun _ _ _ h => h) hS rfl ?_ ?_
  rotate_left
  · (intro w' hw'; first | (go_simp; done) | (go_simp; with_reducible rfl) | (obtain ⟨g0, g1, g2, g3⟩ := hw'.out; first | (go_simp; done) | (go_simp; with_reducible rfl)))
  simp only [Act.put, List.setIfInBounds_toArray, List.set_cons_zero, List.set_cons_succ]
  refine mix_take (v := ?_) 3 rfl (by decide) (by kernel_rfl) (by kernel_rfl) (fun _ _ _ h => h) hS rfl ?_ ?_
  rotate_left
  · (intro w' hw'; first | (go_simp; done) | (go_simp; with_reducible rfl) | (obtain ⟨g0, g1, g2, g3⟩ := hw'.out; first | (go_simp; done) | (go_simp; with_reducible rfl)))
  simp only [Act.put, List.setIfInBounds_toArray, List.set_cons_zero, List.set_cons_succ]
  refine mix_take (v := ?_) 4 rfl (by decide) (by kernel_rfl) (by kernel_rfl) (fun _ _ _ h => h) hS rfl ?_ ?_
  rotate_left
  · (intro w' hw'; first | (go_simp; done) | (go_simp; with_reducible rfl) | (obtain ⟨g0, g1, g2, g3⟩ := hw'.out; first | (go_simp; done) | (go_simp; with_reducible rfl)))
  simp only [Act.put, List.setIfInBounds_toArray, List.set_cons_zero, List.set_cons_succ]
  refine mix_take (v := ?_) 5 rfl (by decide) (by kernel_rfl) (by kernel_rfl) (fun _ _ _ h => h) hS rfl ?_ ?_
  rotate_left
  · (intro w' hw'; first | (go_simp; done) | (go_simp; with_reducible rfl) | (obtain ⟨g0, g1, g2, g3⟩ := hw'.out; first | (go_simp; done) | (go_simp; with_reducible rfl)))
  simp only [Act.put, List.setIfInBounds_toArray, List.set_cons_zero, List.set_cons_succ]
  refine mix_take (v := ?_) 6 rfl (by decide) (by kernel_rfl) (by kernel_rfl) (fun _ _ _ h => h) hS rfl ?_ ?_
  rotate_left
  · (intro w' hw'; first | (go_simp; done) | (go_simp; with_reducible rfl) | (obtain ⟨g0, g1, g2, g3⟩ := hw'.out; first | (go_simp; done) | (go_simp; with_reducible rfl)))
  simp only [Act.put, List.setIfInBounds_toArray, List.set_cons_zero, List.set_cons_succ]
  refine mix_take (v := ?_) 7 rfl (by decide) (by kernel_rfl) (by kernel_rfl) (fun _ _ _ h => h) hS rfl ?_ ?_
  rotate_left
  · (intro w' hw'; first | (go_simp; done) | (go_simp; with_reducible rfl) | (obtain ⟨g0, g1, g2, g3⟩ := hw'.out; first | (go_simp; done) | (go_simp; with_reducible rfl)))
  simp only [Act.put, List.setIfInBounds_toArray, List.set_cons_zero, List.set_cons_succ]
  refine mix_take (v := ?_) 8 rfl (by decide) (by kernel_rfl) (by kernel_rfl) (fun _ _ _ h => h) hS rfl ?_ ?_
  rotate_left
  · (intro w' hw'; first | (go_simp; done) | (go_simp; with_reducible rfl) | (obtain ⟨g0, g1, g2, g3⟩ := hw'.out; first | (go_simp; done) | (go_simp; with_reducible rfl)))
  simp only [Act.put, List.setIfInBounds_toArray, List.set_cons_zero, List.set_cons_succ]
  refine mix_take (v := ?_) 9 rfl (by decide) (by kernel_rfl) (by kernel_rfl) (fun _ _ _ h => h) hS rfl ?_ ?_
  rotate_left
  · (intro w' hw'; first | (go_simp; done) | (go_simp; with_reducible rfl) | (obtain ⟨g0, g1, g2, g3⟩ := hw'.out; first | (go_simp; done) | (go_simp; with_reducible rfl)))
  simp only [Act.put, List.setIfInBounds_toArray, List.set_cons_zero, List.set_cons_succ]
  refine mix_take (v := ?_) 10 rfl (by decide) (by kernel_rfl) (by kernel_rfl) (fun _ _ _ h => h) hS rfl ?_ ?_
  rotate_left
  · (intro w' hw'; first | (go_simp; done) | (go_simp; with_reducible rfl) | (obtain ⟨g0, g1, g2, g3⟩ := hw'.out; first | (go_simp; done) | (go_simp; with_reducible rfl)))
  simp only [Act.put, List.setIfInBounds_toArray, List.set_cons_zero, List.set_cons_succ]
  refine mix_done (by kernel_rfl) ?_
  simp only [List.drop_succ_cons, List.drop_zero]
  clear hS j0 c0 c1 f0
  go_wp2_with fail
  refine (HAP.out _ (below_drew w)).mono ?_
  rintro e w1 ⟨rfl, hd1, hg1⟩
  go_wp2_with fail
  go_ret
  exact ⟨rfl, hd1, grown_trans (grown_of_below (below_drew w)) hg1⟩
set_option maxRecDepth 100000 in
set_option maxHeartbeats 1000000 in
theorem jsync_c (jb b : Nat) (file : Int) (s : DS) (w : World) (hd : IsD w b s) (hg : s.good) (hc : JC w jb b file) :
    Calls Try.prog 19 #[.pointer (some ⟨jb, 0, none⟩)] w fun e w' => e = .returned (.int .i64 (s.sync file).2) ∧ IsD w' b (s.sync file).1 ∧ w.grownBy w' (some b) := by
  have hap := fun W (hW : Below w.heap.size w W) => sync_c b s file W (hd.later hW) hg.2.2.1
  obtain ⟨r, hr⟩ : ∃ r, s.sync file = r := ⟨_, rfl⟩
  rw [hr] at hap ⊢
  clear hr
  have HAP := Lib.hid hap
  clear hap
  have hno := jnone_c jb b file w hc
  have c0 := row_cell hc 0 rfl
  have c1 := row_cell hc 1 rfl
  go_enter Try.func19, Try.ntmps19
  go_wp2_with fail
  refine hno.mono ?_
  rintro e wn ⟨rfl, rfl⟩
  clear hno
  go_wp2_with fail
  refine mix_begin 10 (Held fun w' => w'.cell? ⟨jb, 0, none⟩ = some (.pointer (some ⟨b, 0, none⟩)) ∧ w'.cell? ⟨jb, 1, none⟩ = some (.int .i64 file)) (by kernel_rfl) (by kernel_rfl) (Held.mk ⟨c0, c1⟩) (fun hS => ?_)
  refine mix_take (v := ?_) 0 rfl (by decide) (by kernel_rfl) (by kernel_rfl) (fun _ _ _ h => h) hS rfl ?_ ?_
  rotate_left
  · (intro w' hw'; first | (go_simp; done) | (go_simp; with_reducible rfl) | (obtain ⟨g0, g1⟩ := hw'.out; first | (go_simp; done) | (go_simp; with_reducible rfl)))
  simp only [Act.put, List.setIfInBounds_toArray, List.set_cons_zero, List.set_cons_succ]
  refine mix_take (v := ?_) 1 rfl (by decide) (by kernel_rfl) (by kernel_rfl) (fun _ _ _ h => h) hS rfl ?_ ?_
  rotate_left
  · (intro w' hw'; first | (go_simp; done) | (go_simp; with_reducible rfl) | (obtain ⟨g0, g1⟩ := hw'.out; first | (go_simp; done) | (go_simp; with_reducible rfl)))
  simp only [Act.put, List.setIfInBounds_toArray, List.set_cons_zero, List.set_cons_succ]
  refine mix_take (v := ?_) 2 rfl (by decide) (by kernel_rfl) (by kernel_rfl) (fun _ _ _ h => h) hS rfl ?_ ?_
  rotate_left
  · (intro w' hw'; first | (go_simp; done) | (go_simp; with_reducible rfl) | (obtain ⟨g0, g1⟩ := hw'.out; first | (go_simp; done) | (go_simp; with_reducible rfl)))
  simp only [Act.put, List.setIfInBounds_toArray, List.set_cons_zero, List.set_cons_succ]
  refine mix_take (v := ?_) 3 rfl (by decide) (by kernel_rfl) (by kernel_rfl) (fun _ _ _ h => h) hS rfl ?_ ?_
  rotate_left
  · (intro w' hw'; first | (go_simp; done) | (go_simp; with_reducible rfl) | (obtain ⟨g0, g1⟩ := hw'.out; first | (go_simp; done) | (go_simp; with_reducible rfl)))
  simp only [Act.put, List.setIfInBounds_toArray, List.set_cons_zero, List.set_cons_succ]
  refine mix_take (v := ?_) 4 rfl (by decide) (by kernel_rfl) (by kernel_rfl) (fun _ _ _ h => h) hS rfl ?_ ?_
  rotate_left
  · (intro w' hw'; first | (go_simp; done) | (go_simp; with_reducible rfl) | (obtain ⟨g0, g1⟩ := hw'.out; first | (go_simp; done) | (go_simp; with_reducible rfl)))
  simp only [Act.put, List.setIfInBounds_toArray, List.set_cons_zero, List.set_cons_succ]
  refine mix_take (v := ?_) 5 rfl (by decide) (by kernel_rfl) (by kernel_rfl) (fun _ _ _ h => h) hS rfl ?_ ?_
  rotate_left
  · (intro w' hw'; first | (go_simp; done) | (go_simp; with_reducible rfl) | (obtain ⟨g0, g1⟩ := hw'.out; first | (go_simp; done) | (go_simp; with_reducible rfl)))
  simp only [Act.put, List.setIfInBounds_toArray, List.set_cons_zero, List.set_cons_succ]
  refine mix_take (v := ?_) 6 rfl (by decide) (by kernel_rfl) (by kernel_rfl) (fun _ _ _ h => h) hS rfl ?_ ?_
  rotate_left
  · (intro w' hw'; first | (go_simp; done) | (go_simp; with_reducible rfl) | (obtain ⟨g0, g1⟩ := hw'.out; first | (go_simp; done) | (go_simp; with_reducible rfl)))
  simp only [Act.put, List.setIfInBounds_toArray, List.set_cons_zero, List.set_cons_succ]
  refine mix_take (v := ?_) 7 rfl (by decide) (by kernel_rfl) (by kernel_rfl) (fun _ _ _ h => h) hS rfl ?_ ?_
  rotate_left
  · (intro w' hw'; first | (go_simp; done) | (go_simp; with_reducible rfl) | (obtain ⟨g0, g1⟩ := hw'.out; first | (go_simp; done) | (go_simp; with_reducible rfl)))
  simp only [Act.put, List.setIfInBounds_toArray, List.set_cons_zero, List.set_cons_succ]
  refine mix_take (v := ?_) 8 rfl (by decide) (by kernel_rfl) (by kernel_rfl) (fun _ _ _ h => h) hS rfl ?_ ?_
  rotate_left
  · (intro w' hw'; first | (go_simp; done) | (go_simp; with_reducible rfl) | (obtain ⟨g0, g1⟩ := hw'.out; first | (go_simp; done) | (go_simp; with_reducible rfl)))
  simp only [Act.put, List.setIfInBounds_toArray, List.set_cons_zero, List.set_cons_succ]
  refine mix_take (v := ?_) 9 rfl (by decide) (by kernel_rfl) (by kernel_rfl) (fun _ _ _ h => h) hS rfl ?_ ?_
  rotate_left
  · (intro w' hw'; first | (go_simp; done) | (go_simp; with_reducible rfl) | (obtain ⟨g0, g1⟩ := hw'.out; first | (go_simp; done) | (go_simp; with_reducible rfl)))
  simp only [Act.put, List.setIfInBounds_toArray, List.set_cons_zero, List.set_cons_succ]
  refine mix_done (by kernel_rfl) ?_
  simp only [List.drop_succ_cons, List.drop_zero]
  clear hS c0 c1
  go_wp2_with fail
  refine (HAP.out _ (below_drew w)).mono ?_
  rintro e w1 ⟨rfl, hd1, hg1⟩
  go_wp2_with fail
  go_ret
  exact ⟨rfl, hd1, grown_trans (grown_of_below (below_drew w)) hg1⟩
theorem jsync_no (v : Value) (w : World) (h : NoJ w v) : Calls Try.prog 19 #[v] w fun e w' => e = .returned (.int .i64 1) ∧ w = w' := by
  have hno := jnone_no v w h
  go_enter Try.func19, Try.ntmps19
  go_wp2_with fail
  refine hno.mono ?_
  rintro e wn ⟨rfl, rfl⟩
  go_wp2_with fail
  go_ret
  exact ⟨rfl, rfl⟩
theorem jfile_c (jb b : Nat) (file : Int) (w : World) (hc : JC w jb b file) : Calls Try.prog 24 #[.pointer (some ⟨jb, 0, none⟩)] w fun e w' => e = .returned (.int .i64 file) ∧ w = w' := by
  have hno := jnone_c jb b file w hc
  have c1 := row_cell hc 1 rfl
  go_enter Try.func24, Try.ntmps24
  go_wp2_with fail
  refine hno.mono ?_
  rintro e wn ⟨rfl, rfl⟩
  go_wp2_with fail
  go_ret
  exact ⟨rfl, rfl⟩
theorem jfile_no (v : Value) (w : World) (h : NoJ w v) : Calls Try.prog 24 #[v] w fun e w' => e = .returned (.int .i64 0) ∧ w = w' := by
  have hno := jnone_no v w h
  go_enter Try.func24, Try.ntmps24
  go_wp2_with fail
  refine hno.mono ?_
  rintro e wn ⟨rfl, rfl⟩
  go_wp2_with fail
  go_ret
  exact ⟨rfl, rfl⟩
set_option maxRecDepth 100000 in
theorem jlog_no (v : Value) (a : Option Addr) (n cap : Nat) (w : World) (h : NoJ w v) : Calls Try.prog 12 #[v, .slice a n cap] w fun e w' => e = .returned (.int .i64 1) ∧ Below w.heap.size w w' := by
  obtain ⟨p, rfl⟩ : ∃ p, v = .pointer p := by
    rcases h with rfl | ⟨jb, rfl, _⟩
    · exact ⟨_, rfl⟩
    · exact ⟨_, rfl⟩
  have hbb := fun A B => below_then (below_alloc w A) (below_alloc (w.alloc A) B)
  have hno := fun W (hW : Below w.heap.size w W) => jnone_no _ W (h.later hW)
  have HNO := Lib.hid hno
  clear hno h
  go_enter Try.func12, Try.ntmps12
  go_wp2_with fail
  refine (HNO.out _ (hbb _ _)).mono ?_
  rintro e wn ⟨rfl, hwn⟩
  have hb : Below w.heap.size w wn := by rw [← hwn]; exact hbb _ _
  clear hwn
  go_wp2_with fail
  go_ret
  exact ⟨rfl, hb⟩
end Go.Proofs.Ytknndpncdnhnpaa
