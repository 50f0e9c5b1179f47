import Derived.Test.YtknndpncdnhnpaaJouE
section
namespace Go.Proofs.Ytknndpncdnhnpaa
open Go.RowKit Go.Cas
set_option linter.unusedSimpArgs false
set_option linter.unusedVariables false
attribute [local go_sem] Oper.semAt_some

theorem enter_sums : ∀ args w, (callFunc 54 args).run Try.prog w = .ok (.enter 54 args) w := enters_of Try.func54 (by kernel_rfl) rfl
set_option maxRecDepth 100000 in
set_option maxHeartbeats 1000000 in
theorem told_c (jb b : Nat) (file : Int) (s : DS) (w : World) (hd : IsD w b s) (hf : s.fine) (hok : fileOk file = true) (hc : JC w jb b file) : Calls Try.prog 53 #[.pointer (some ⟨jb, 0, none⟩), .func (.func 54) #[.pointer (some ⟨jb, 0, none⟩)] #[]] w fun e w' =>
    e = .returned (.agg #[.int .i64 ((framesB (s.fl file)).length : Int), .int .i64 (wholeB (s.fl file) : Int)]) ∧ Below w.heap.size w w' := by
  have hent := enter_sums
  have hb0 := below_alloc w (.cells #[.int .i64 0, .int .i64 0] 36)
  have hX := heap_alloc_new w (.cells #[.int .i64 0, .int .i64 0] 36)
  have hn := jnone_c jb b file _ (row_later hc hb0)
  have hs := sums_c jb b file s _ (hd.later hb0) hf hok (row_later hc hb0)
  obtain ⟨x, hx⟩ : ∃ x, ((framesB (s.fl file)).length : Int) = x := ⟨_, rfl⟩
  obtain ⟨y, hy⟩ : ∃ y, (wholeB (s.fl file) : Int) = y := ⟨_, rfl⟩
  rw [hx, hy] at hs
  rw [hx, hy]
  have HS := Lib.hid hs
  have HX := Lib.hid hX
  have HB0 := Lib.hid hb0
  clear hx hy hs hX hb0 hd hf hok hc
  go_enter Try.func53, Try.ntmps53
  go_wp2_with fail
  refine hn.mono ?_
  rintro e wn ⟨rfl, rfl⟩
  clear hn
  go_wp2_with fail
  refine HS.out.mono ?_
  rintro e w2 ⟨rfl, hb2⟩
  have hX2 := row_later HX.out hb2
  have hb02 := below_then HB0.out hb2
  have z0 := row_fz hX2
  have x0 := row_cell hX2 0 rfl
  have x1 := row_cell hX2 1 rfl
  go_wp2_with fail
  have hq := row_set (cs' := #[.int .i64 x, .int .i64 y]) (row_set (cs' := #[.int .i64 x, .int .i64 0]) hX2 0 (.int .i64 x) rfl) 1 (.int .i64 y) rfl
  refine bodyPost_ret_by (results_cell_row rfl _ _ w.heap.size 36 _ (0, 0) _ rfl hq Try.underlying36 rfl (by kernel_rfl)) rfl ⟨rfl, (hb02.setCell (Nat.le_refl _) _).setCell (Nat.le_refl _) _⟩
set_option maxRecDepth 100000 in
set_option maxHeartbeats 1000000 in
theorem told_no (v v' : Value) (w : World) (h : NoJ w v) : Calls Try.prog 53 #[v, v'] w fun e w' =>
    e = .returned (.agg #[.int .i64 0, .int .i64 0]) ∧ Below w.heap.size w w' := by
  have hb0 := below_alloc w (.cells #[.int .i64 0, .int .i64 0] 36)
  have hX := heap_alloc_new w (.cells #[.int .i64 0, .int .i64 0] 36)
  have hn := jnone_no v _ (h.later hb0)
  have x0 := row_cell hX 0 rfl
  have x1 := row_cell hX 1 rfl
  have z0 := row_fz hX
  have HX := Lib.hid hX
  have HB0 := Lib.hid hb0
  clear hX hb0 h
  go_enter Try.func53, Try.ntmps53
  go_wp2_with fail
  refine hn.mono ?_
  rintro e wn ⟨rfl, rfl⟩
  clear hn
  go_wp2_with fail
  exact bodyPost_ret_by (results_cell_row rfl _ _ w.heap.size 36 _ (0, 0) _ rfl HX.out Try.underlying36 rfl (by kernel_rfl)) rfl ⟨rfl, HB0.out⟩
theorem jx0 (x y : Value) (w : World) : (Instr.index 36 (.agg #[x, y]) (.int .i64 0)).run Try.prog w = .ok x w := by kernel_rfl
theorem jx1 (x y : Value) (w : World) : (Instr.index 36 (.agg #[x, y]) (.int .i64 1)).run Try.prog w = .ok y w := by kernel_rfl
set_option maxRecDepth 100000 in
set_option maxHeartbeats 1000000 in
theorem jlen_c (jb b : Nat) (file : Int) (s : DS) (w : World) (hd : IsD w b s) (hf : s.fine) (hok : fileOk file = true) (hc : JC w jb b file) : Calls Try.prog 22 #[.pointer (some ⟨jb, 0, none⟩)] w fun e w' =>
    e = .returned (.int .i64 ((framesB (s.fl file)).length : Int)) ∧ Below w.heap.size w w' := by
  have hx0 := jx0
  have hx1 := jx1
  have ht := told_c jb b file s w hd hf hok hc
  obtain ⟨x, hx⟩ : ∃ x, ((framesB (s.fl file)).length : Int) = x := ⟨_, rfl⟩
  obtain ⟨y, hy⟩ : ∃ y, (wholeB (s.fl file) : Int) = y := ⟨_, rfl⟩
  rw [hx, hy] at ht
  first | rw [hx] | rw [hy]
  clear hx hy hd hf hok hc
  go_enter Try.func22, Try.ntmps22
  go_wp2_with fail
  refine ht.mono ?_
  rintro e w2 ⟨rfl, hb2⟩
  go_wp2_with fail
  go_ret
  exact ⟨rfl, hb2⟩
set_option maxRecDepth 100000 in
set_option maxHeartbeats 1000000 in
theorem jsize_c (jb b : Nat) (file : Int) (s : DS) (w : World) (hd : IsD w b s) (hf : s.fine) (hok : fileOk file = true) (hc : JC w jb b file) : Calls Try.prog 23 #[.pointer (some ⟨jb, 0, none⟩)] w fun e w' =>
    e = .returned (.int .i64 (wholeB (s.fl file) : Int)) ∧ Below w.heap.size w w' := by
  have hx0 := jx0
  have hx1 := jx1
  have ht := told_c jb b file s w hd hf hok hc
  obtain ⟨x, hx⟩ : ∃ x, ((framesB (s.fl file)).length : Int) = x := ⟨_, rfl⟩
  obtain ⟨y, hy⟩ : ∃ y, (wholeB (s.fl file) : Int) = y := ⟨_, rfl⟩
  rw [hx, hy] at ht
  first | rw [hx] | rw [hy]
  clear hx hy hd hf hok hc
  go_enter Try.func23, Try.ntmps23
  go_wp2_with fail
  refine ht.mono ?_
  rintro e w2 ⟨rfl, hb2⟩
  go_wp2_with fail
  go_ret
  exact ⟨rfl, hb2⟩
set_option maxRecDepth 100000 in
set_option maxHeartbeats 1000000 in
theorem jlen_no (v : Value) (w : World) (h : NoJ w v) : Calls Try.prog 22 #[v] w fun e w' => e = .returned (.int .i64 0) ∧ Below w.heap.size w w' := by
  have hx0 := jx0
  have hx1 := jx1
  have ht := told_no v (.func (.func 54) #[v] #[]) w h
  clear h
  go_enter Try.func22, Try.ntmps22
  go_wp2_with fail
  refine ht.mono ?_
  rintro e w2 ⟨rfl, hb2⟩
  go_wp2_with fail
  go_ret
  exact ⟨rfl, hb2⟩
set_option maxRecDepth 100000 in
set_option maxHeartbeats 1000000 in
theorem jsize_no (v : Value) (w : World) (h : NoJ w v) : Calls Try.prog 23 #[v] w fun e w' => e = .returned (.int .i64 0) ∧ Below w.heap.size w w' := by
  have hx0 := jx0
  have hx1 := jx1
  have ht := told_no v (.func (.func 54) #[v] #[]) w h
  clear h
  go_enter Try.func23, Try.ntmps23
  go_wp2_with fail
  refine ht.mono ?_
  rintro e w2 ⟨rfl, hb2⟩
  go_wp2_with fail
  go_ret
  exact ⟨rfl, hb2⟩
end Go.Proofs.Ytknndpncdnhnpaa
end
section
namespace Go.Proofs.Ytknndpncdnhnpaa
open Go.RowKit Go.Cas
set_option linter.unusedSimpArgs false
set_option linter.unusedVariables false
attribute [local go_sem] Oper.semAt_some

theorem num8_c (n : Int) (w : World) : Calls Try.prog 11 #[.int .i64 n] w fun e w' => e = .returned (.int .i64 n) ∧ w = w' := by
  go_enter Try.func11, Try.ntmps11
  go_wp2
  go_ret
  exact ⟨rfl, rfl⟩
def jF1 : List UInt8 := [2, 97, 98, 35, 159, 87, 238]
def jF2 : List UInt8 := [2, 97, 98, 35, 159, 87, 238, 1, 99, 140, 121, 19, 92]
def jF3 : List UInt8 := [2, 97, 98, 35, 159, 87, 238, 1]
def jF4 : List UInt8 := jF1 ++ frameB (List.replicate 28 0)
def jA : DS := ⟨40, 0, -1, jF1, 0, [], 0⟩
def jB : DS := ⟨40, 0, -1, jF2, 0, [], 0⟩
def jC : DS := ⟨40, 0, -1, jF3, 8, [], 0⟩
def jD : DS := ⟨40, 0, -1, jF1, 7, [], 0⟩
def jE : DS := ⟨40, 0, -1, jF4, 7, [], 0⟩
theorem e8o : jopen (ds0 40) 0 = (ds0 40, 0) := by rfl
theorem e8A : jlog (ds0 40) 0 [97, 98] = (jA, 0) := by rfl
theorem e8B : jlog jA 0 [99] = (jB, 0) := by rfl
theorem e8C : jB.crash 8 0 = (jC, 0) := by rfl
theorem e8D : jopen jC 0 = (jD, 0) := by rfl
theorem e8E : jlog jD 0 (List.replicate 28 0) = (jE, 0) := by rfl
theorem e8F : jlog jE 0 (List.replicate 32 0) = (jE, 170) := by rfl
theorem e8l : (framesB (jB.fl 0)).length = 2 := by rfl
theorem e8s : wholeB (jB.fl 0) = 13 := by rfl
theorem e8m : (framesB (jD.fl 0)).length = 1 := by rfl
theorem e8t : wholeB (jD.fl 0) = 7 := by rfl
theorem g40 : (ds0 40).good := ⟨⟨Nat.le_refl _, Nat.le_refl _, by decide, by decide⟩, by decide, by decide, by decide⟩
theorem gA : jA.good := ⟨⟨by decide, by decide, by decide, by decide⟩, by decide, by decide, by decide⟩
theorem gB : jB.good := ⟨⟨by decide, by decide, by decide, by decide⟩, by decide, by decide, by decide⟩
theorem gC : jC.good := ⟨⟨by decide, by decide, by decide, by decide⟩, by decide, by decide, by decide⟩
theorem gD : jD.good := ⟨⟨by decide, by decide, by decide, by decide⟩, by decide, by decide, by decide⟩
theorem gE : jE.good := ⟨⟨by decide, by decide, by decide, by decide⟩, by decide, by decide, by decide⟩
theorem JC.later {w w' : World} {jb b : Nat} {file : Int} (h : JC w jb b file) (hb : Below w.heap.size w w') : JC w' jb b file := row_later h hb
theorem JC.grown {w w' : World} {jb b : Nat} {file : Int} (h : JC w jb b file) (hg : w.grownBy w' (some b)) (hne : jb ≠ b) : JC w' jb b file := row_grown h hg hne
theorem bg {B : Nat} {a c d : World} (h : Below B a c) (hs : B ≤ a.heap.size) (hg : c.grownBy d (some B)) : Below B a d := h.grown hg (by have := h.size; omega) (fun k hk => by cases hk; exact Nat.le_refl _)
set_option maxRecDepth 100000 in
set_option maxHeartbeats 8000000 in
theorem works08_c (w : World) : Calls Try.prog 8 #[] w fun e w' => e = .returned (.bool true) ∧ Below w.heap.size w w' := by
  have hcc := fun (W : World) (C : Array Value) (n c : Nat) => Lib.run_convert_bytes_const (P := Try.prog) W 32 5 C n c Try.underlying32 Try.underlying5
  have hmk28 := fun W : World => make_bytes W 28 (x := 28) rfl (by decide)
  have hmk32 := fun W : World => make_bytes W 32 (x := 32) rfl (by decide)
  obtain ⟨cs28, h28⟩ := Classical.axiomOfChoice hmk28
  obtain ⟨cs32, h32⟩ := Classical.axiomOfChoice hmk32
  have hm28 := fun W => (h28 W).1
  have hm32 := fun W => (h32 W).1
  have hc28 := Lib.hid (fun W => (h28 W).2)
  have hc32 := Lib.hid (fun W => (h32 W).2)
  clear hmk28 hmk32 h28 h32
  obtain ⟨b, hb⟩ : ∃ b, w.heap.size = b := ⟨_, rfl⟩
  have hnew := new_c 40 w (by decide) (by decide)
  rw [hb] at hnew ⊢
  go_enter Try.func8, Try.ntmps8
  go_wp2_with fail
  refine hnew.mono ?_
  rintro e w1 ⟨rfl, hd1, hb1⟩
  clear hnew
  have hz1 : b ≤ w1.heap.size := Nat.le_of_lt hd1.lt
  have hop := jopen_c b _ 0 w1 hd1 g40 rfl
  unfold Opened at hop
  rw [e8o] at hop
  go_wp2_with fail
  refine hop.mono ?_
  rintro e w2 ⟨⟨-, jb, rfl, hj2, hjb⟩ | ⟨h0, -⟩, hd2, hg2⟩
  case inr => exact absurd rfl h0
  have hne : jb ≠ b := by have := hd1.lt; omega
  have hb2 := bg hb1 (by omega) hg2
  clear hop hb1 hd1 hg2 hjb
  have hsz2 := hd2.lt
  have hal := below_alloc w2 (.cells #[.int .u8 97, .int .u8 98] 5 (2, 3))
  have hlg := jlog_c jb b 0 _ (some ⟨w2.heap.size, 0, none⟩) 2 2 [97, 98] (by decide) _ (hd2.later hal) g40 (hj2.later hal) (lit2 w2 97 98 (2, 3))
  have hj3 := hj2.later hal
  have hb3 := hb2.trans (hal.mono (Nat.le_of_lt hsz2))
  rw [e8A] at hlg
  clear hj2 hd2 hb2 hal
  go_wp2_with (first | (go_at_call 11; refine (num8_c _ _).mono ?_; rintro e w' ⟨rfl, rfl⟩))
  refine hlg.mono ?_
  rintro e w3 ⟨rfl, hd3, hg3⟩
  have hj4 := hj3.grown hg3 hne
  have hb4 := bg hb3 (by omega) hg3
  clear hlg hj3 hb3 hg3
  have hsz3 := hd3.lt
  have hal := below_alloc w3 (.cells #[.int .u8 99] 5 (1, 2))
  have hlg := jlog_c jb b 0 _ (some ⟨w3.heap.size, 0, none⟩) 1 1 [99] (by decide) _ (hd3.later hal) gA (hj4.later hal) (lit1 w3 99 (1, 2))
  have hj5 := hj4.later hal
  have hb5 := hb4.trans (hal.mono (Nat.le_of_lt hsz3))
  rw [e8B] at hlg
  clear hj4 hd3 hb4 hal
  go_wp2_with (first | (go_at_call 11; refine (num8_c _ _).mono ?_; rintro e w' ⟨rfl, rfl⟩))
  refine hlg.mono ?_
  rintro e w4 ⟨rfl, hd4, hg4⟩
  have hj6 := hj5.grown hg4 hne
  have hb6 := bg hb5 (by omega) hg4
  clear hlg hj5 hb5 hg4
  have hle := jlen_c jb b 0 _ w4 hd4 gB.1 rfl hj6
  rw [e8l] at hle
  go_wp2_with (first | (go_at_call 11; refine (num8_c _ _).mono ?_; rintro e w' ⟨rfl, rfl⟩))
  refine hle.mono ?_
  rintro e w5 ⟨rfl, hbl⟩
  have hd5 := hd4.later hbl
  have hj7 := hj6.later hbl
  have hb7 := hb6.trans (hbl.mono (Nat.le_of_lt hd4.lt))
  clear hle hbl hb6 hj6 hd4
  have hle := jsize_c jb b 0 _ w5 hd5 gB.1 rfl hj7
  rw [e8s] at hle
  go_wp2_with (first | (go_at_call 11; refine (num8_c _ _).mono ?_; rintro e w' ⟨rfl, rfl⟩))
  refine hle.mono ?_
  rintro e w6 ⟨rfl, hbl⟩
  have hd6 := hd5.later hbl
  have hb8 := hb7.trans (hbl.mono (Nat.le_of_lt hd5.lt))
  clear hle hbl hb7 hj7 hd5
  have hcr := crash_c b jB 8 0 w6 hd6 gB.1 (by decide) (by decide)
  rw [e8C] at hcr
  go_wp2_with (first | (go_at_call 11; refine (num8_c _ _).mono ?_; rintro e w' ⟨rfl, rfl⟩))
  refine hcr.mono ?_
  rintro e w7 ⟨rfl, hd7, hg7⟩
  have hb9 := bg hb8 (by omega) hg7
  clear hcr hg7 hb8 hd6
  have hop := jopen_c b _ 0 w7 hd7 gC rfl
  unfold Opened at hop
  rw [e8D] at hop
  go_wp2_with (first | (go_at_call 11; refine (num8_c _ _).mono ?_; rintro e w' ⟨rfl, rfl⟩))
  refine hop.mono ?_
  rintro e w8 ⟨⟨-, kb, rfl, hk8, hkb⟩ | ⟨h0, -⟩, hd8, hg8⟩
  case inr => exact absurd rfl h0
  have hne2 : kb ≠ b := by have := hd7.lt; omega
  have hb10 := bg hb9 (by omega) hg8
  clear hop hb9 hd7 hg8 hkb
  have hle := jlen_c kb b 0 _ w8 hd8 gD.1 rfl hk8
  rw [e8m] at hle
  go_wp2_with (first | (go_at_call 11; refine (num8_c _ _).mono ?_; rintro e w' ⟨rfl, rfl⟩))
  refine hle.mono ?_
  rintro e w9 ⟨rfl, hbl⟩
  have hd9 := hd8.later hbl
  have hk9 := hk8.later hbl
  have hb11 := hb10.trans (hbl.mono (Nat.le_of_lt hd8.lt))
  clear hle hbl hb10 hk8 hd8
  have hle := jsize_c kb b 0 _ w9 hd9 gD.1 rfl hk9
  rw [e8t] at hle
  go_wp2_with (first | (go_at_call 11; refine (num8_c _ _).mono ?_; rintro e w' ⟨rfl, rfl⟩))
  refine hle.mono ?_
  rintro e w10 ⟨rfl, hbl⟩
  have hd10 := hd9.later hbl
  have hk10 := hk9.later hbl
  have hb12 := hb11.trans (hbl.mono (Nat.le_of_lt hd9.lt))
  clear hle hbl hb11 hk9 hd9
  have hsz10 := hd10.lt
  have hal := below_alloc w10 (.cells (cs28 w10) 5)
  have hlg := jlog_c kb b 0 _ (some ⟨w10.heap.size, 0, none⟩) 28 28 (List.replicate 28 0) (by decide) _ (hd10.later hal) gD (hk10.later hal) (IsB_fresh w10 _ _ 28 rfl (by decide) (hc28.out w10))
  have hk11 := hk10.later hal
  have hb13 := hb12.trans (hal.mono (Nat.le_of_lt hsz10))
  rw [e8E] at hlg
  clear hk10 hd10 hb12 hal
  go_wp2_with (first | (go_at_call 11; refine (num8_c _ _).mono ?_; rintro e w' ⟨rfl, rfl⟩))
  refine hlg.mono ?_
  rintro e w11 ⟨rfl, hd11, hg11⟩
  have hk12 := hk11.grown hg11 hne2
  have hb14 := bg hb13 (by omega) hg11
  clear hlg hk11 hb13 hg11
  have hsz11 := hd11.lt
  have hal := below_alloc w11 (.cells (cs32 w11) 5)
  have hlg := jlog_c kb b 0 _ (some ⟨w11.heap.size, 0, none⟩) 32 32 (List.replicate 32 0) (by decide) _ (hd11.later hal) gE (hk12.later hal) (IsB_fresh w11 _ _ 32 rfl (by decide) (hc32.out w11))
  have hb15 := hb14.trans (hal.mono (Nat.le_of_lt hsz11))
  rw [e8F] at hlg
  clear hk12 hd11 hb14 hal
  go_wp2_with (first | (go_at_call 11; refine (num8_c _ _).mono ?_; rintro e w' ⟨rfl, rfl⟩))
  refine hlg.mono ?_
  rintro e w12 ⟨rfl, hd12, hg12⟩
  have hb16 := bg hb15 (by omega) hg12
  go_wp2_with (first | (go_at_call 11; refine (num8_c _ _).mono ?_; rintro e w' ⟨rfl, rfl⟩))
  go_ret
  exact ⟨rfl, hb16⟩
end Go.Proofs.Ytknndpncdnhnpaa
end
section
namespace Go.Proofs.Ytknndpncdnhnpaa
open Go.RowKit Go.Cas
set_option linter.unusedSimpArgs false
set_option linter.unusedVariables false
attribute [local go_sem] Oper.semAt_some

theorem g70 : (ds0 70000).good := ⟨⟨Nat.le_refl _, Nat.le_refl _, by decide, by decide⟩, by decide, by decide, by decide⟩
theorem e70o : jopen (ds0 70000) 0 = (ds0 70000, 0) := by
  have : wholeB ([] : List UInt8) = 0 := wholeB_nil
  simp [jopen, fileOk, ds0, DS.fl, this]
/-- what a record tells of its length -/
theorem jlog_len (l : List UInt8) : (jlog (ds0 70000) 0 l).2 = if l.length ≤ 65536 then 0 else 3 := by
  unfold jlog
  split
  · rename_i hle
    have h3 := numB_len l.length
    have h4 := frameB_len l
    have : ¬ ((70000 : Int) - ((frameB l).length : Int) < 0) := by omega
    simp [DS.append, fileOk, ds0, DS.fl, this]
  · rfl
set_option maxRecDepth 100000 in
set_option maxHeartbeats 4000000 in
theorem journalLong_c (more : Int) (w : World) (_h : (Lit.int .i64 more).wf = true) : Calls Try.prog 3 #[.int .i64 more] w fun e w' => e = .returned (.bool true) ∧ Below w.heap.size w w' := by
  have HW := Lib.hid (works08_c)
  by_cases hlo : more < -1
  · have m0 : decide (more < -1) = true := by simpa using hlo
    clear hlo
    go_enter Try.func3, Try.ntmps3
    go_wp2_with fail
    refine (HW.out _).mono ?_
    rintro e w1 ⟨rfl, hb1⟩
    go_wp2_with fail
    go_ret
    exact ⟨rfl, hb1⟩
  by_cases hhi : 1 < more
  · have m0 : decide (more < -1) = false := by simpa using hlo
    have m1 : decide (1 < more) = true := by simpa using hhi
    clear hlo hhi
    go_enter Try.func3, Try.ntmps3
    go_wp2_with fail
    refine (HW.out _).mono ?_
    rintro e w1 ⟨rfl, hb1⟩
    go_wp2_with fail
    go_ret
    exact ⟨rfl, hb1⟩
  have m0 : decide (more < -1) = false := by simpa using hlo
  have m1 : decide (1 < more) = false := by simpa using hhi
  obtain ⟨n, hn⟩ : ∃ n : Nat, (n : Int) = 65536 + more := ⟨(65536 + more).toNat, by omega⟩
  have hwr : IntKind.i64.wrap (65536 + more) = 65536 + more := i64_in (by omega) (by omega)
  have hn40 : n ≤ 2 ^ 40 := by omega
  have hmk := fun W : World => make_bytes W n (x := 65536 + more) hn.symm hn40
  obtain ⟨cs, hc⟩ := Classical.axiomOfChoice hmk
  have hm := fun W => (hc W).1
  have hC := Lib.hid (fun W => (hc W).2)
  clear hmk hc
  obtain ⟨l, hl⟩ : ∃ l, List.replicate n (0 : UInt8) = l := ⟨_, rfl⟩
  have hll : l.length = n := by rw [← hl, List.length_replicate]
  rw [hl] at hC
  have hno := jlog_len l
  rw [hll] at hno
  obtain ⟨r, hr⟩ : ∃ r, jlog (ds0 70000) 0 l = r := ⟨_, rfl⟩
  obtain ⟨r1, r2⟩ := r
  rw [hr] at hno
  have hfin : (more = 1 ∧ r2 = 3) ∨ (more ≠ 1 ∧ r2 = 0) := by
    simp only at hno
    by_cases h1 : more = 1
    · exact .inl ⟨h1, by rw [hno, if_neg (by omega)]⟩
    · exact .inr ⟨h1, by rw [hno, if_pos (by omega)]⟩
  have hml : n ≤ maxLen := by unfold maxLen; omega
  clear hl hno hlo hhi
  have HN := Lib.hid hn
  clear hn
  obtain ⟨b, hb⟩ : ∃ b, w.heap.size = b := ⟨_, rfl⟩
  have hnew := new_c 70000 w (by decide) (by decide)
  rw [hb] at hnew ⊢
  go_enter Try.func3, Try.ntmps3
  go_wp2_with fail
  refine hnew.mono ?_
  rintro e w1 ⟨rfl, hd1, hb1⟩
  clear hnew
  have hz1 : b ≤ w1.heap.size := Nat.le_of_lt hd1.lt
  have hop := jopen_c b _ 0 w1 hd1 g70 rfl
  unfold Opened at hop
  rw [e70o] at hop
  go_wp2_with fail
  refine hop.mono ?_
  rintro e w2 ⟨⟨-, jb, rfl, hj2, hjb⟩ | ⟨h0, -⟩, hd2, hg2⟩
  case inr => exact absurd rfl h0
  have hne : jb ≠ b := by have := hd1.lt; omega
  have hb2 := bg hb1 (by omega) hg2
  clear hop hb1 hd1 hg2 hjb
  have hsz2 := hd2.lt
  have hal := below_alloc w2 (.cells (cs w2) 5)
  have hlg := jlog_c jb b 0 _ (some ⟨w2.heap.size, 0, none⟩) n n l hn40 _ (hd2.later hal) g70 (hj2.later hal) (IsB_fresh w2 _ _ n hll hml (hC.out w2))
  have hb3 := hb2.trans (hal.mono (Nat.le_of_lt hsz2))
  rw [hr] at hlg
  clear hj2 hd2 hb2 hal hr
  rcases hfin with ⟨h1, rfl⟩ | ⟨h1, rfl⟩
  · have m2 : (more == 1) = true := by simpa using h1
    clear h1
    go_wp2_with (first | (go_at_call 11; refine (num8_c _ _).mono ?_; rintro e w' ⟨rfl, rfl⟩))
    refine hlg.mono ?_
    rintro e w3 ⟨rfl, hd3, hg3⟩
    have hb4 := bg hb3 (by omega) hg3
    go_wp2_with (first | (go_at_call 11; refine (num8_c _ _).mono ?_; rintro e w' ⟨rfl, rfl⟩))
    refine (HW.out _).mono ?_
    rintro e w4 ⟨rfl, hbw⟩
    go_wp2_with fail
    go_ret
    exact ⟨rfl, hb4.trans (hbw.mono (Nat.le_of_lt hd3.lt))⟩
  · have m2 : (more == 1) = false := by simpa using h1
    clear h1
    go_wp2_with (first | (go_at_call 11; refine (num8_c _ _).mono ?_; rintro e w' ⟨rfl, rfl⟩))
    refine hlg.mono ?_
    rintro e w3 ⟨rfl, hd3, hg3⟩
    have hb4 := bg hb3 (by omega) hg3
    go_wp2_with (first | (go_at_call 11; refine (num8_c _ _).mono ?_; rintro e w' ⟨rfl, rfl⟩))
    refine (HW.out _).mono ?_
    rintro e w4 ⟨rfl, hbw⟩
    go_wp2_with fail
    go_ret
    exact ⟨rfl, hb4.trans (hbw.mono (Nat.le_of_lt hd3.lt))⟩
end Go.Proofs.Ytknndpncdnhnpaa
end
section
namespace Go.Proofs.Ytknndpncdnhnpaa
open Go.RowKit Go.Cas
set_option linter.unusedSimpArgs false
set_option linter.unusedVariables false
attribute [local go_sem] Oper.semAt_some

theorem eql_nilfunc8 (f : Nat) (lb : Array Value) (w : World) : (binOp BinOp.eql 52 (.func (.func f) #[] lb) .nilFunc).run Try.prog w = .ok (.bool false) w := by
  kernel_rfl
theorem zero_jou (w : World) : (Instr.build 59 #[]).run Try.prog w = .ok (.agg #[.pointer none, .int .i64 0]) w := by kernel_rfl
set_option maxRecDepth 100000 in
set_option maxHeartbeats 1000000 in
theorem jopen_nil (file : Int) (w : World) : Calls Try.prog 10 #[.pointer none, .int .i64 file] w fun e w' => e = .returned (.tuple #[.pointer none, .int .i64 1]) ∧ Below w.heap.size w w' := by
  have h1 := build_place
  have h2 := build_jou
  have hb0 := below_alloc w (.cells #[.pointer none, .int .i64 file] 59)
  have hr := read1 (.pointer none) file (w.alloc (.cells #[.pointer none, .int .i64 file] 59)) (.inl rfl)
  go_enter Try.func10, Try.ntmps10
  go_wp2_with fail
  refine wp_scope_ahead 0 (fun a1 w1 => ∃ T : Array Value, T.size = 38 ∧ T[8]? = some (.int .i64 1) ∧ a1 = { tmps := T, defers := [] } ∧ Below w.heap.size w w1) rfl ?_ ?_
  · go_wp2_with fail
    refine hr.mono ?_
    rintro e w1 ⟨rfl, hb1⟩
    have hwh := whole_c none 0 0 [] (by decide) w1 (IsB.nil w1)
    rw [wholeB_nil] at hwh
    go_wp2_with fail
    refine hwh.mono ?_
    rintro e w2 ⟨rfl, hb2⟩
    go_wp2_with fail
    go_step3
    simp only [Exit.then]
    exact ⟨rfl, _, by rfl, by rfl, rfl, below_then (below_then hb0 hb1) hb2⟩
  · rintro a1 w1 ⟨T, hT, h4, rfl, hb⟩
    obtain ⟨l⟩ := T
    match l, hT, h4 with
    | t0 :: t1 :: t2 :: t3 :: t4 :: t5 :: t6 :: t7 :: t8 :: t9 :: t10 :: t11 :: t12 :: t13 :: t14 :: t15 :: t16 :: t17 :: t18 :: t19 :: t20 :: t21 :: t22 :: t23 :: t24 :: t25 :: t26 :: t27 :: t28 :: t29 :: t30 :: t31 :: t32 :: t33 :: t34 :: t35 :: t36 :: t37 :: [], _, h4 =>
      obtain rfl : t8 = .int .i64 1 := by simpa using h4
      clear h4
      go_wp2_with fail
      simp only [jump_ret]
      go_ret2
      exact ⟨by rfl, hb⟩
theorem g10 : (ds0 10).good := ⟨⟨Nat.le_refl _, Nat.le_refl _, by decide, by decide⟩, by decide, by decide, by decide⟩
theorem e10o (file : Int) (hok : fileOk file = true) : jopen (ds0 10) file = (ds0 10, 0) := by
  have : wholeB ([] : List UInt8) = 0 := wholeB_nil
  simp [jopen, hok, ds0, DS.fl, this]
theorem jopen10 (b : Nat) (file : Int) (w : World) (h : IsD w b (ds0 10)) : Calls Try.prog 10 #[.pointer (some ⟨b, 0, none⟩), .int .i64 file] w fun e w' =>
    ∃ v, e = .returned (.tuple #[v, .int .i64 (if fileOk file = true then 0 else 2)]) ∧ w.grownBy w' (some b) := by
  by_cases hok : fileOk file = true
  · rw [if_pos hok]
    refine (jopen_c b _ file w h g10 hok).mono ?_
    unfold Opened
    rw [e10o file hok]
    rintro e w' ⟨⟨-, jb, rfl, -⟩ | ⟨h0, -⟩, -, hg⟩
    · exact ⟨_, rfl, hg⟩
    · exact absurd rfl h0
  · rw [if_neg hok]
    refine (jopen_bad b _ file w h (by simpa using hok)).mono ?_
    rintro e w' ⟨rfl, hb⟩
    exact ⟨_, rfl, grown_of_below hb⟩
/-- what JournalNone holds on to: the result false in its cell, the zero journal -/
def JN (w0 W : World) (z : Value) : Prop := Below w0.heap.size w0 W ∧ Box W w0.heap.size (.bool false) ∧ NoJ W z
theorem JN.later {w0 W W' : World} {z : Value} (h : JN w0 W z) (hb : Below W.heap.size W W') : JN w0 W' z :=
  ⟨h.1.trans (hb.mono h.1.size), h.2.1.later hb, h.2.2.later hb⟩
theorem zeroJ {W : World} : NoJ (W.alloc (.cells #[.pointer none, .int .i64 0] 59)) (.pointer (some ⟨W.heap.size, 0, none⟩)) :=
  .inr ⟨_, rfl, by unfold World.cell?; rw [heap_alloc_new]; rfl⟩
def JQ (w0 W : World) (z : Value) (D : Nat) : Prop := JN w0 W z ∧ D < W.heap.size ∧ w0.heap.size < D ∧ W.heap[D]? = some (.deferred (some []))
theorem JQ.later {w0 W W' : World} {z : Value} {D : Nat} (h : JQ w0 W z D) (hb : Below W.heap.size W W') : JQ w0 W' z D :=
  ⟨h.1.later hb, Nat.lt_of_lt_of_le h.2.1 hb.size, h.2.2.1, (hb.block _ h.2.1).trans h.2.2.2⟩
/-- what the end asks: true in the result's cell, the marks left -/
theorem JQ.fin {w0 W : World} {z : Value} {D : Nat} (h : JQ w0 W z D) :
    (W.setCell ⟨w0.heap.size, 0, none⟩ (.bool true)).heap[D]? = some (.deferred (some [])) ∧ Below w0.heap.size w0 ((W.setCell ⟨w0.heap.size, 0, none⟩ (.bool true)).putObj D (.deferred none)) ∧
      ((W.setCell ⟨w0.heap.size, 0, none⟩ (.bool true)).putObj D (.deferred none)).cell? ⟨w0.heap.size, 0, none⟩ = some (.bool true) :=
  ⟨(Below.heap_setCell _ _ _ _ (by have := h.2.2.1; simp; omega)).trans h.2.2.2, below_putObj (h.1.1.setCell (by simp) _) (Nat.le_of_lt h.2.2.1) _,
    ((h.1.2.1.set (.bool true)).keep (Keep.putObj (S := fun k => k = D) _ _ (.deferred none) rfl) (by have := h.2.2.1; omega)).cell⟩
theorem recs_nil : recs [] = [] := by rfl
theorem iterW_nil {α β : Type} {P : Program} {g : Nat} {lb : Array Value} {E : Nat → α → Array Value → World → Prop} (E' : Nat → β → Array Value → World → Prop) {R : Nat → Prop} {w : World} (h : IterW P g lb E ([] : List α) R w) : IterW P g lb E' ([] : List β) R w :=
  fun L J Jx W hW hsz hJ hJx _ h0 => h L J Jx W hW hsz hJ hJx (fun i hi => absurd hi (Nat.not_lt_zero _)) h0
theorem recs_none (Bs : Nat) (w : World) (hb : w.cell? ⟨Bs, 0, none⟩ = some (.slice none 0 0)) :
    IterW Try.prog 51 #[.pointer (some ⟨Bs, 0, none⟩)] ENo [] (RSlice Bs none 0) w := by
  have h := recs_iter Bs none 0 0 [] (by decide) w (IsB.nil w) hb
  rw [recs_nil] at h
  exact iterW_nil ENo h
theorem jopen10_0 (b : Nat) (w : World) (h : IsD w b (ds0 10)) : Calls Try.prog 10 #[.pointer (some ⟨b, 0, none⟩), .int .i64 0] w fun e w' => ∃ v, e = .returned (.tuple #[v, .int .i64 0]) ∧ w.grownBy w' (some b) := jopen10 b 0 w h
theorem jopen10_1 (b : Nat) (w : World) (h : IsD w b (ds0 10)) : Calls Try.prog 10 #[.pointer (some ⟨b, 0, none⟩), .int .i64 1] w fun e w' => ∃ v, e = .returned (.tuple #[v, .int .i64 0]) ∧ w.grownBy w' (some b) := jopen10 b 1 w h
theorem jopen10_x (b : Nat) (file : Int) (w : World) (hok : fileOk file = false) (h : IsD w b (ds0 10)) : Calls Try.prog 10 #[.pointer (some ⟨b, 0, none⟩), .int .i64 file] w fun e w' => ∃ v, e = .returned (.tuple #[v, .int .i64 2]) ∧ w.grownBy w' (some b) := by
  have := jopen10 b file w h
  rw [hok] at this
  exact this
end Go.Proofs.Ytknndpncdnhnpaa
end
section
namespace Go.Proofs.Ytknndpncdnhnpaa
open Go.RowKit Go.Cas
set_option linter.unusedSimpArgs false
set_option linter.unusedVariables false
attribute [local go_sem] Oper.semAt_some

set_option maxRecDepth 100000 in
set_option maxHeartbeats 4000000 in
theorem journalNone_long (file : Int) (a : Option Addr) (n cap : Nat) (w : World) (hn : 100 < n) :
    Calls Try.prog 6 #[.int .i64 file, .slice a n cap] w fun e w' => e = .returned (.bool true) ∧ Below w.heap.size w w' := by
  have m0 : decide ((100 : Int) < (n : Int)) = true := by simp; omega
  have hb0 := below_alloc w (.cells #[.bool false] 4)
  have hX0 := Box.new w (.bool false) 4
  refine calls_of_wp_marks Try.func6 rfl ?_
  simp only [Try.ntmps6, List.size_toArray, List.length_cons, List.length_nil, Nat.reduceAdd, Nat.reduceSub, Array.replicate_succ, Array.replicate_zero, List.push_toArray, List.append_toArray, List.nil_append, List.cons_append]
  go_wp2_with fail
  refine (works08_c _).mono ?_
  rintro e w1 ⟨rfl, hb1⟩
  have hX1 := hX0.later hb1
  have hc := hX1.cell
  have hf := hX1.fz
  have hc2 := (hX1.set (.bool true)).cell
  go_wp2_with fail
  refine leave0 (v := .bool true) (by simp [results, Try.results6, go_sem, hc2]) ⟨rfl, ?_⟩
  exact (below_then hb0 hb1).setCell (by simp) _
set_option maxRecDepth 100000 in
set_option maxHeartbeats 4000000 in
theorem journalNone_0 (a : Option Addr) (n cap : Nat) (w : World) (hn : ¬ 100 < n) :
    Calls Try.prog 6 #[.int .i64 0, .slice a n cap] w fun e w' => e = .returned (.bool true) ∧ Below w.heap.size w w' := by
  have m0 : decide ((100 : Int) < (n : Int)) = false := by simp; omega
  clear hn
  have heq := eql_nilfunc8
  have hzj := zero_jou
  have hb0 := below_alloc w (.cells #[.bool false] 4)
  have hX0 := Box.new w (.bool false) 4
  refine calls_of_wp_marks Try.func6 rfl ?_
  simp only [Try.ntmps6, List.size_toArray, List.length_cons, List.length_nil, Nat.reduceAdd, Nat.reduceSub, Array.replicate_succ, Array.replicate_zero, List.push_toArray, List.append_toArray, List.nil_append, List.cons_append]
  have hz0 := zeroJ (W := w.alloc (.cells #[.bool false] 4))
  rw [World.size_alloc] at hz0
  have hN2 : JN w ((w.alloc (.cells #[.bool false] 4)).alloc (.cells #[.pointer none, .int .i64 0] 59)) (.pointer (some ⟨w.heap.size + 1, 0, none⟩)) :=
    ⟨below_then hb0 (below_alloc _ _), hX0.later (below_alloc _ _), hz0⟩
  have HON := Lib.hid (jopen_nil 0 ((w.alloc (.cells #[.bool false] 4)).alloc (.cells #[.pointer none, .int .i64 0] 59)))
  clear hz0 hb0 hX0
  go_wp2_with fail
  refine HON.out.mono ?_
  rintro e w3 ⟨rfl, hb3⟩
  have hN3 := hN2.later hb3
  clear hN2 hb3 HON
  generalize (some (⟨w.heap.size + 1, 0, none⟩ : Addr)) = z at hN3 ⊢
  have HNW := Lib.hid (new_c 10 w3 (by decide) (by decide))
  go_wp2_with (first | (go_at_call 11; refine (num8_c _ _).mono ?_; rintro e w' ⟨rfl, rfl⟩) | fail)
  refine HNW.out.mono ?_
  rintro e w4 ⟨rfl, hd4, hb4⟩
  have hjo := jopen10_0 _ w4 hd4
  go_wp2_with (first | (go_at_call 11; refine (num8_c _ _).mono ?_; rintro e w' ⟨rfl, rfl⟩) | fail)
  refine hjo.mono ?_
  rintro e w5 ⟨v5, rfl, hg5⟩
  have hN5 := hN3.later (bg hb4 (Nat.le_refl _) hg5)
  obtain ⟨b, hb⟩ : ∃ b, some (⟨w3.heap.size, 0, none⟩ : Addr) = b := ⟨_, rfl⟩
  simp only [hb]
  clear hjo hg5 hd4 hN3 HNW hb4 hb
  go_wp2_with (first | (go_at_call 11; refine (num8_c _ _).mono ?_; rintro e w' ⟨rfl, rfl⟩) | fail)
  refine (records_no (.pointer z) w5 hN5.2.2).mono ?_
  rintro e w6 ⟨B, rfl, hbox, hBge, hb6⟩
  have hN6 := hN5.later hb6
  clear hN5 hb6
  go_wp2_with (first | (go_at_call 11; refine (num8_c _ _).mono ?_; rintro e w' ⟨rfl, rfl⟩) | fail)
  have hBlt := hbox.lt
  refine wp_rangeW (α := Unit) (gf := 51) (lb := #[.pointer (some ⟨B, 0, none⟩)]) rfl enter_rec1
    (recs_none B w6 hbox.cell) (Hold.refl _ _) (Nat.le_refl _) ?hR ?hps ?hE
    (fun _ A => Below w6.heap.size w6 A) (fun _ _ _ => False) ?hI ?hIx (Below.refl _ _) (fun _ => { tmps := #[], defers := [] }) ?hassign ?hbody ?hdone ?hstop
  case hR =>
    rintro k (rfl | ⟨h0, ad, ha, rfl⟩)
    · exact hBlt
    · cases ha
  case hps => exact fun _ _ _ h => h.elim
  case hE => exact fun _ _ _ _ h _ => h
  case hI =>
    intro i A A' h4 hk
    exact h4.trans (hk.below h4.size (fun k hk h => by omega))
  case hIx => exact fun _ _ _ _ h _ => h
  case hassign => exact fun _ _ _ _ _ h => h.elim
  case hbody => exact fun _ _ hi => absurd hi (Nat.not_lt_zero _)
  case hstop => exact fun _ _ _ _ _ h => h.elim
  case hdone =>
    intro w7 hsz7 hb7 hD7
    have hN7 : JQ w w7 (.pointer z) w6.heap.size := ⟨hN6.later hb7, by omega, hN6.2.1.lt, hD7⟩
    clear hN6 hD7 hb7 hbox
    go_wp2_with (first | (go_at_call 11; refine (num8_c _ _).mono ?_; rintro e w' ⟨rfl, rfl⟩) | fail)
    refine (jlog_no (.pointer none) a n cap _ (.inl rfl)).mono ?_
    rintro e w8 ⟨rfl, hb8⟩
    have hN8 := hN7.later hb8
    clear hN7 hb8
    go_wp2_with (first | (go_at_call 11; refine (num8_c _ _).mono ?_; rintro e w' ⟨rfl, rfl⟩) | fail)
    refine (jsync_no (.pointer z) _ hN8.1.2.2).mono ?_
    rintro e w' ⟨rfl, rfl⟩
    go_wp2_with (first | (go_at_call 11; refine (num8_c _ _).mono ?_; rintro e w' ⟨rfl, rfl⟩) | fail)
    refine (jlen_no (.pointer none) _ (.inl rfl)).mono ?_
    rintro e w9 ⟨rfl, hb9⟩
    have hN9 := hN8.later hb9
    clear hN8 hb9
    go_wp2_with (first | (go_at_call 11; refine (num8_c _ _).mono ?_; rintro e w' ⟨rfl, rfl⟩) | fail)
    refine (jsize_no (.pointer none) _ (.inl rfl)).mono ?_
    rintro e w10 ⟨rfl, hb10⟩
    have hN10 := hN9.later hb10
    clear hN9 hb10
    go_wp2_with (first | (go_at_call 11; refine (num8_c _ _).mono ?_; rintro e w' ⟨rfl, rfl⟩) | fail)
    refine (jfile_no (.pointer none) _ (.inl rfl)).mono ?_
    rintro e w' ⟨rfl, rfl⟩
    go_wp2_with (first | (go_at_call 11; refine (num8_c _ _).mono ?_; rintro e w' ⟨rfl, rfl⟩) | fail)
    refine (jlen_no (.pointer z) _ hN10.1.2.2).mono ?_
    rintro e w11 ⟨rfl, hb11⟩
    have hN11 := hN10.later hb11
    clear hN10 hb11
    go_wp2_with (first | (go_at_call 11; refine (num8_c _ _).mono ?_; rintro e w' ⟨rfl, rfl⟩) | fail)
    refine (jsize_no (.pointer z) _ hN11.1.2.2).mono ?_
    rintro e w12 ⟨rfl, hb12⟩
    have hN12 := hN11.later hb12
    clear hN11 hb12
    go_wp2_with (first | (go_at_call 11; refine (num8_c _ _).mono ?_; rintro e w' ⟨rfl, rfl⟩) | fail)
    refine (works08_c _).mono ?_
    rintro e w13 ⟨rfl, hb13⟩
    have hN13 := hN12.later hb13
    have hc := hN13.1.2.1.cell
    have hf := hN13.1.2.1.fz
    obtain ⟨hDd, hBl, hXc⟩ := hN13.fin
    clear hN12 hN13
    go_wp2_with fail
    refine leave1 (v := .bool true) hDd (by simp [results, Try.results6, go_sem, hXc]) ⟨rfl, hBl⟩
set_option maxRecDepth 100000 in
set_option maxHeartbeats 4000000 in
theorem journalNone_1 (a : Option Addr) (n cap : Nat) (w : World) (hn : ¬ 100 < n) :
    Calls Try.prog 6 #[.int .i64 1, .slice a n cap] w fun e w' => e = .returned (.bool true) ∧ Below w.heap.size w w' := by
  have m0 : decide ((100 : Int) < (n : Int)) = false := by simp; omega
  clear hn
  have heq := eql_nilfunc8
  have hzj := zero_jou
  have hb0 := below_alloc w (.cells #[.bool false] 4)
  have hX0 := Box.new w (.bool false) 4
  refine calls_of_wp_marks Try.func6 rfl ?_
  simp only [Try.ntmps6, List.size_toArray, List.length_cons, List.length_nil, Nat.reduceAdd, Nat.reduceSub, Array.replicate_succ, Array.replicate_zero, List.push_toArray, List.append_toArray, List.nil_append, List.cons_append]
  have hz0 := zeroJ (W := w.alloc (.cells #[.bool false] 4))
  rw [World.size_alloc] at hz0
  have hN2 : JN w ((w.alloc (.cells #[.bool false] 4)).alloc (.cells #[.pointer none, .int .i64 0] 59)) (.pointer (some ⟨w.heap.size + 1, 0, none⟩)) :=
    ⟨below_then hb0 (below_alloc _ _), hX0.later (below_alloc _ _), hz0⟩
  have HON := Lib.hid (jopen_nil 1 ((w.alloc (.cells #[.bool false] 4)).alloc (.cells #[.pointer none, .int .i64 0] 59)))
  clear hz0 hb0 hX0
  go_wp2_with fail
  refine HON.out.mono ?_
  rintro e w3 ⟨rfl, hb3⟩
  have hN3 := hN2.later hb3
  clear hN2 hb3 HON
  generalize (some (⟨w.heap.size + 1, 0, none⟩ : Addr)) = z at hN3 ⊢
  have HNW := Lib.hid (new_c 10 w3 (by decide) (by decide))
  go_wp2_with (first | (go_at_call 11; refine (num8_c _ _).mono ?_; rintro e w' ⟨rfl, rfl⟩) | fail)
  refine HNW.out.mono ?_
  rintro e w4 ⟨rfl, hd4, hb4⟩
  have hjo := jopen10_1 _ w4 hd4
  go_wp2_with (first | (go_at_call 11; refine (num8_c _ _).mono ?_; rintro e w' ⟨rfl, rfl⟩) | fail)
  refine hjo.mono ?_
  rintro e w5 ⟨v5, rfl, hg5⟩
  have hN5 := hN3.later (bg hb4 (Nat.le_refl _) hg5)
  obtain ⟨b, hb⟩ : ∃ b, some (⟨w3.heap.size, 0, none⟩ : Addr) = b := ⟨_, rfl⟩
  simp only [hb]
  clear hjo hg5 hd4 hN3 HNW hb4 hb
  go_wp2_with (first | (go_at_call 11; refine (num8_c _ _).mono ?_; rintro e w' ⟨rfl, rfl⟩) | fail)
  refine (records_no (.pointer z) w5 hN5.2.2).mono ?_
  rintro e w6 ⟨B, rfl, hbox, hBge, hb6⟩
  have hN6 := hN5.later hb6
  clear hN5 hb6
  go_wp2_with (first | (go_at_call 11; refine (num8_c _ _).mono ?_; rintro e w' ⟨rfl, rfl⟩) | fail)
  have hBlt := hbox.lt
  refine wp_rangeW (α := Unit) (gf := 51) (lb := #[.pointer (some ⟨B, 0, none⟩)]) rfl enter_rec1
    (recs_none B w6 hbox.cell) (Hold.refl _ _) (Nat.le_refl _) ?hR ?hps ?hE
    (fun _ A => Below w6.heap.size w6 A) (fun _ _ _ => False) ?hI ?hIx (Below.refl _ _) (fun _ => { tmps := #[], defers := [] }) ?hassign ?hbody ?hdone ?hstop
  case hR =>
    rintro k (rfl | ⟨h0, ad, ha, rfl⟩)
    · exact hBlt
    · cases ha
  case hps => exact fun _ _ _ h => h.elim
  case hE => exact fun _ _ _ _ h _ => h
  case hI =>
    intro i A A' h4 hk
    exact h4.trans (hk.below h4.size (fun k hk h => by omega))
  case hIx => exact fun _ _ _ _ h _ => h
  case hassign => exact fun _ _ _ _ _ h => h.elim
  case hbody => exact fun _ _ hi => absurd hi (Nat.not_lt_zero _)
  case hstop => exact fun _ _ _ _ _ h => h.elim
  case hdone =>
    intro w7 hsz7 hb7 hD7
    have hN7 : JQ w w7 (.pointer z) w6.heap.size := ⟨hN6.later hb7, by omega, hN6.2.1.lt, hD7⟩
    clear hN6 hD7 hb7 hbox
    go_wp2_with (first | (go_at_call 11; refine (num8_c _ _).mono ?_; rintro e w' ⟨rfl, rfl⟩) | fail)
    refine (jlog_no (.pointer none) a n cap _ (.inl rfl)).mono ?_
    rintro e w8 ⟨rfl, hb8⟩
    have hN8 := hN7.later hb8
    clear hN7 hb8
    go_wp2_with (first | (go_at_call 11; refine (num8_c _ _).mono ?_; rintro e w' ⟨rfl, rfl⟩) | fail)
    refine (jsync_no (.pointer z) _ hN8.1.2.2).mono ?_
    rintro e w' ⟨rfl, rfl⟩
    go_wp2_with (first | (go_at_call 11; refine (num8_c _ _).mono ?_; rintro e w' ⟨rfl, rfl⟩) | fail)
    refine (jlen_no (.pointer none) _ (.inl rfl)).mono ?_
    rintro e w9 ⟨rfl, hb9⟩
    have hN9 := hN8.later hb9
    clear hN8 hb9
    go_wp2_with (first | (go_at_call 11; refine (num8_c _ _).mono ?_; rintro e w' ⟨rfl, rfl⟩) | fail)
    refine (jsize_no (.pointer none) _ (.inl rfl)).mono ?_
    rintro e w10 ⟨rfl, hb10⟩
    have hN10 := hN9.later hb10
    clear hN9 hb10
    go_wp2_with (first | (go_at_call 11; refine (num8_c _ _).mono ?_; rintro e w' ⟨rfl, rfl⟩) | fail)
    refine (jfile_no (.pointer none) _ (.inl rfl)).mono ?_
    rintro e w' ⟨rfl, rfl⟩
    go_wp2_with (first | (go_at_call 11; refine (num8_c _ _).mono ?_; rintro e w' ⟨rfl, rfl⟩) | fail)
    refine (jlen_no (.pointer z) _ hN10.1.2.2).mono ?_
    rintro e w11 ⟨rfl, hb11⟩
    have hN11 := hN10.later hb11
    clear hN10 hb11
    go_wp2_with (first | (go_at_call 11; refine (num8_c _ _).mono ?_; rintro e w' ⟨rfl, rfl⟩) | fail)
    refine (jsize_no (.pointer z) _ hN11.1.2.2).mono ?_
    rintro e w12 ⟨rfl, hb12⟩
    have hN12 := hN11.later hb12
    clear hN11 hb12
    go_wp2_with (first | (go_at_call 11; refine (num8_c _ _).mono ?_; rintro e w' ⟨rfl, rfl⟩) | fail)
    refine (works08_c _).mono ?_
    rintro e w13 ⟨rfl, hb13⟩
    have hN13 := hN12.later hb13
    have hc := hN13.1.2.1.cell
    have hf := hN13.1.2.1.fz
    obtain ⟨hDd, hBl, hXc⟩ := hN13.fin
    clear hN12 hN13
    go_wp2_with fail
    refine leave1 (v := .bool true) hDd (by simp [results, Try.results6, go_sem, hXc]) ⟨rfl, hBl⟩
set_option maxRecDepth 100000 in
set_option maxHeartbeats 4000000 in
theorem journalNone_x (file : Int) (hok : fileOk file = false) (a : Option Addr) (n cap : Nat) (w : World) (hn : ¬ 100 < n) :
    Calls Try.prog 6 #[.int .i64 file, .slice a n cap] w fun e w' => e = .returned (.bool true) ∧ Below w.heap.size w w' := by
  have m0 : decide ((100 : Int) < (n : Int)) = false := by simp; omega
  clear hn
  have f0 : (file == 0) = false := by simp [fileOk] at hok ⊢; omega
  have f1 : (file == 1) = false := by simp [fileOk] at hok ⊢; omega
  have heq := eql_nilfunc8
  have hzj := zero_jou
  have hb0 := below_alloc w (.cells #[.bool false] 4)
  have hX0 := Box.new w (.bool false) 4
  refine calls_of_wp_marks Try.func6 rfl ?_
  simp only [Try.ntmps6, List.size_toArray, List.length_cons, List.length_nil, Nat.reduceAdd, Nat.reduceSub, Array.replicate_succ, Array.replicate_zero, List.push_toArray, List.append_toArray, List.nil_append, List.cons_append]
  have hz0 := zeroJ (W := w.alloc (.cells #[.bool false] 4))
  rw [World.size_alloc] at hz0
  have hN2 : JN w ((w.alloc (.cells #[.bool false] 4)).alloc (.cells #[.pointer none, .int .i64 0] 59)) (.pointer (some ⟨w.heap.size + 1, 0, none⟩)) :=
    ⟨below_then hb0 (below_alloc _ _), hX0.later (below_alloc _ _), hz0⟩
  have HON := Lib.hid (jopen_nil file ((w.alloc (.cells #[.bool false] 4)).alloc (.cells #[.pointer none, .int .i64 0] 59)))
  clear hz0 hb0 hX0
  go_wp2_with fail
  refine HON.out.mono ?_
  rintro e w3 ⟨rfl, hb3⟩
  have hN3 := hN2.later hb3
  clear hN2 hb3 HON
  generalize (some (⟨w.heap.size + 1, 0, none⟩ : Addr)) = z at hN3 ⊢
  have HNW := Lib.hid (new_c 10 w3 (by decide) (by decide))
  go_wp2_with (first | (go_at_call 11; refine (num8_c _ _).mono ?_; rintro e w' ⟨rfl, rfl⟩) | fail)
  refine HNW.out.mono ?_
  rintro e w4 ⟨rfl, hd4, hb4⟩
  have hjo := jopen10_x _ file w4 hok hd4
  go_wp2_with (first | (go_at_call 11; refine (num8_c _ _).mono ?_; rintro e w' ⟨rfl, rfl⟩) | fail)
  refine hjo.mono ?_
  rintro e w5 ⟨v5, rfl, hg5⟩
  have hN5 := hN3.later (bg hb4 (Nat.le_refl _) hg5)
  obtain ⟨b, hb⟩ : ∃ b, some (⟨w3.heap.size, 0, none⟩ : Addr) = b := ⟨_, rfl⟩
  simp only [hb]
  clear hjo hg5 hd4 hN3 HNW hb4 hb
  go_wp2_with (first | (go_at_call 11; refine (num8_c _ _).mono ?_; rintro e w' ⟨rfl, rfl⟩) | fail)
  refine (records_no (.pointer z) w5 hN5.2.2).mono ?_
  rintro e w6 ⟨B, rfl, hbox, hBge, hb6⟩
  have hN6 := hN5.later hb6
  clear hN5 hb6
  go_wp2_with (first | (go_at_call 11; refine (num8_c _ _).mono ?_; rintro e w' ⟨rfl, rfl⟩) | fail)
  have hBlt := hbox.lt
  refine wp_rangeW (α := Unit) (gf := 51) (lb := #[.pointer (some ⟨B, 0, none⟩)]) rfl enter_rec1
    (recs_none B w6 hbox.cell) (Hold.refl _ _) (Nat.le_refl _) ?hR ?hps ?hE
    (fun _ A => Below w6.heap.size w6 A) (fun _ _ _ => False) ?hI ?hIx (Below.refl _ _) (fun _ => { tmps := #[], defers := [] }) ?hassign ?hbody ?hdone ?hstop
  case hR =>
    rintro k (rfl | ⟨h0, ad, ha, rfl⟩)
    · exact hBlt
    · cases ha
  case hps => exact fun _ _ _ h => h.elim
  case hE => exact fun _ _ _ _ h _ => h
  case hI =>
    intro i A A' h4 hk
    exact h4.trans (hk.below h4.size (fun k hk h => by omega))
  case hIx => exact fun _ _ _ _ h _ => h
  case hassign => exact fun _ _ _ _ _ h => h.elim
  case hbody => exact fun _ _ hi => absurd hi (Nat.not_lt_zero _)
  case hstop => exact fun _ _ _ _ _ h => h.elim
  case hdone =>
    intro w7 hsz7 hb7 hD7
    have hN7 : JQ w w7 (.pointer z) w6.heap.size := ⟨hN6.later hb7, by omega, hN6.2.1.lt, hD7⟩
    clear hN6 hD7 hb7 hbox
    go_wp2_with (first | (go_at_call 11; refine (num8_c _ _).mono ?_; rintro e w' ⟨rfl, rfl⟩) | fail)
    refine (jlog_no (.pointer none) a n cap _ (.inl rfl)).mono ?_
    rintro e w8 ⟨rfl, hb8⟩
    have hN8 := hN7.later hb8
    clear hN7 hb8
    go_wp2_with (first | (go_at_call 11; refine (num8_c _ _).mono ?_; rintro e w' ⟨rfl, rfl⟩) | fail)
    refine (jsync_no (.pointer z) _ hN8.1.2.2).mono ?_
    rintro e w' ⟨rfl, rfl⟩
    go_wp2_with (first | (go_at_call 11; refine (num8_c _ _).mono ?_; rintro e w' ⟨rfl, rfl⟩) | fail)
    refine (jlen_no (.pointer none) _ (.inl rfl)).mono ?_
    rintro e w9 ⟨rfl, hb9⟩
    have hN9 := hN8.later hb9
    clear hN8 hb9
    go_wp2_with (first | (go_at_call 11; refine (num8_c _ _).mono ?_; rintro e w' ⟨rfl, rfl⟩) | fail)
    refine (jsize_no (.pointer none) _ (.inl rfl)).mono ?_
    rintro e w10 ⟨rfl, hb10⟩
    have hN10 := hN9.later hb10
    clear hN9 hb10
    go_wp2_with (first | (go_at_call 11; refine (num8_c _ _).mono ?_; rintro e w' ⟨rfl, rfl⟩) | fail)
    refine (jfile_no (.pointer none) _ (.inl rfl)).mono ?_
    rintro e w' ⟨rfl, rfl⟩
    go_wp2_with (first | (go_at_call 11; refine (num8_c _ _).mono ?_; rintro e w' ⟨rfl, rfl⟩) | fail)
    refine (jlen_no (.pointer z) _ hN10.1.2.2).mono ?_
    rintro e w11 ⟨rfl, hb11⟩
    have hN11 := hN10.later hb11
    clear hN10 hb11
    go_wp2_with (first | (go_at_call 11; refine (num8_c _ _).mono ?_; rintro e w' ⟨rfl, rfl⟩) | fail)
    refine (jsize_no (.pointer z) _ hN11.1.2.2).mono ?_
    rintro e w12 ⟨rfl, hb12⟩
    have hN12 := hN11.later hb12
    clear hN11 hb12
    go_wp2_with (first | (go_at_call 11; refine (num8_c _ _).mono ?_; rintro e w' ⟨rfl, rfl⟩) | fail)
    refine (works08_c _).mono ?_
    rintro e w13 ⟨rfl, hb13⟩
    have hN13 := hN12.later hb13
    have hc := hN13.1.2.1.cell
    have hf := hN13.1.2.1.fz
    obtain ⟨hDd, hBl, hXc⟩ := hN13.fin
    clear hN12 hN13
    go_wp2_with fail
    refine leave1 (v := .bool true) hDd (by simp [results, Try.results6, go_sem, hXc]) ⟨rfl, hBl⟩
theorem journalNone_c (file : Int) (a : Option Addr) (n cap : Nat) (l : List UInt8) (w : World) (_hf : (Lit.int .i64 file).wf = true) (_h : IsB w a n cap l) :
    Calls Try.prog 6 #[.int .i64 file, .slice a n cap] w fun e w' => e = .returned (.bool true) ∧ Below w.heap.size w w' := by
  by_cases hn : 100 < n
  · exact journalNone_long file a n cap w hn
  by_cases hok : fileOk file = true
  · rcases file_two hok with rfl | rfl
    · exact journalNone_0 a n cap w hn
    · exact journalNone_1 a n cap w hn
  · exact journalNone_x file (by simpa using hok) a n cap w hn
end Go.Proofs.Ytknndpncdnhnpaa
end
