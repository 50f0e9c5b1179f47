import Derived.Test.YtknndpncdnhnpaaJouF
namespace Go.Proofs.Ytknndpncdnhnpaa
open Go.RowKit Go.Cas
set_option linter.unusedSimpArgs false
set_option linter.unusedVariables false
attribute [local go_sem] Oper.semAt_some

theorem num8_c (n : Int) (w : World) : Calls Try.prog 11 #[.int .i64 n] w fun e w' => e = .returned (.int .i64 n) ∧ w = w' := by
  go_enter Try.func11, Try.ntmps11
  go_wp2
  go_ret
  exact ⟨rfl, rfl⟩
def jF1 : List UInt8 := [2, 97, 98, 35, 159, 87, 238]
def jF2 : List UInt8 := [2, 97, 98, 35, 159, 87, 238, 1, 99, 140, 121, 19, 92]
def jF3 : List UInt8 := [2, 97, 98, 35, 159, 87, 238, 1]
def jF4 : List UInt8 := jF1 ++ frameB (List.replicate 28 0)
def jA : DS := ⟨40, 0, -1, jF1, 0, [], 0⟩
def jB : DS := ⟨40, 0, -1, jF2, 0, [], 0⟩
def jC : DS := ⟨40, 0, -1, jF3, 8, [], 0⟩
def jD : DS := ⟨40, 0, -1, jF1, 7, [], 0⟩
def jE : DS := ⟨40, 0, -1, jF4, 7, [], 0⟩
theorem e8o : jopen (ds0 40) 0 = (ds0 40, 0) := by rfl
theorem e8A : jlog (ds0 40) 0 [97, 98] = (jA, 0) := by rfl
theorem e8B : jlog jA 0 [99] = (jB, 0) := by rfl
theorem e8C : jB.crash 8 0 = (jC, 0) := by rfl
theorem e8D : jopen jC 0 = (jD, 0) := by rfl
theorem e8E : jlog jD 0 (List.replicate 28 0) = (jE, 0) := by rfl
theorem e8F : jlog jE 0 (List.replicate 32 0) = (jE, 170) := by rfl
theorem e8l : (framesB (jB.fl 0)).length = 2 := by rfl
theorem e8s : wholeB (jB.fl 0) = 13 := by rfl
theorem e8m : (framesB (jD.fl 0)).length = 1 := by rfl
theorem e8t : wholeB (jD.fl 0) = 7 := by rfl
theorem g40 : (ds0 40).good := ⟨⟨Nat.le_refl _, Nat.le_refl _, by decide, by decide⟩, by decide, by decide, by decide⟩
theorem gA : jA.good := ⟨⟨by decide, by decide, by decide, by decide⟩, by decide, by decide, by decide⟩
theorem gB : jB.good := ⟨⟨by decide, by decide, by decide, by decide⟩, by decide, by decide, by decide⟩
theorem gC : jC.good := ⟨⟨by decide, by decide, by decide, by decide⟩, by decide, by decide, by decide⟩
theorem gD : jD.good := ⟨⟨by decide, by decide, by decide, by decide⟩, by decide, by decide, by decide⟩
theorem gE : jE.good := ⟨⟨by decide, by decide, by decide, by decide⟩, by decide, by decide, by decide⟩
theorem JC.later {w w' : World} {jb b : Nat} {file : Int} (h : JC w jb b file) (hb : Below w.heap.size w w') : JC w' jb b file := row_later h hb
theorem JC.grown {w w' : World} {jb b : Nat} {file : Int} (h : JC w jb b file) (hg : w.grownBy w' (some b)) (hne : jb ≠ b) : JC w' jb b file := row_grown h hg hne
theorem bg {B : Nat} {a c d : World} (h : Below B a c) (hs : B ≤ a.heap.size) (hg : c.grownBy d (some B)) : Below B a d := h.grown hg (by have := h.size; omega) (fun k hk => by cases hk; exact Nat.le_refl _)
set_option maxRecDepth 100000 in
set_option maxHeartbeats 8000000 in
theorem works08_c (w : World) : Calls Try.prog 8 #[] w fun e w' => e = .returned (.bool true) ∧ Below w.heap.size w w' := by
  have hcc := fun (W : World) (C : Array Value) (n c : Nat) => Lib.run_convert_bytes_const (P := Try.prog) W 32 5 C n c Try.underlying32 Try.underlying5
  have hmk28 := fun W : World => make_bytes W 28 (x := 28) rfl (by decide)
  have hmk32 := fun W : World => make_bytes W 32 (x := 32) rfl (by decide)
  obtain ⟨cs28, h28⟩ := Classical.axiomOfChoice hmk28
  obtain ⟨cs32, h32⟩ := Classical.axiomOfChoice hmk32
  have hm28 := fun W => (h28 W).1
  have hm32 := fun W => (h32 W).1
  have hc28 := Lib.hid (fun W => (h28 W).2)
  have hc32 := Lib.hid (fun W => (h32 W).2)
  clear hmk28 hmk32 h28 h32
  obtain ⟨b, hb⟩ : ∃ b, w.heap.size = b := ⟨_, rfl⟩
  have hnew := new_c 40 w (by decide) (by decide)
  rw [hb] at hnew ⊢
  go_enter Try.func8, Try.ntmps8
  go_wp2_with fail
  refine hnew.mono ?_
  rintro e w1 ⟨rfl, hd1, hb1⟩
  clear hnew
  have hz1 : b ≤ w1.heap.size := Nat.le_of_lt hd1.lt
  have hop := jopen_c b _ 0 w1 hd1 g40 rfl
  unfold Opened at hop
  rw [e8o] at hop
  go_wp2_with fail
  refine hop.mono ?_
  rintro e w2 ⟨⟨-, jb, rfl, hj2, hjb⟩ | ⟨h0, -⟩, hd2, hg2⟩
  case inr => exact absurd rfl h0
  have hne : jb ≠ b := by have := hd1.lt; omega
  have hb2 := bg hb1 (by omega) hg2
  clear hop hb1 hd1 hg2 hjb
  have hsz2 := hd2.lt
  have hal := below_alloc w2 (.cells #[.int .u8 97, .int .u8 98] 5 (2, 3))
  have hlg := jlog_c jb b 0 _ (some ⟨w2.heap.size, 0, none⟩) 2 2 [97, 98] (by decide) _ (hd2.later hal) g40 (hj2.later hal) (lit2 w2 97 98 (2, 3))
  have hj3 := hj2.later hal
  have hb3 := hb2.trans (hal.mono (Nat.le_of_lt hsz2))
  rw [e8A] at hlg
  clear hj2 hd2 hb2 hal
  go_wp2_with (first | (go_at_call 11; refine (num8_c _ _).mono ?_; rintro e w' ⟨rfl, rfl⟩))
  refine hlg.mono ?_
  rintro e w3 ⟨rfl, hd3, hg3⟩
  have hj4 := hj3.grown hg3 hne
  have hb4 := bg hb3 (by omega) hg3
  clear hlg hj3 hb3 hg3
  have hsz3 := hd3.lt
  have hal := below_alloc w3 (.cells #[.int .u8 99] 5 (1, 2))
  have hlg := jlog_c jb b 0 _ (some ⟨w3.heap.size, 0, none⟩) 1 1 [99] (by decide) _ (hd3.later hal) gA (hj4.later hal) (lit1 w3 99 (1, 2))
  have hj5 := hj4.later hal
  have hb5 := hb4.trans (hal.mono (Nat.le_of_lt hsz3))
  rw [e8B] at hlg
  clear hj4 hd3 hb4 hal
  go_wp2_with (first | (go_at_call 11; refine (num8_c _ _).mono ?_; rintro e w' ⟨rfl, rfl⟩))
  refine hlg.mono ?_
  rintro e w4 ⟨rfl, hd4, hg4⟩
  have hj6 := hj5.grown hg4 hne
  have hb6 := bg hb5 (by omega) hg4
  clear hlg hj5 hb5 hg4
  have hle := jlen_c jb b 0 _ w4 hd4 gB.1 rfl hj6
  rw [e8l] at hle
  go_wp2_with (first | (go_at_call 11; refine (num8_c _ _).mono ?_; rintro e w' ⟨rfl, rfl⟩))
  refine hle.mono ?_
  rintro e w5 ⟨rfl, hbl⟩
  have hd5 := hd4.later hbl
  have hj7 := hj6.later hbl
  have hb7 := hb6.trans (hbl.mono (Nat.le_of_lt hd4.lt))
  clear hle hbl hb6 hj6 hd4
  have hle := jsize_c jb b 0 _ w5 hd5 gB.1 rfl hj7
  rw [e8s] at hle
  go_wp2_with (first | (go_at_call 11; refine (num8_c _ _).mono ?_; rintro e w' ⟨rfl, rfl⟩))
  refine hle.mono ?_
  rintro e w6 ⟨rfl, hbl⟩
  have hd6 := hd5.later hbl
  have hb8 := hb7.trans (hbl.mono (Nat.le_of_lt hd5.lt))
  clear hle hbl hb7 hj7 hd5
  have hcr := crash_c b jB 8 0 w6 hd6 gB.1 (by decide) (by decide)
  rw [e8C] at hcr
  go_wp2_with (first | (go_at_call 11; refine (num8_c _ _).mono ?_; rintro e w' ⟨rfl, rfl⟩))
  refine hcr.mono ?_
  rintro e w7 ⟨rfl, hd7, hg7⟩
  have hb9 := bg hb8 (by omega) hg7
  clear hcr hg7 hb8 hd6
  have hop := jopen_c b _ 0 w7 hd7 gC rfl
  unfold Opened at hop
  rw [e8D] at hop
  go_wp2_with (first | (go_at_call 11; refine (num8_c _ _).mono ?_; rintro e w' ⟨rfl, rfl⟩))
  refine hop.mono ?_
  rintro e w8 ⟨⟨-, kb, rfl, hk8, hkb⟩ | ⟨h0, -⟩, hd8, hg8⟩
  case inr => exact absurd rfl h0
  have hne2 : kb ≠ b := by have := hd7.lt; omega
  have hb10 := bg hb9 (by omega) hg8
  clear hop hb9 hd7 hg8 hkb
  have hle := jlen_c kb b 0 _ w8 hd8 gD.1 rfl hk8
  rw [e8m] at hle
  go_wp2_with (first | (go_at_call 11; refine (num8_c _ _).mono ?_; rintro e w' ⟨rfl, rfl⟩))
  refine hle.mono ?_
  rintro e w9 ⟨rfl, hbl⟩
  have hd9 := hd8.later hbl
  have hk9 := hk8.later hbl
  have hb11 := hb10.trans (hbl.mono (Nat.le_of_lt hd8.lt))
  clear hle hbl hb10 hk8 hd8
  have hle := jsize_c kb b 0 _ w9 hd9 gD.1 rfl hk9
  rw [e8t] at hle
  go_wp2_with (first | (go_at_call 11; refine (num8_c _ _).mono ?_; rintro e w' ⟨rfl, rfl⟩))
  refine hle.mono ?_
  rintro e w10 ⟨rfl, hbl⟩
  have hd10 := hd9.later hbl
  have hk10 := hk9.later hbl
  have hb12 := hb11.trans (hbl.mono (Nat.le_of_lt hd9.lt))
  clear hle hbl hb11 hk9 hd9
  have hsz10 := hd10.lt
  have hal := below_alloc w10 (.cells (cs28 w10) 5)
  have hlg := jlog_c kb b 0 _ (some ⟨w10.heap.size, 0, none⟩) 28 28 (List.replicate 28 0) (by decide) _ (hd10.later hal) gD (hk10.later hal) (IsB_fresh w10 _ _ 28 rfl (by decide) (hc28.out w10))
  have hk11 := hk10.later hal
  have hb13 := hb12.trans (hal.mono (Nat.le_of_lt hsz10))
  rw [e8E] at hlg
  clear hk10 hd10 hb12 hal
  go_wp2_with (first | (go_at_call 11; refine (num8_c _ _).mono ?_; rintro e w' ⟨rfl, rfl⟩))
  refine hlg.mono ?_
  rintro e w11 ⟨rfl, hd11, hg11⟩
  have hk12 := hk11.grown hg11 hne2
  have hb14 := bg hb13 (by omega) hg11
  clear hlg hk11 hb13 hg11
  have hsz11 := hd11.lt
  have hal := below_alloc w11 (.cells (cs32 w11) 5)
  have hlg := jlog_c kb b 0 _ (some ⟨w11.heap.size, 0, none⟩) 32 32 (List.replicate 32 0) (by decide) _ (hd11.later hal) gE (hk12.later hal) (IsB_fresh w11 _ _ 32 rfl (by decide) (hc32.out w11))
  have hb15 := hb14.trans (hal.mono (Nat.le_of_lt hsz11))
  rw [e8F] at hlg
  clear hk12 hd11 hb14 hal
  go_wp2_with (first | (go_at_call 11; refine (num8_c _ _).mono ?_; rintro e w' ⟨rfl, rfl⟩))
  refine hlg.mono ?_
  rintro e w12 ⟨rfl, hd12, hg12⟩
  have hb16 := bg hb15 (by omega) hg12
  go_wp2_with (first | (go_at_call 11; refine (num8_c _ _).mono ?_; rintro e w' ⟨rfl, rfl⟩))
  go_ret
  exact ⟨rfl, hb16⟩
end Go.Proofs.Ytknndpncdnhnpaa
