import Derived.Test.YtpobnbiakneoiaaDiskM
namespace Go.Proofs.Ytpobnbiakneoiaa
open Go.RowKit Go.Cas

theorem num7_c (n : Int) (w : World) : Calls Try.prog 15 #[.int .i64 n] w fun e w' => e = .returned (.int .i64 n) ∧ w = w' := by
  go_enter Try.func15, Try.ntmps15
  go_wp2
  go_ret
  exact ⟨rfl, rfl⟩
def sB : DS := ⟨4, 0, -1, [97, 98], 0, [], 0⟩
def sC : DS := ⟨4, 0, -1, [97, 98], 2, [], 0⟩
def sD : DS := ⟨4, 0, -1, [97, 98, 99, 100], 2, [], 0⟩
def sE : DS := ⟨4, 0, -1, [97, 98, 99], 3, [], 0⟩
def sF : DS := ⟨4, 0, 1, [97, 98, 99], 3, [], 0⟩
def sG : DS := ⟨4, 1, 0, [97, 98, 99], 3, [], 0⟩
theorem eB : (ds0 4).append 0 [97, 98] = (sB, 0) := by rfl
theorem eC : sB.sync 0 = (sC, 0) := by rfl
theorem eD : sC.append 0 [99, 100] = (sD, 0) := by rfl
theorem eD2 : sD.append 0 [101] = (sD, 170) := by rfl
theorem eE : sD.crash 1 0 = (sE, 0) := by rfl
theorem eF : sE.stop 1 = (sF, 0) := by rfl
theorem eG : sF.switch = (sG, 0) := by rfl
theorem eG2 : sG.append 1 [120] = (sG, 171) := by rfl
theorem abc_eq : ((strOf [97, 98, 99]).toList == [97, 98, 99]) = true := by rw [toList_data, strOf_data]; rfl
/-- bytes written out -/
theorem lit1 (w : World) (x : UInt8) (fr : Nat × Nat) : IsB (w.alloc (.cells #[.int .u8 (x.toNat : Int)] 5 fr)) (some ⟨w.heap.size, 0, none⟩) 1 1 [x] := IsB_freshF w _ fr [x] 1 rfl (by decide) rfl
theorem lit2 (w : World) (x y : UInt8) (fr : Nat × Nat) : IsB (w.alloc (.cells #[.int .u8 (x.toNat : Int), .int .u8 (y.toNat : Int)] 5 fr)) (some ⟨w.heap.size, 0, none⟩) 2 2 [x, y] := IsB_freshF w _ fr [x, y] 2 rfl (by decide) rfl
set_option maxRecDepth 100000 in
set_option maxHeartbeats 4000000 in
theorem works07_c (w : World) : Calls Try.prog 12 #[] w fun e w' => e = .returned (.bool true) ∧ Below w.heap.size w w' := by
  have hcc := fun (W : World) (C : Array Value) (n c : Nat) => Lib.run_convert_bytes_const (P := Try.prog) W 36 5 C n c Try.underlying36 Try.underlying5
  go_enter Try.func12, Try.ntmps12
  go_wp2_with fail
  refine (new_c 4 w (by decide) (by decide)).mono ?_
  rintro e w1 ⟨rfl, h1, hb1⟩
  have hbla := below_alloc w1 (.cells #[.int .u8 97, .int .u8 98] 5 (2, 3))
  have hapa := append_c0 w.heap.size (ds0 4) _ (h1.later hbla) (by decide) (by decide) (some ⟨w1.heap.size, 0, none⟩) 2 2 [97, 98] (lit2 w1 97 98 (2, 3)) (by decide) (by decide) (fun ad' had _ => by have := h1.lt; obtain rfl := Option.some.inj had; simp; omega)
  rw [eB] at hapa
  go_wp2_with (first | (go_at_call 15; refine (num7_c _ _).mono ?_; rintro e w' ⟨rfl, rfl⟩))
  refine hapa.mono ?_
  rintro e w2 ⟨rfl, h2, hg2⟩
  clear hapa
  go_wp2_with (first | (go_at_call 15; refine (num7_c _ _).mono ?_; rintro e w' ⟨rfl, rfl⟩))
  have hsy := sync_c w.heap.size sB 0 w2 h2 (by decide)
  rw [eC] at hsy
  refine hsy.mono ?_
  rintro e w3 ⟨rfl, h3, hg3⟩
  clear hsy
  have hblb := below_alloc w3 (.cells #[.int .u8 99, .int .u8 100] 5 (2, 3))
  have hapb := append_c0 w.heap.size sC _ (h3.later hblb) (by decide) (by decide) (some ⟨w3.heap.size, 0, none⟩) 2 2 [99, 100] (lit2 w3 99 100 (2, 3)) (by decide) (by decide) (fun ad' had _ => by have := h3.lt; obtain rfl := Option.some.inj had; simp; omega)
  rw [eD] at hapb
  go_wp2_with (first | (go_at_call 15; refine (num7_c _ _).mono ?_; rintro e w' ⟨rfl, rfl⟩))
  refine hapb.mono ?_
  rintro e w4 ⟨rfl, h4, hg4⟩
  clear hapb
  have hblc := below_alloc w4 (.cells #[.int .u8 101] 5 (1, 2))
  have hapc := append_c0 w.heap.size sD _ (h4.later hblc) (by decide) (by decide) (some ⟨w4.heap.size, 0, none⟩) 1 1 [101] (lit1 w4 101 (1, 2)) (by decide) (by decide) (fun ad' had _ => by have := h4.lt; obtain rfl := Option.some.inj had; simp; omega)
  rw [eD2] at hapc
  go_wp2_with (first | (go_at_call 15; refine (num7_c _ _).mono ?_; rintro e w' ⟨rfl, rfl⟩))
  refine hapc.mono ?_
  rintro e w5 ⟨rfl, h5, hg5⟩
  clear hapc
  go_wp2_with (first | (go_at_call 15; refine (num7_c _ _).mono ?_; rintro e w' ⟨rfl, rfl⟩))
  have hcr := crash_c w.heap.size sD 1 0 w5 h5 ⟨by decide, by decide, by decide, by decide⟩ (by decide) (by decide)
  rw [eE] at hcr
  refine hcr.mono ?_
  rintro e w6 ⟨rfl, h6, hg6⟩
  clear hcr
  go_wp2_with (first | (go_at_call 15; refine (num7_c _ _).mono ?_; rintro e w' ⟨rfl, rfl⟩))
  refine (read_c w.heap.size sE 0 w6 h6 ⟨by decide, by decide, by decide, by decide⟩ rfl).mono ?_
  rintro e w7 ⟨v7, rfl, ho7, hb7⟩
  obtain ⟨a7, c7, rfl, hs7⟩ := ho7.slice
  have h7 := h6.later hb7
  go_wp2_with (first | (go_at_call 15; refine (num7_c _ _).mono ?_; rintro e w' ⟨rfl, rfl⟩))
  have hst := stop_c w.heap.size sE 1 w7 h7
  rw [eF] at hst
  refine hst.mono ?_
  rintro e w8 ⟨rfl, h8, hg8⟩
  clear hst
  go_wp2_with (first | (go_at_call 15; refine (num7_c _ _).mono ?_; rintro e w' ⟨rfl, rfl⟩))
  have hsw := switch_c w.heap.size sF w8 h8 (by decide) (by decide)
  rw [eG] at hsw
  refine hsw.mono ?_
  rintro e w9 ⟨rfl, h9, hg9⟩
  clear hsw
  have hnb : ∀ ad, a7 = some ad → 0 < c7 → some ad.block ≠ some w.heap.size := fun ad had _ e => by
    have h1 := own_block ho7 ad had
    have h2 := h6.lt
    have := Option.some.inj e
    omega
  have hcv := conv_str ((hs7.grown' hg8 hnb).grown' hg9 hnb)
  have habc : ((strOf (sE.fl 0)).toList == [97, 98, 99]) = true := abc_eq
  have hbld := below_alloc w9 (.cells #[.int .u8 120] 5 (1, 2))
  have hapd := append_c1 w.heap.size sG _ (h9.later hbld) (by decide) (by decide) (some ⟨w9.heap.size, 0, none⟩) 1 1 [120] (lit1 w9 120 (1, 2)) (by decide) (by decide) (fun ad' had _ => by have := h9.lt; obtain rfl := Option.some.inj had; simp; omega)
  rw [eG2] at hapd
  go_wp2_with (first | (go_at_call 15; refine (num7_c _ _).mono ?_; rintro e w' ⟨rfl, rfl⟩))
  refine hapd.mono ?_
  rintro e w10 ⟨rfl, h10, hg10⟩
  clear hapd
  have hcu := current_c w.heap.size sG w10 h10
  go_wp2_with (first | (go_at_call 15; refine (num7_c _ _).mono ?_; rintro e w' ⟨rfl, rfl⟩))
  refine hcu.mono ?_
  rintro e w11 ⟨rfl, rfl⟩
  have hnow : (sG.now == 1) = true := rfl
  go_wp2_with (first | (go_at_call 15; refine (num7_c _ _).mono ?_; rintro e w' ⟨rfl, rfl⟩))
  go_ret
  have hbelow : ∀ {A B : World}, w.heap.size ≤ A.heap.size → A.grownBy B (some w.heap.size) → Below w.heap.size A B := fun {A B} hA hg => (Below.refl w.heap.size A).grown hg hA (fun k hk => by cases hk; exact Nat.le_refl _)
  have hz1 := h1.lt
  have z2 := h2.lt; have z3 := h3.lt; have z4 := h4.lt; have z5 := h5.lt; have z6 := h6.lt; have z7 := h7.lt; have z8 := h8.lt; have z9 := h9.lt
  refine ⟨by rfl, ?_⟩
  exact (((((((((((((hb1.trans (hbla.mono (by omega))).trans (hbelow (by simp; omega) hg2)).trans (hbelow (by omega) hg3)).trans (hblb.mono (by omega))).trans (hbelow (by simp; omega) hg4)).trans (hblc.mono (by omega))).trans (hbelow (by simp; omega) hg5)).trans (hbelow (by omega) hg6)).trans (hb7.mono (by omega))).trans (hbelow (by omega) hg8)).trans (hbelow (by omega) hg9)).trans (hbld.mono (by omega))).trans (hbelow (by simp; omega) hg10))
end Go.Proofs.Ytpobnbiakneoiaa
