import Derived.Test.YtknndpncdnhnpaaSealB
import Derived.Laws.BytesString
import Derived.Deep.RegionHeld3
namespace Go.Proofs.Ytknndpncdnhnpaa
open Go.RowKit Go.Cas

/-! ### Bytes as a string -/
/-- A call that hands back bytes (which may lie in an argument), a number, and an error. -/
def RetSNE (W : World) (l : List UInt8) (m no : Nat) (x : Ending) (w : World) : Prop :=
  ∃ a n cap, x = .returned (.tuple #[.slice a n cap, .int .i64 (m : Int), .int .i64 (no : Int)]) ∧ IsB w a n cap l ∧ Below W.heap.size W w

set_option maxRecDepth 100000 in
set_option maxHeartbeats 4000000 in
theorem refOpen_c (a : Option Addr) (n cap : Nat) (l : List UInt8) (hn : n ≤ 2 ^ 40) (w : World) (h : IsB w a n cap l) : Calls Try.prog 81 #[.slice a n cap] w (RetSNE w (openB l).1 (openB l).2.1 (openB l).2.2) := by
  have hl := h.len
  have hcap := h.le
  have HL := Lib.hid hl; clear hl
  go_enter Try.func81, Try.ntmps81
  go_wp2_with fail
  refine (refRead_c a n cap l hn _ h).mono ?_
  rintro e w1 ⟨rfl, hb1⟩
  have h1 := h.later hb1
  have hrb := readN_bound l
  have ho : openB l = openB l := rfl
  conv at ho => rhs; unfold openB
  generalize readN l = R at ho hrb
  obtain ⟨v, u, x⟩ := R
  dsimp only at ho hrb
  have hu := hrb.2.1
  have hz := hrb.2.2.2.1
  have hx10 := hrb.2.2.1
  have hv := hrb.1
  have HV := Lib.hid hv; clear hv hrb
  by_cases e0 : x = 0
  · subst e0
    have hx10' := hx10 rfl
    clear hx10 hz
    rw [if_neg (by simp)] at ho
    by_cases e1 : 65536 < v
    · rw [if_pos e1] at ho
      have HO := Lib.hid ho; clear ho
      go_wp2_with fail
      go_ret3
      rw [HO.out]
      exact ⟨none, 0, 0, rfl, IsB.nil _, hb1⟩
    · rw [if_neg e1] at ho
      have hun : u ≤ n := by have := HL.out; omega
      by_cases e2 : n < u + v + 4
      · rw [if_pos (by have := HL.out; omega)] at ho
        have HO := Lib.hid ho; clear ho
        have hW : IntKind.i64.wrap ((u : Int) + (v : Int) + 4) = (u : Int) + (v : Int) + 4 := i64_in (by omega) (by omega)
        go_wp2_with fail
        go_ret3
        rw [HO.out]
        exact ⟨none, 0, 0, rfl, IsB.nil _, hb1⟩
      · rw [if_neg (by have := HL.out; omega)] at ho
        have HO := Lib.hid ho; clear ho
        have hW : IntKind.i64.wrap ((u : Int) + (v : Int) + 4) = (u : Int) + (v : Int) + 4 := i64_in (by omega) (by omega)
        have hN2 : ((u : Int) + (v : Int)).toNat = u + v := by omega
        have hN3 : ((u : Int) + (v : Int) + 4).toNat = u + v + 4 := by omega
        have hp1 : (0 : Int) ≤ (u : Int) + (v : Int) := by omega
        have hp2 : (u : Int) + (v : Int) ≤ (u : Int) + (v : Int) + 4 := by omega
        have hp3 : (u : Int) + (v : Int) ≤ (cap : Int) := by omega
        have hp4 : (u : Int) + (v : Int) + 4 ≤ (cap : Int) := by omega
        have hne : ¬ cap = u + v := by omega
        have hpre : ∀ w, IsB w a n cap l → IsB w a (u + v) cap (l.take (u + v)) := fun w h => IsB_pre h (by omega) (by omega) (Nat.le_refl _)
        have hpc : ∀ w, IsB w a n cap l → (convert 32 9 (.slice (a.map (fun x => x.add (u + v))) 4 (cap - (u + v)))).run Try.prog w = .ok (.string (strOf ((l.drop (u + v)).take 4))) w := fun w h => by
          have := IsB.piece h (lo := u + v) (hi := u + v + 4) (mx := cap) (a' := a.map (fun x => x.add (u + v))) (by omega) (by omega) (by omega) (by omega) (by rw [if_neg hne, Nat.mul_one]) (by intro h; omega)
          rw [show u + v + 4 - (u + v) = 4 from by omega] at this
          exact conv_str this
        have hK2 : ∀ w1 w2, (IsB w1 a n cap l ∧ Below w.heap.size w w1 ∧ (convert 32 9 (.slice (a.map (fun x => x.add (u + v))) 4 (cap - (u + v)))).run Try.prog w1 = .ok (.string (strOf ((l.drop (u + v)).take 4))) w1) → Below w1.heap.size w1 w2 →
            (IsB w2 a n cap l ∧ Below w.heap.size w w2 ∧ (convert 32 9 (.slice (a.map (fun x => x.add (u + v))) 4 (cap - (u + v)))).run Try.prog w2 = .ok (.string (strOf ((l.drop (u + v)).take 4))) w2) :=
          fun w1 w2 h hb => ⟨h.1.later hb, h.2.1.trans (hb.mono h.2.1.size), hpc _ (h.1.later hb)⟩
        have hS0 : IsB w1.drew a n cap l ∧ Below w.heap.size w w1.drew ∧ (convert 32 9 (.slice (a.map (fun x => x.add (u + v))) 4 (cap - (u + v)))).run Try.prog w1.drew = .ok (.string (strOf ((l.drop (u + v)).take 4))) w1.drew :=
          ⟨h1, hb1.drew, hpc _ h1⟩
        go_wp2_with fail
        go_region_held (fun w' => IsB w' a n cap l ∧ Below w.heap.size w w' ∧ (convert 32 9 (.slice (a.map (fun x => x.add (u + v))) 4 (cap - (u + v)))).run Try.prog w' = .ok (.string (strOf ((l.drop (u + v)).take 4))) w')
          (first | assumption | exact hK2 _ _ (by assumption) (by assumption))
          (first
            | (go_at_call 71; refine (refSum_c _ _ _ (l.take (u + v)) ?_ _ (hpre _ (And.left (by assumption)))).mono ?_; (omega); rintro e w3 ⟨rfl, rfl⟩)
            | (go_at_call 70; refine (refFour_c _ (crc_lt _) _).mono ?_; rintro e w4 ⟨v4, rfl, ho4, hb4⟩; obtain ⟨a4, n4, c4, rfl, hs4⟩ := ho4.slice'; obtain rfl := four_len hs4; have hcv := conv_str hs4))
        rename_i hH
        obtain ⟨h5, hB5, -⟩ := hH
        by_cases heq : fourB (crc (l.take (u + v))) = (l.drop (u + v)).take 4
        · have ho2 := HO.out
          rw [if_neg (not_not_intro heq)] at ho2
          have HO2 := Lib.hid ho2; clear ho2
          have hb : (!((strOf (fourB (crc (l.take (u + v))))).toList == (strOf ((l.drop (u + v)).take 4)).toList)) = false := by rw [strOf_toList_beq, decide_eq_true heq]; rfl
          have hu0 : (0 : Int) ≤ (u : Int) := by omega
          have hu1 : (u : Int) ≤ (u : Int) + (v : Int) := by omega
          have hfin : IsB w4 (if cap = u then a else a.map (fun x => x.add u)) v (cap - u) ((l.take (u + v)).drop u) := by
            have := IsB.piece h5 (lo := u) (hi := u + v) (mx := cap) (a' := if cap = u then a else a.map (fun x => x.add u)) (by omega) (by omega) (by omega) (by omega) (by rw [Nat.mul_one]) (by intro h; omega)
            rw [List.drop_take]
            rwa [show u + v - u = v from by omega] at this ⊢
          have hcu : ¬ cap = u := by omega
          rw [if_neg hcu] at hfin
          have hE : ((u + v + 4 : Nat) : Int) = (u : Int) + (v : Int) + 4 := by push_cast; rfl
          clear hK2 hpc hpre
          rw [hb]
          go_wp2_with fail
          go_ret3
          rw [HO2.out]
          exact ⟨_, _, _, by dsimp only; rw [hE]; rfl, hfin, hB5⟩
        · have ho2 := HO.out
          rw [if_pos heq] at ho2
          have HO2 := Lib.hid ho2; clear ho2
          have hb : (!((strOf (fourB (crc (l.take (u + v))))).toList == (strOf ((l.drop (u + v)).take 4)).toList)) = true := by rw [strOf_toList_beq, decide_eq_false heq]; rfl
          clear hK2 hpc hpre
          rw [hb]
          go_wp2_with fail
          go_ret3
          rw [HO2.out]
          exact ⟨none, 0, 0, rfl, IsB.nil _, hB5⟩
  · rw [if_pos e0] at ho
    have HO := Lib.hid ho; clear ho hx10 hz
    have ex : ((x : Int) != 0) = true := by simp; omega
    clear e0
    go_wp2_with fail
    go_ret3
    rw [HO.out]
    exact ⟨none, 0, 0, rfl, IsB.nil _, hb1⟩
end Go.Proofs.Ytknndpncdnhnpaa
