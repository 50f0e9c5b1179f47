import Derived.Test.YtknndpncdnhnpaaSealA
import Derived.Deep.RegionHeld3
namespace Go.Proofs.Ytknndpncdnhnpaa
open Go.RowKit Go.Cas

/-- A call that hands back bytes of its own, a number, and an error. -/
def RetBNE (W : World) (l : List UInt8) (m no : Nat) (x : Ending) (w : World) : Prop := ∃ v, x = .returned (.tuple #[v, .int .i64 (m : Int), .int .i64 (no : Int)]) ∧ OwnB w W.heap.size 5 v l ∧ Below W.heap.size W w

theorem held_later {B : Nat} {v : Value} {a : Option Addr} {n cap : Nat} {l : List UInt8} {w0 w w' : World} (hb : Below w.heap.size w w')
    (h : w.cell? ⟨B, 0, none⟩ = some v ∧ IsB w a n cap l ∧ Below w0.heap.size w0 w) : w'.cell? ⟨B, 0, none⟩ = some v ∧ IsB w' a n cap l ∧ Below w0.heap.size w0 w' :=
  ⟨(hb.cell (p := ⟨B, 0, none⟩) (World.block_lt_of_cell? w ⟨B, 0, none⟩ h.1)).trans h.1, h.2.1.later hb, h.2.2.trans (hb.mono h.2.2.size)⟩
theorem upTo_S {B : Nat} {v : Value} {a : Option Addr} {n cap : Nat} {l : List UInt8} {w0 w : World} {m : Int} (k : Nat) (h0 : m = (k : Int)) (hm : k ≤ n)
    (h : w.cell? ⟨B, 0, none⟩ = some v ∧ IsB w a n cap l ∧ Below w0.heap.size w0 w) :
    Calls Try.prog 74 #[.agg #[.slice a n cap], .int .i64 m] w fun e w' => ∃ a', e = .returned (.slice a' k k) ∧ IsB w' a' k k (l.take k) ∧ Below w.heap.size w w' := by
  subst h0
  exact upTo_c a n cap k l hm w h.2.1
theorem one_len {l : List UInt8} {n m : Nat} (hl : l.length = n) (hn : n ≤ 2 ^ 40) : ∀ x ∈ [l.take m], x.length ≤ 2 ^ 40 := by
  intro x hx
  simp only [List.mem_singleton] at hx
  subst hx
  rw [List.length_take]
  omega
theorem four_len {w : World} {a : Option Addr} {n cap m : Nat} (h : IsB w a n cap (fourB m)) : n = 4 := by rw [← h.len]; exact fourB_len _
set_option maxRecDepth 100000 in
set_option maxHeartbeats 4000000 in
theorem open_c (a : Option Addr) (n cap : Nat) (l : List UInt8) (hn : n ≤ 2 ^ 40) (w : World) (h : IsB w a n cap l) : Calls Try.prog 56 #[.slice a n cap] w (RetBNE w (openB l).1 (openB l).2.1 (openB l).2.2) := by
  have hl := h.len
  have HL := Lib.hid hl; clear hl
  go_enter Try.func56, Try.ntmps56
  go_wp2_with fail
  refine wp_scope_ahead 0 (fun a1 w1 => ∃ (no : Nat) (u0 u1 u2 u3 u5 u6 u7 u8 u9 u10 u11 u12 u13 u14 u15 u16 u17 u18 u19 u20 u21 u22 u23 u24 u25 u26 u27 u28 u29 u30 u31 u32 u33 u34 u35 u36 u37 u38 u39 u40 u41 u42 u43 u44 u45 u46 u47 u48 u49 u50 u51 u52 u53 u54 u55 u56 : Value), a1 = { tmps := #[u0, u1, u2, u3, .int .i64 (no : Int), u5, u6, u7, u8, u9, u10, u11, u12, u13, u14, u15, u16, u17, u18, u19, u20, u21, u22, u23, u24, u25, u26, u27, u28, u29, u30, u31, u32, u33, u34, u35, u36, u37, u38, u39, u40, u41, u42, u43, u44, u45, u46, u47, u48, u49, u50, u51, u52, u53, u54, u55, u56], defers := [] } ∧ openB l = ([], 0, no) ∧ Below w.heap.size w w1) rfl ?_ ?_
  · go_wp2_with fail
    refine (read_c a n cap l hn _ (h.alloc _)).mono ?_
    rintro e w1 ⟨rfl, hb1⟩
    have hB1 : Below w.heap.size w w1 := (below_alloc w _).trans (hb1.mono (by simp))
    have hx1 : w1.cell? ⟨w.heap.size, 0, none⟩ = some (.slice a n cap) := (hb1.cell (by simp)).trans (World.cell?_alloc_new _ _ _ _)
    have h1 := h.later hB1
    have hrb := readN_bound l
    have ho : openB l = openB l := rfl
    conv at ho => rhs; unfold openB
    generalize readN l = R at ho hrb
    obtain ⟨v, u, x⟩ := R
    dsimp only at ho hrb
    have hu := hrb.2.1
    have hz := hrb.2.2.2.1
    have hx10 := hrb.2.2.1
    have hv := hrb.1
    have HV := Lib.hid hv; clear hv hrb
    by_cases e0 : x = 0
    · subst e0
      have hx10' := hx10 rfl
      clear hx10 hz
      rw [if_neg (by simp)] at ho
      by_cases e1 : 65536 < v
      · rw [if_pos e1] at ho
        have HO := Lib.hid ho; clear ho
        go_wp2_with fail
        go_step3
        simp only [Exit.then]
        exact ⟨rfl, 3, _, _, _, _, _, _, _, _, _, _, _, _, _, _, _, _, _, _, _, _, _, _, _, _, _, _, _, _, _, _, _, _, _, _, _, _, _, _, _, _, _, _, _, _, _, _, _, _, _, _, _, _, _, _, _, _, rfl, HO.out, hB1⟩
      · rw [if_neg e1] at ho
        have hun : u ≤ n := by have := HL.out; omega
        by_cases e2 : n < u + v + 4
        · rw [if_pos (by have := HL.out; omega)] at ho
          have HO := Lib.hid ho; clear ho
          go_wp2_with fail
          go_step3
          simp only [Exit.then]
          exact ⟨rfl, 110, _, _, _, _, _, _, _, _, _, _, _, _, _, _, _, _, _, _, _, _, _, _, _, _, _, _, _, _, _, _, _, _, _, _, _, _, _, _, _, _, _, _, _, _, _, _, _, _, _, _, _, _, _, _, _, _, rfl, HO.out, hB1⟩
        · rw [if_neg (by have := HL.out; omega)] at ho
          have HO := Lib.hid ho; clear ho
          have hW : IntKind.i64.wrap ((u : Int) + (v : Int) + 4) = (u : Int) + (v : Int) + 4 := i64_in (by omega) (by omega)
          have hN2 : ((u : Int) + (v : Int)).toNat = u + v := by omega
          have hrest : ∀ (w2 : World) (ap : Option Addr), IsB w2 ap (u + v + 4) (u + v + 4) (l.take (u + v + 4)) → IsB w2 (ap.map (fun x => x.add (u + v))) 4 4 ((l.take (u + v + 4)).drop (u + v)) :=
            fun w2 ap hp => IsB_rest hp (u + v) rfl (by omega) (by omega) (by omega) (by rw [if_neg (by omega)])
          obtain ⟨q, hq⟩ : ∃ q, decide (fourB (crc (l.take (u + v))) = (l.take (u + v + 4)).drop (u + v)) = q := ⟨_, rfl⟩
          have HQ := Lib.hid hq; clear hq
          have h4le : 4 ≤ 2 ^ 40 := by decide
          have hp1 : (0 : Int) ≤ (u : Int) + (v : Int) := by omega
          have hp2 : (u : Int) + (v : Int) ≤ (u : Int) + (v : Int) + 4 := by omega
          go_wp2_with fail
          go_region_held3 (fun w' => w'.cell? ⟨w.heap.size, 0, none⟩ = some (.slice a n cap) ∧ IsB w' a n cap l ∧ Below w.heap.size w w')
            (first | assumption | exact ⟨hx1, h1, hB1.drew⟩ | exact held_later (by assumption) (by assumption) | exact held_later (below_alloc _ _) (by assumption))
            (first
              | (go_at_call 74; refine (upTo_S (u + v) (by omega) (by omega) (by assumption)).mono ?_; rintro e w2 ⟨ap, rfl, hp, hbp⟩)
              | (go_at_call 74; refine (upTo_S (u + v + 4) (by omega) (by omega) (by assumption)).mono ?_; rintro e w2 ⟨ap, rfl, hp, hbp⟩)
              | (go_at_call 61; refine (sum_c _ 1 1 _ (by decide) (one_len HL.out hn) _ (IsBB.new1 hp _)).mono ?_; rintro e w3 ⟨rfl, hb3⟩)
              | (go_at_call 60; refine (four_c _ (crc_lt _) _).mono ?_; rintro e w4 ⟨v4, rfl, ho4, hb4⟩; obtain ⟨a4, n4, c4, rfl, hs4⟩ := ho4.slice'; obtain rfl := four_len hs4)
              | (go_at_call 73; refine (equal_c a4 4 c4 _ _ _ _ _ h4le h4le _ (hs4.later hbp) (hrest _ _ hp)).mono ?_; rintro e w5 ⟨rfl, hb5⟩; rw [HQ.out]))
          rename_i hH
          obtain ⟨hx5, h5, hB5⟩ := hH
          cases q with
          | false =>
            have hne : fourB (crc (l.take (u + v))) ≠ (l.drop (u + v)).take 4 := by
              have := of_decide_eq_false HQ.out
              rwa [List.drop_take, show u + v + 4 - (u + v) = 4 from by omega] at this
            have ho2 := HO.out
            rw [if_pos hne] at ho2
            have HO2 := Lib.hid ho2; clear ho2
            go_wp2_with fail
            go_step3
            simp only [Exit.then]
            exact ⟨rfl, 120, _, _, _, _, _, _, _, _, _, _, _, _, _, _, _, _, _, _, _, _, _, _, _, _, _, _, _, _, _, _, _, _, _, _, _, _, _, _, _, _, _, _, _, _, _, _, _, _, _, _, _, _, _, _, _, _, rfl, HO2.out, hB5⟩
          | true =>
            have heq : fourB (crc (l.take (u + v))) = (l.drop (u + v)).take 4 := by
              have := of_decide_eq_true HQ.out
              rwa [List.drop_take, show u + v + 4 - (u + v) = 4 from by omega] at this
            have ho2 := HO.out
            rw [if_neg (not_not_intro heq)] at ho2
            have HO2 := Lib.hid ho2; clear ho2
            have hu0 : (0 : Int) ≤ (u : Int) := by omega
            have hu1 : (u : Int) ≤ (u : Int) + (v : Int) := by omega
            go_wp2_with fail
            refine (upTo_S (u + v) (by omega) (by omega) ⟨hx5, h5, hB5⟩).mono ?_
            rintro e w6 ⟨ap6, rfl, hp6, hb6⟩
            go_wp2_with fail
            · obtain rfl : v = 0 := by assumption
              refine (clone_c _ _ _ (List.drop u (List.take (u + 0) l)) (by decide) _ (IsB_rest hp6 u (lo := u) rfl (by omega) (by omega) (by omega) (by rw [if_pos (by omega)]))).mono ?_
              rintro e w7 ⟨v7, rfl, ho7, hb7⟩
              have hE : ((u + 0 + 4 : Nat) : Int) = (u : Int) + 4 := by push_cast; omega
              go_wp2_with fail
              go_ret3
              rw [HO2.out]
              exact ⟨_, by dsimp only; rw [hE]; rfl, ho7.mono (Nat.le_trans hB5.size hb6.size), (hB5.trans (hb6.mono hB5.size)).trans (hb7.mono (Nat.le_trans hB5.size hb6.size))⟩
            · have hz : ¬ v = 0 := by assumption
              refine (clone_c _ _ _ (List.drop u (List.take (u + v) l)) (by omega) _ (IsB_rest hp6 u (lo := u) rfl (by omega) (by omega) (by omega) (by rw [if_neg (by omega)]))).mono ?_
              rintro e w7 ⟨v7, rfl, ho7, hb7⟩
              have hE : ((u + v + 4 : Nat) : Int) = (u : Int) + (v : Int) + 4 := by push_cast; rfl
              go_wp2_with fail
              go_ret3
              rw [HO2.out]
              exact ⟨_, by dsimp only; rw [hE]; rfl, ho7.mono (Nat.le_trans hB5.size hb6.size), (hB5.trans (hb6.mono hB5.size)).trans (hb7.mono (Nat.le_trans hB5.size hb6.size))⟩
    · rw [if_pos e0] at ho
      have HO := Lib.hid ho; clear ho hx10 hz
      have ex : ((x : Int) != 0) = true := by simp; omega
      clear e0
      go_wp2_with fail
      go_step3
      simp only [Exit.then]
      exact ⟨rfl, x, _, _, _, _, _, _, _, _, _, _, _, _, _, _, _, _, _, _, _, _, _, _, _, _, _, _, _, _, _, _, _, _, _, _, _, _, _, _, _, _, _, _, _, _, _, _, _, _, _, _, _, _, _, _, _, _, rfl, HO.out, hB1⟩
  · rintro a1 w1 ⟨no, u0, u1, u2, u3, u5, u6, u7, u8, u9, u10, u11, u12, u13, u14, u15, u16, u17, u18, u19, u20, u21, u22, u23, u24, u25, u26, u27, u28, u29, u30, u31, u32, u33, u34, u35, u36, u37, u38, u39, u40, u41, u42, u43, u44, u45, u46, u47, u48, u49, u50, u51, u52, u53, u54, u55, u56, rfl, hrd, hb1⟩
    have HR := Lib.hid hrd; clear hrd
    go_wp2
    simp only [jump_ret]
    go_ret3
    rw [HR.out]
    exact ⟨_, rfl, World.ownsRow_nil _ _ _ _, hb1⟩
end Go.Proofs.Ytknndpncdnhnpaa
