import Derived.Test.YtfkncnoomablaaaLawA
namespace Go.Proofs.Ytfkncnoomablaaa
open Go.RowKit Go.Cas

set_option maxRecDepth 100000 in
set_option maxHeartbeats 4000000 in
theorem sealOpens_c (a : Option Addr) (n cap : Nat) (l : List UInt8) (w : World) (h : IsB w a n cap l) :
    Calls Try.prog 5 #[.slice a n cap] w fun e w' => e = .returned (.bool true) ∧ Below w.heap.size w w' := by
  have hl := h.len
  go_enter Try.func5, Try.ntmps5
  by_cases hn : 2000 < n
  · go_wp2_with fail
    refine (works_c _).mono ?_
    rintro e w1 ⟨rfl, hb1⟩
    go_wp2_with fail
    go_ret
    exact ⟨rfl, hb1⟩
  go_wp2_with fail
  refine (lent_c a n cap l (by omega) _ h).mono ?_
  rintro e w1 ⟨a1, c1, rfl, ho1, hb1⟩
  have hs1 := ho1.isB
  have hi1 : IsB w1 a1 (n + 1) c1 (l ++ [77]) := by simpa [hl] using hs1
  obtain ⟨b1, o1, rfl, -⟩ := hi1.some_of_lt (by have := hi1.le; omega)
  have hc1 := hi1.le
  have hp1 : IsB w1 (some ⟨b1, o1, none⟩) n c1 l := by
    have := IsB_pre hi1 (m := n) (c := c1) (by omega) (by omega) (Nat.le_refl _)
    rwa [List.take_append_of_le_length (by omega), List.take_of_length_le (by omega)] at this
  have h1 := h.later hb1
  go_wp2_with fail
  refine (open_c _ n c1 l (by omega) _ hp1).mono ?_
  rintro e w2 ⟨v2, rfl, ho2, hb2⟩
  obtain ⟨a2, n2, c2, rfl, hs2⟩ := ho2.slice'
  have hB2 := below_then hb1 hb2
  have h2 := h.later hB2
  go_wp2_with fail
  refine (refOpen_c a n cap l (by omega) _ h2).mono ?_
  rintro e w3 ⟨a3, n3, c3, rfl, hs3, hb3⟩
  have hB3 := below_then hB2 hb3
  have h3 := h.later hB3
  have hs23 := hs2.later hb3
  have hp3 := (hp1.later hb2).later hb3
  have hi3 := (hi1.later hb2).later hb3
  generalize (openB l).1 = O1 at *
  generalize (openB l).2.1 = O2 at *
  generalize (openB l).2.2 = O3 at *
  have hv1 := conv_str hs23
  have hv2 := conv_str hs3
  have hv3 := conv_str hp3
  have hv4 := conv_str h3
  have hcell := hi3.cell (i := n) (by omega)
  rw [getD_last l 77 hl] at hcell
  have hW : IntKind.i64.wrap ((n : Int) + 1) = (n : Int) + 1 := i64_in (by omega) (by omega)
  have hq1 : (n : Int) + 1 ≤ (c1 : Int) := by omega
  have hq2 : (n : Int) < (n : Int) + 1 := by omega
  have hq3 : ((n : Int) + 1).toNat = n + 1 := by omega
  have hq0 : (0 : Int) ≤ (n : Int) := by omega
  go_wp2_with (first | (go_at_call 16; refine (num_c _ _).mono ?_; rintro e w' ⟨rfl, rfl⟩))
  refine (works_c _).mono ?_
  rintro e w8 ⟨rfl, hb8⟩
  go_wp2_with fail
  go_ret
  exact ⟨rfl, below_then hB3 hb8⟩

set_option maxRecDepth 100000 in
set_option maxHeartbeats 4000000 in
theorem sealFrames_c (a : Option Addr) (n cap : Nat) (l : List UInt8) (a' : Option Addr) (n' cap' : Nat) (l' : List UInt8) (w : World) (h : IsB w a n cap l) (h' : IsB w a' n' cap' l') :
    Calls Try.prog 4 #[.slice a n cap, .slice a' n' cap'] w fun e w' => e = .returned (.bool true) ∧ Below w.heap.size w w' := by
  have hl := h.len
  have hl' := h'.len
  go_enter Try.func4, Try.ntmps4
  by_cases hn : 2000 < n
  · go_wp2_with fail
    refine (works_c _).mono ?_
    rintro e w1 ⟨rfl, hb1⟩
    go_wp2_with fail
    go_ret
    exact ⟨rfl, hb1⟩
  by_cases hn' : 500 < n'
  · go_wp2_with fail
    refine (works_c _).mono ?_
    rintro e w1 ⟨rfl, hb1⟩
    go_wp2_with fail
    go_ret
    exact ⟨rfl, hb1⟩
  go_wp2_with fail
  refine (lent_c a n cap l (by omega) _ h).mono ?_
  rintro e w1 ⟨a1, c1, rfl, ho1, hb1⟩
  have hs1 := ho1.isB
  have hi1 : IsB w1 a1 (n + 1) c1 (l ++ [77]) := by simpa [hl] using hs1
  obtain ⟨b1, o1, rfl, -⟩ := hi1.some_of_lt (by have := hi1.le; omega)
  have hc1 := hi1.le
  have hp1 : IsB w1 (some ⟨b1, o1, none⟩) n c1 l := by
    have := IsB_pre hi1 (m := n) (c := c1) (by omega) (by omega) (Nat.le_refl _)
    rwa [List.take_append_of_le_length (by omega), List.take_of_length_le (by omega)] at this
  go_wp2_with fail
  refine (seal_ok _ n c1 l (by omega) _ hp1).mono ?_
  rintro e w2 ⟨v2, rfl, ho2, hb2⟩
  obtain ⟨a2, n2, c2, rfl, hs2⟩ := ho2.slice'
  have hn2 := hs2.len
  have hfl := frameB_len l
  have hN10 := numB_len l.length
  have hB2 := below_then hb1 hb2
  have h2 := h.later hB2
  have hof := openB_frameB (b := l) (by omega) l'
  go_wp2_with fail
  refine (refSeal_ok a n cap l (by omega) _ h2).mono ?_
  rintro e w3 ⟨v3, rfl, ho3, hb3⟩
  obtain ⟨a3, n3, c3, rfl, hs3⟩ := ho3.slice'
  have hB3 := below_then hB2 hb3
  have h3 := h.later hB3
  have h3' := h'.later hB3
  have hs23 := hs2.later hb3
  have hv1 := conv_str hs23
  have hv2 := conv_str hs3
  have hnew : OwnB (w3.alloc (.cells #[] 5)) w3.heap.size 5 (.slice (some ⟨w3.heap.size, 0, none⟩) 0 0) [] := ownB_new w3 5 [] (by decide) (cs := #[]) rfl
  have tok : True := trivial
  generalize hF : frameB l = F at *
  go_wp2_with (first
    | (go_at_call 16; refine (num_c _ _).mono ?_; rintro e w' ⟨rfl, rfl⟩)
    | (at_builtin; have _t := tok; refine wpList_append_bs rfl _ _ 22 rfl w3.heap.size 5 _ Try.underlying22 infoU8 rfl [] rfl hnew _ n2 c2 F rfl (hs23.alloc _) (by omega) (by simp) ?_; intro a4 cap4 w4 ho4 hb4 _; clear tok; simp only [Nat.zero_add, List.nil_append] at ho4; have hz4 := hb4.size; simp only [World.size_alloc] at hz4; have h4' := (h3'.alloc (.cells #[] 5)).below hb4 (fun ad ha => h3'.lt ha))
    | (at_builtin; refine wpList_append_bs rfl _ _ 22 rfl w3.heap.size 5 _ Try.underlying22 infoU8 rfl F rfl ho4 _ n' cap' l' rfl h4' (by omega) (by omega) ?_; intro a5 cap5 w5 ho5 hb5 _))
  have hB35 : Below w3.heap.size w3 w5 := ((below_alloc w3 _).trans hb4).trans hb5
  have hs5 := ho5.isB
  refine (open_c a5 (n2 + n') cap5 (F ++ l') (by omega) _ (by simpa [hn2, hl'] using hs5)).mono ?_
  rintro e w6 ⟨v6, rfl, ho6, hb6⟩
  rw [hof] at ho6 ⊢
  obtain ⟨a6, n6, c6, rfl, hs6⟩ := ho6.slice'
  have hB6 := below_then (below_then hB3 hB35) hb6
  have h6 := h.later hB6
  have hv3 := conv_str hs6
  have hv4 := conv_str h6
  have hn26 : ((F.length : Nat) : Int) = (n2 : Int) := by rw [hn2]
  go_wp2_with (first | (go_at_call 16; refine (num_c _ _).mono ?_; rintro e w' ⟨rfl, rfl⟩))
  refine (works_c _).mono ?_
  rintro e w8 ⟨rfl, hb8⟩
  go_wp2_with fail
  go_ret
  exact ⟨rfl, below_then hB6 hb8⟩
end Go.Proofs.Ytfkncnoomablaaa
