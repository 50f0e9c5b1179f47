import Derived.Test.YtfkncnoomablaaaSealD
namespace Go.Proofs.Ytfkncnoomablaaa
open Go.RowKit Go.Cas

theorem flat1 (l : List UInt8) : [l].flatten = l := by simp
theorem flat2 (l m : List UInt8) : [l, m].flatten = l ++ m := by simp
theorem len_one {l : List UInt8} {n m : Nat} (hl : l.length = n) (hn : n ≤ m) : ∀ x ∈ [l], x.length ≤ m := by
  intro x hx; simp only [List.mem_singleton] at hx; subst hx; omega
theorem len_two {l l' : List UInt8} {n n' m : Nat} (hl : l.length = n) (hn : n ≤ m) (hl' : l'.length = n') (hn' : n' ≤ m) : ∀ x ∈ [l, l'], x.length ≤ m := by
  intro x hx
  simp only [List.mem_cons, List.not_mem_nil, or_false] at hx
  rcases hx with rfl | rfl <;> omega
theorem getD_last (l : List UInt8) (x : UInt8) {n : Nat} (h : l.length = n) : (l ++ [x]).getD n 0 = x := by
  subst h; simp [List.getD]

set_option maxRecDepth 100000 in
set_option maxHeartbeats 4000000 in
theorem sealSums_c (a : Option Addr) (n cap : Nat) (l : List UInt8) (a' : Option Addr) (n' cap' : Nat) (l' : List UInt8) (w : World) (h : IsB w a n cap l) (h' : IsB w a' n' cap' l') :
    Calls Try.prog 3 #[.slice a n cap, .slice a' n' cap'] w fun e w' => e = .returned (.bool true) ∧ Below w.heap.size w w' := by
  have hl := h.len
  have hl' := h'.len
  go_enter Try.func3, Try.ntmps3
  by_cases hn : 2000 < n
  · go_wp2_with fail
    refine (works_c _).mono ?_
    rintro e w1 ⟨rfl, hb1⟩
    go_wp2_with fail
    go_ret
    exact ⟨rfl, hb1⟩
  by_cases hn' : 2000 < n'
  · go_wp2_with fail
    refine (works_c _).mono ?_
    rintro e w1 ⟨rfl, hb1⟩
    go_wp2_with fail
    go_ret
    exact ⟨rfl, hb1⟩
  go_wp2_with fail
  refine (lent_c a n cap l (by omega) _ h).mono ?_
  rintro e w1 ⟨a1, c1, rfl, ho1, hb1⟩
  have hs1 := ho1.isB
  have hi1 : IsB w1 a1 (n + 1) c1 (l ++ [77]) := by simpa [hl] using hs1
  obtain ⟨b1, o1, rfl, -⟩ := hi1.some_of_lt (by have := hi1.le; omega)
  have hc1 := hi1.le
  have hp1 : IsB w1 (some ⟨b1, o1, none⟩) n c1 l := by
    have := IsB_pre hi1 (m := n) (c := c1) (by omega) (by omega) (Nat.le_refl _)
    rwa [List.take_append_of_le_length (by omega), List.take_of_length_le (by omega)] at this
  have h1 := h.later hb1
  have h1' := h'.later hb1
  go_wp2_with fail
  refine (sum_c _ 2 2 [l, l'] (by decide) (len_two hl (by omega) hl' (by omega)) _ (IsBB.new2 hp1 h1' _)).mono ?_
  rintro e w2 ⟨rfl, hb2⟩
  rw [flat2]
  have hB2 := below_then (below_then hb1 (below_alloc _ _)) hb2
  have h2 := h.later hB2
  have h2' := h'.later hB2
  have hp2 := (hp1.alloc _).later hb2
  have hi2 := (hi1.alloc _).later hb2
  have hnew : OwnB (w2.alloc (.cells #[] 5)) w2.heap.size 5 (.slice (some ⟨w2.heap.size, 0, none⟩) 0 0) [] := ownB_new w2 5 [] (by decide) (cs := #[]) rfl
  have tok : True := trivial
  go_wp2_with (first
    | (at_builtin; have _t := tok; refine wpList_append_bs rfl _ _ 22 rfl w2.heap.size 5 _ Try.underlying22 infoU8 rfl [] rfl hnew _ n cap l rfl (h2.alloc _) (by omega) (by simp) ?_; intro a3 cap3 w3 ho3 hb3 _; clear tok; simp only [Nat.zero_add, List.nil_append] at ho3; have hz3 := hb3.size; simp only [World.size_alloc] at hz3; have h3' := (h2'.alloc (.cells #[] 5)).below hb3 (fun ad ha => h2'.lt ha))
    | (at_builtin; refine wpList_append_bs rfl _ _ 22 rfl w2.heap.size 5 _ Try.underlying22 infoU8 rfl l rfl ho3 _ n' cap' l' rfl h3' (by omega) (by omega) ?_; intro a4 cap4 w4 ho4 hb4 _))
  have hB24 : Below w2.heap.size w2 w4 := ((below_alloc w2 _).trans hb3).trans hb4
  have hs4 := ho4.isB
  refine (refSum_c a4 (n + n') cap4 (l ++ l') (by omega) _ (by simpa [hl, hl'] using hs4)).mono ?_
  rintro e w5 ⟨rfl, rfl⟩
  have hB4 := below_then hB2 hB24
  have h4 := h.later hB4
  have h4' := h'.later hB4
  have hp4 := hp2.later hB24
  have hi4 := hi2.later hB24
  go_wp2_with fail
  refine (sum_c _ 1 1 [l'] (by decide) (len_one hl' (by omega)) _ (IsBB.new1 h4' _)).mono ?_
  rintro e w6 ⟨rfl, hb6⟩
  rw [flat1]
  have hB6 := below_then (below_then hB4 (below_alloc _ _)) hb6
  have h6 := h.later hB6
  have h6' := h'.later hB6
  have hp6 := (hp4.alloc _).later hb6
  have hi6 := (hi4.alloc _).later hb6
  go_wp2_with fail
  refine (refSum_c a' n' cap' l' (by omega) _ h6').mono ?_
  rintro e w7 ⟨rfl, rfl⟩
  have hv1 := conv_str hp6
  have hv2 := conv_str h6
  have hcell := hi6.cell (i := n) (by omega)
  rw [getD_last l 77 hl] at hcell
  have hW : IntKind.i64.wrap ((n : Int) + 1) = (n : Int) + 1 := i64_in (by omega) (by omega)
  have hq1 : (n : Int) + 1 ≤ (c1 : Int) := by omega
  have hq2 : (n : Int) < (n : Int) + 1 := by omega
  have hq3 : ((n : Int) + 1).toNat = n + 1 := by omega
  have hq0 : (0 : Int) ≤ (n : Int) := by omega
  go_wp2_with fail
  refine (works_c _).mono ?_
  rintro e w8 ⟨rfl, hb8⟩
  go_wp2_with fail
  go_ret
  exact ⟨rfl, below_then hB6 hb8⟩
end Go.Proofs.Ytfkncnoomablaaa
