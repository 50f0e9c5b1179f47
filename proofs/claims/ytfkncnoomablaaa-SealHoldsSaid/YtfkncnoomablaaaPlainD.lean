import Derived.Test.YtfkncnoomablaaaPlainC
namespace Go.Cas

/-- A part of a frame is none. -/
theorem openB_part {b : List UInt8} (h : b.length ≤ 65536) {c : Nat} (hc : c < (frameB b).length) : (openB ((frameB b).take c)).2.2 ≠ 0 := by
  intro h0
  have hb := (openB_bound ((frameB b).take c)).1 h0
  have hu : (openB ((frameB b).take c)).2.1 ≤ c := by have := hb.2.1; rw [List.length_take] at this; omega
  have h1 := openB_take h0 ((frameB b).drop (openB ((frameB b).take c)).2.1)
  rw [List.take_take, Nat.min_eq_left hu, List.take_append_drop] at h1
  have h2 := openB_frameB h []
  rw [List.append_nil] at h2
  rw [h2] at h1
  have h3 : (frameB b).length = (openB ((frameB b).take c)).2.1 := by rw [← h1]
  omega
/-- The frames of these bytes, one behind the other. -/
def allB (ls : List (List UInt8)) : List UInt8 := (ls.map frameB).flatten
theorem allB_nil : allB [] = [] := rfl
theorem allB_cons (b : List UInt8) (ls : List (List UInt8)) : allB (b :: ls) = frameB b ++ allB ls := rfl
theorem allB_snoc (ls : List (List UInt8)) (b : List UInt8) : allB (ls ++ [b]) = allB ls ++ frameB b := by simp [allB]
theorem allB_take_succ (ls : List (List UInt8)) {i : Nat} (h : i < ls.length) : allB (ls.take (i + 1)) = allB (ls.take i) ++ frameB ls[i] := by
  rw [List.take_succ_eq_append_getElem h, allB_snoc]
/-- Of frames that are cut those are told that are whole. -/
theorem framesF_cut : ∀ (ls : List (List UInt8)) (k at_ c : Nat), (∀ b ∈ ls, b.length ≤ 65536) → c ≤ (allB ls).length → c < k →
    ∃ m, m ≤ ls.length ∧ (framesF k at_ ((allB ls).take c)).1.map Prod.snd = ls.take m ∧ (framesF k at_ ((allB ls).take c)).2 = at_ + (allB (ls.take m)).length ∧ (allB (ls.take m)).length ≤ c ∧ (m = ls.length ∨ c < (allB (ls.take (m + 1))).length)
  | [], 0, _, _, _, _, h => by omega
  | [], k + 1, at_, c, _, hc, _ => by
    have h0 : c = 0 := by simp [allB_nil] at hc; exact hc
    subst h0
    have h1 : (openB []).2.2 ≠ 0 := by
      intro h
      have := (openB_bound []).1 h
      simp at this
      omega
    refine ⟨0, Nat.le_refl _, ?_, ?_, Nat.zero_le _, .inl rfl⟩
    · rw [List.take_zero, framesF, if_neg h1]; rfl
    · rw [List.take_zero, framesF, if_neg h1]; rfl
  | b :: ls, 0, _, _, _, _, h => by omega
  | b :: ls, k + 1, at_, c, hl, hc, hk => by
    rw [allB_cons] at hc ⊢
    by_cases hlt : c < (frameB b).length
    · have h1 := openB_part (hl b (by simp)) hlt
      rw [List.take_append_of_le_length (by omega), framesF, if_neg h1]
      exact ⟨0, Nat.zero_le _, rfl, rfl, Nat.zero_le _, .inr (by simp [allB]; omega)⟩
    · have hge : (frameB b).length ≤ c := by omega
      have e : (frameB b ++ allB ls).take c = frameB b ++ (allB ls).take (c - (frameB b).length) := by
        rw [List.take_append, List.take_of_length_le hge]
      rw [e]
      have ho := openB_frameB (hl b (by simp)) ((allB ls).take (c - (frameB b).length))
      rw [framesF, ho, if_pos rfl]
      dsimp only
      rw [List.drop_left' rfl]
      have hpos : 0 < (frameB b).length := by rw [frameB_len]; omega
      obtain ⟨m, h1, h2, h3, h4, h5⟩ := framesF_cut ls k (at_ + (frameB b).length) (c - (frameB b).length) (fun x hx => hl x (by simp [hx])) (by rw [List.length_append] at hc; omega) (by omega)
      refine ⟨m + 1, by simp; omega, ?_, ?_, ?_, ?_⟩
      · rw [List.map_cons, h2, List.take_succ_cons]
      · rw [h3, List.take_succ_cons, allB_cons, List.length_append]; omega
      · rw [List.take_succ_cons, allB_cons, List.length_append]; omega
      · rcases h5 with h5 | h5
        · left; simp [h5]
        · right; rw [List.take_succ_cons, allB_cons, List.length_append]; omega
theorem frames_cut (ls : List (List UInt8)) {c : Nat} (hl : ∀ b ∈ ls, b.length ≤ 65536) (hc : c ≤ (allB ls).length) :
    ∃ m, m ≤ ls.length ∧ (framesB ((allB ls).take c)).map Prod.snd = ls.take m ∧ (framesB ((allB ls).take c)).length = m ∧ wholeB ((allB ls).take c) = (allB (ls.take m)).length ∧ (allB (ls.take m)).length ≤ c ∧ (m = ls.length ∨ c < (allB (ls.take (m + 1))).length) := by
  have hlen : ((allB ls).take c).length = c := by rw [List.length_take]; omega
  obtain ⟨m, h1, h2, h3, h4, h5⟩ := framesF_cut ls (c + 1) 0 c hl hc (by omega)
  unfold framesB wholeB
  rw [hlen]
  have h6 : ((framesF (c + 1) 0 ((allB ls).take c)).1.map Prod.snd).length = m := by rw [h2, List.length_take]; omega
  rw [List.length_map] at h6
  exact ⟨m, h1, h2, h6, by omega, h4, h5⟩
/-- How long bytes are, counted as the law does. -/
def cntB (ls : List (List UInt8)) : Nat := (ls.map fun b => min b.length 1001).sum
theorem cntB_take_succ (ls : List (List UInt8)) {i : Nat} (h : i < ls.length) : cntB (ls.take (i + 1)) = cntB (ls.take i) + min ls[i].length 1001 := by
  rw [List.take_succ_eq_append_getElem h, cntB, List.map_append, List.sum_append]; simp [cntB, -List.map_take]
theorem cntB_mem : ∀ (ls : List (List UInt8)), ∀ b ∈ ls, min b.length 1001 ≤ cntB ls
  | [], b, h => by simp at h
  | a :: ls, b, h => by
    rcases List.mem_cons.1 h with rfl | h
    · simp [cntB]
    · have := cntB_mem ls b h; simp [cntB] at this ⊢; omega
theorem cntB_small {ls : List (List UInt8)} (h : cntB ls ≤ 1000) : ∀ b ∈ ls, b.length ≤ 1000 := fun b hb => by have := cntB_mem ls b hb; omega
theorem cntB_le_take (ls : List (List UInt8)) (i : Nat) : cntB (ls.take i) ≤ 1001 * i := by
  induction i with
  | zero => simp [cntB]
  | succ i ih =>
    by_cases h : i < ls.length
    · rw [cntB_take_succ ls h]; omega
    · rw [List.take_of_length_le (by omega)] at ih ⊢; omega
theorem frameB_small {b : List UInt8} (h : b.length ≤ 1000) : (frameB b).length ≤ 1014 := by
  have := frameB_len b
  have := numB_len b.length
  omega
theorem frameB_pos (b : List UInt8) : b.length + 5 ≤ (frameB b).length := by
  have := frameB_len b
  have := numB_pos b.length
  omega
theorem allB_small {ls : List (List UInt8)} (h : ∀ b ∈ ls, b.length ≤ 1000) (i : Nat) : (allB (ls.take i)).length ≤ 1014 * i := by
  induction i with
  | zero => simp [allB]
  | succ i ih =>
    by_cases hi : i < ls.length
    · rw [allB_take_succ ls hi, List.length_append]
      have := frameB_small (h _ (List.getElem_mem hi))
      omega
    · rw [List.take_of_length_le (by omega)] at ih ⊢; omega
end Go.Cas
