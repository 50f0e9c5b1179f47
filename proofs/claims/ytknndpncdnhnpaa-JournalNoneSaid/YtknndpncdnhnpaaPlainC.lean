import Derived.Test.YtknndpncdnhnpaaPlain
namespace Go.Cas

/-- A frame of these bytes: where it begins there is one, and it has its bytes. -/
theorem framesF_mem (L : List UInt8) : ∀ (k at_ : Nat), at_ ≤ L.length → ∀ x ∈ (framesF k at_ (L.drop at_)).1, x.1 ≤ L.length ∧ (openB (L.drop x.1)).2.2 = 0 ∧ x.2 = (openB (L.drop x.1)).1
  | 0, _, _, x, hx => by simp [framesF] at hx
  | k + 1, at_, hat, x, hx => by
    rw [framesF] at hx
    split at hx
    · rename_i h
      have hb := (openB_bound (L.drop at_)).1 h
      rw [List.length_drop] at hb
      rw [List.drop_drop] at hx
      rcases List.mem_cons.1 hx with rfl | hx
      · exact ⟨hat, h, rfl⟩
      · exact framesF_mem L k _ (by omega) x hx
    · simp at hx
theorem framesF_end (L : List UInt8) : ∀ (k at_ : Nat), (framesF k at_ (L.drop at_)).2 = match (framesF k at_ (L.drop at_)).1.getLast? with | none => at_ | some x => x.1 + (openB (L.drop x.1)).2.1
  | 0, _ => rfl
  | k + 1, at_ => by
    rw [framesF]
    split
    · rename_i h
      rw [List.drop_drop]
      have ih := framesF_end L k (at_ + (openB (L.drop at_)).2.1)
      dsimp only
      rw [ih]
      cases hr : (framesF k (at_ + (openB (L.drop at_)).2.1) (L.drop (at_ + (openB (L.drop at_)).2.1))).1 with
      | nil => simp
      | cons y ys => rw [List.getLast?_cons_cons]; simp only [List.getLast?_cons]
    · rfl
/-- Where the first i frames end. -/
def endB (l : List UInt8) (i : Nat) : Nat := match ((framesB l).take i).getLast? with | none => 0 | some x => x.1 + (openB (l.drop x.1)).2.1
theorem endB_all (l : List UInt8) : endB l (framesB l).length = wholeB l := by
  have := framesF_end l (l.length + 1) 0
  rw [List.drop_zero] at this
  rw [wholeB, this, endB, List.take_length]
  rfl
theorem endB_succ (l : List UInt8) {i : Nat} (h : i < (framesB l).length) : endB l (i + 1) = (framesB l)[i].1 + (openB (l.drop (framesB l)[i].1)).2.1 := by
  rw [endB, List.take_succ_eq_append_getElem h, List.getLast?_append]
  rfl
theorem frames_mem (l : List UInt8) {x : Nat × List UInt8} (hx : x ∈ framesB l) : x.1 ≤ l.length ∧ (openB (l.drop x.1)).2.2 = 0 ∧ x.2 = (openB (l.drop x.1)).1 := by
  have := framesF_mem l (l.length + 1) 0 (Nat.zero_le _) x
  rw [List.drop_zero] at this
  exact this hx
end Go.Cas
