import Derived.Test.YtfkncnoomablaaaPlain
namespace Go.Cas

theorem fourB_at (n : Nat) : (fourB n).length = 4 := fourB_len n

/-- A frame in which one byte behind its head is another: it does not open, and the error is 120. -/
theorem openB_turned {b : List UInt8} (h : b.length ≤ 65536) {p : Nat} {x : UInt8} (h1 : (numB b.length).length ≤ p) (h2 : p < (frameB b).length) (hx : x ≠ (frameB b).getD p 0) :
    openB ((frameB b).set p x) = ([], 0, 120) := by
  have hl := frameB_len b
  generalize hN : numB b.length = N at *
  have hf : frameB b = N ++ (b ++ fourB (crc (N ++ b))) := by rw [← hN]; simp [frameB]
  have hset : (frameB b).set p x = N ++ (b ++ fourB (crc (N ++ b))).set (p - N.length) x := by
    rw [hf, List.set_append_right _ _ h1]
  have hr : readN ((frameB b).set p x) = (b.length, N.length, 0) := by
    rw [hset, ← hN]
    exact readN_numB b.length (by omega) _
  have hlen : ((frameB b).set p x).length = N.length + b.length + 4 := by rw [List.length_set]; exact hl
  have hget : (frameB b).getD p 0 = (b ++ fourB (crc (N ++ b))).getD (p - N.length) 0 := by
    rw [hf, List.getD_eq_getElem?_getD, List.getD_eq_getElem?_getD, List.getElem?_append_right h1]
  have key : fourB (crc (((frameB b).set p x).take (N.length + b.length))) ≠ (((frameB b).set p x).drop (N.length + b.length)).take 4 := by
    rw [hset]
    by_cases hp : p < N.length + b.length
    · have hpb : p - N.length < b.length := by omega
      have e1 : (b ++ fourB (crc (N ++ b))).set (p - N.length) x = b.set (p - N.length) x ++ fourB (crc (N ++ b)) := List.set_append_left _ _ hpb
      rw [e1, ← List.append_assoc, List.take_left' (by simp), List.drop_left' (by simp), List.take_of_length_le (by rw [fourB_len]; exact Nat.le_refl _)]
      intro he
      have hc := fourB_inj (crc_lt _) (crc_lt _) he
      have hg : (frameB b).getD p 0 = b[p - N.length] := by
        rw [hget, List.getD_eq_getElem?_getD, List.getElem?_append_left hpb, List.getElem?_eq_getElem hpb]; rfl
      rw [hg] at hx
      have hb : b = b.take (p - N.length) ++ b[p - N.length] :: b.drop (p - N.length + 1) := by
        rw [← List.drop_eq_getElem_cons hpb, List.take_append_drop]
      have hb2 : b.set (p - N.length) x = b.take (p - N.length) ++ x :: b.drop (p - N.length + 1) := List.set_eq_take_append_cons_drop .. |>.trans (if_pos hpb)
      rw [hb2] at hc
      conv at hc => rhs; rw [hb]
      rw [← List.append_assoc, ← List.append_assoc] at hc
      exact crc_turned hx hc
    · have hpb : b.length ≤ p - N.length := by omega
      have e1 : (b ++ fourB (crc (N ++ b))).set (p - N.length) x = b ++ (fourB (crc (N ++ b))).set (p - N.length - b.length) x := List.set_append_right _ _ hpb
      rw [e1, ← List.append_assoc, List.take_left' (by simp), List.drop_left' (by simp), List.take_of_length_le (by rw [List.length_set, fourB_len]; exact Nat.le_refl _)]
      intro he
      have hq : p - N.length - b.length < (fourB (crc (N ++ b))).length := by rw [fourB_len]; omega
      have h3 := congrArg (fun l => l[p - N.length - b.length]?) he
      simp only [List.getElem?_set_self hq] at h3
      rw [hget, List.getD_eq_getElem?_getD, List.getElem?_append_right hpb, h3] at hx
      exact hx rfl
  unfold openB
  simp only [hr]
  rw [if_neg (by simp), if_neg (by omega), if_neg (by omega), if_pos key]
end Go.Cas
