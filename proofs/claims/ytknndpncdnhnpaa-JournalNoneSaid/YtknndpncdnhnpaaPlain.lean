import Derived.Laws.BitsAllLaws

namespace Go.Cas

/-! ### One turn of the sum -/
def turnP : Nat := 3988292384
def turn1 (w : Nat) : Nat := if w % 2 = 1 then (w / 2) ^^^ turnP else w / 2
def turns : Nat → Nat → Nat
  | 0, w => w
  | k + 1, w => turns k (turn1 w)
theorem turns_succ' (k w : Nat) : turns (k + 1) w = turn1 (turns k w) := by
  induction k generalizing w with
  | zero => rfl
  | succ k ih => rw [turns, ih]; rfl
theorem turnP_lt : turnP < 2 ^ 32 := by decide
theorem turn1_lt {w : Nat} (h : w < 2 ^ 32) : turn1 w < 2 ^ 32 := by
  unfold turn1
  split
  · exact Nat.xor_lt_two_pow (by omega) turnP_lt
  · omega
theorem turns_lt {k w : Nat} (h : w < 2 ^ 32) : turns k w < 2 ^ 32 := by
  induction k generalizing w with
  | zero => exact h
  | succ k ih => exact ih (turn1_lt h)
theorem xor_div2 (a b : Nat) : (a ^^^ b) / 2 = (a / 2) ^^^ (b / 2) := by
  have := Nat.xor_div_two_pow (a := a) (b := b) (n := 1)
  simpa using this
theorem xor_mod2 (a b : Nat) : (a ^^^ b) % 2 = (a % 2 + b % 2) % 2 := by
  have := Nat.xor_mod_two_pow (a := a) (b := b) (n := 1)
  have h : (a ^^^ b) % 2 = (a % 2) ^^^ (b % 2) := by simpa using this
  rw [h]
  rcases Nat.mod_two_eq_zero_or_one a with ha | ha <;> rcases Nat.mod_two_eq_zero_or_one b with hb | hb <;> simp [ha, hb]
theorem turn1_xor (a b : Nat) : turn1 (a ^^^ b) = turn1 a ^^^ turn1 b := by
  unfold turn1
  rw [xor_mod2, xor_div2]
  rcases Nat.mod_two_eq_zero_or_one a with ha | ha <;> rcases Nat.mod_two_eq_zero_or_one b with hb | hb <;> simp only [ha, hb] <;> simp
  · rw [Nat.xor_assoc]
  · rw [Nat.xor_assoc, Nat.xor_comm (b / 2), ← Nat.xor_assoc]
  · rw [Nat.xor_assoc, ← Nat.xor_assoc turnP, Nat.xor_comm turnP, Nat.xor_assoc, Nat.xor_self]; simp
theorem turns_xor (k a b : Nat) : turns k (a ^^^ b) = turns k a ^^^ turns k b := by
  induction k generalizing a b with
  | zero => rfl
  | succ k ih => rw [turns, turn1_xor, ih]; rfl
theorem turns_even (k m : Nat) : turns k (m * 2 ^ k) = m := by
  induction k generalizing m with
  | zero => simp [turns]
  | succ k ih =>
    rw [turns, turn1, if_neg (by rw [Nat.pow_succ, ← Nat.mul_assoc]; omega)]
    rw [show m * 2 ^ (k + 1) / 2 = m * 2 ^ k from by rw [Nat.pow_succ, ← Nat.mul_assoc]; omega]
    exact ih m
theorem turn1_inj {a b : Nat} (ha : a < 2 ^ 32) (hb : b < 2 ^ 32) (h : turn1 a = turn1 b) : a = b := by
  have key : ∀ x : Nat, x < 2 ^ 32 → (turn1 x).testBit 31 = decide (x % 2 = 1) := by
    intro x hx
    have hd : (x / 2).testBit 31 = false := Nat.testBit_lt_two_pow (by omega)
    unfold turn1
    by_cases h : x % 2 = 1
    · rw [if_pos h, Nat.testBit_xor, hd, decide_eq_true h]; decide
    · rw [if_neg h, hd, decide_eq_false h]
  have hk : decide (a % 2 = 1) = decide (b % 2 = 1) := by rw [← key a ha, ← key b hb, h]
  have hm : a % 2 = b % 2 := by
    rcases Nat.mod_two_eq_zero_or_one a with h1 | h1 <;> rcases Nat.mod_two_eq_zero_or_one b with h2 | h2 <;> simp_all
  have hdiv : a / 2 = b / 2 := by
    unfold turn1 at h
    rw [hm] at h
    by_cases hc : b % 2 = 1
    · rw [if_pos hc, if_pos hc] at h
      have := congrArg (· ^^^ turnP) h
      simpa [Nat.xor_assoc] using this
    · rw [if_neg hc, if_neg hc] at h; exact h
  omega
theorem turns_inj {k a b : Nat} (ha : a < 2 ^ 32) (hb : b < 2 ^ 32) (h : turns k a = turns k b) : a = b := by
  induction k generalizing a b with
  | zero => exact h
  | succ k ih => exact turn1_inj ha hb (ih (turn1_lt ha) (turn1_lt hb) h)

/-! ### A byte's step, and the sum -/
def stepB (s : Nat) (c : UInt8) : Nat := turns 8 (s ^^^ c.toNat)
theorem byte_lt (c : UInt8) : c.toNat < 256 := c.toNat_lt
theorem xorB_lt {s : Nat} (h : s < 2 ^ 32) (c : UInt8) : s ^^^ c.toNat < 2 ^ 32 := Nat.xor_lt_two_pow h (by have := byte_lt c; omega)
theorem stepB_lt {s : Nat} (h : s < 2 ^ 32) (c : UInt8) : stepB s c < 2 ^ 32 := turns_lt (xorB_lt h c)
/-- The table's step is the eight turns. -/
theorem stepB_table (s : Nat) (c : UInt8) : stepB s c = turns 8 ((s % 256) ^^^ c.toNat) ^^^ (s / 256) := by
  have hs : s = (s % 256) ^^^ (s / 256 * 2 ^ 8) := by
    apply Nat.eq_of_testBit_eq
    intro i
    rw [Nat.testBit_xor, Nat.testBit_mul_two_pow, show (256 : Nat) = 2 ^ 8 from rfl, Nat.testBit_mod_two_pow, Nat.testBit_div_two_pow]
    by_cases h : i < 8
    · have h8 : ¬ 8 ≤ i := by omega
      simp [h, h8]
    · simp [h, show 8 ≤ i by omega, show i - 8 + 8 = i by omega]
  have : s ^^^ c.toNat = ((s % 256) ^^^ c.toNat) ^^^ (s / 256 * 2 ^ 8) := by
    conv => lhs; rw [hs]
    rw [Nat.xor_assoc, Nat.xor_comm (s / 256 * 2 ^ 8), ← Nat.xor_assoc]
  unfold stepB
  rw [this, turns_xor, turns_even]
def runB (s : Nat) (l : List UInt8) : Nat := l.foldl stepB s
theorem runB_lt {s : Nat} (h : s < 2 ^ 32) (l : List UInt8) : runB s l < 2 ^ 32 := by
  induction l generalizing s with
  | nil => exact h
  | cons c l ih => exact ih (stepB_lt h c)
theorem runB_append (s : Nat) (a b : List UInt8) : runB s (a ++ b) = runB (runB s a) b := List.foldl_append
theorem stepB_inj {s t : Nat} (hs : s < 2 ^ 32) (ht : t < 2 ^ 32) {c : UInt8} (h : stepB s c = stepB t c) : s = t := by
  have := turns_inj (xorB_lt hs c) (xorB_lt ht c) h
  have := congrArg (· ^^^ c.toNat) this
  simpa [Nat.xor_assoc] using this
theorem stepB_inj_byte {s : Nat} (hs : s < 2 ^ 32) {c d : UInt8} (h : stepB s c = stepB s d) : c = d := by
  have := turns_inj (xorB_lt hs c) (xorB_lt hs d) h
  have := congrArg (s ^^^ ·) this
  simp only [← Nat.xor_assoc, Nat.xor_self, Nat.zero_xor] at this
  exact UInt8.toNat_inj.1 this
theorem runB_inj {s t : Nat} (hs : s < 2 ^ 32) (ht : t < 2 ^ 32) {l : List UInt8} (h : runB s l = runB t l) : s = t := by
  induction l generalizing s t with
  | nil => exact h
  | cons c l ih => exact stepB_inj hs ht (ih (stepB_lt hs c) (stepB_lt ht c) h)
def ones : Nat := 4294967295
theorem ones_lt : ones < 2 ^ 32 := by decide
def crc (l : List UInt8) : Nat := ones - runB ones l
theorem crc_lt (l : List UInt8) : crc l < 2 ^ 32 := by have := ones_lt; unfold crc; omega
/-- One byte that is another gives another sum. -/
theorem crc_turned {a b : List UInt8} {c d : UInt8} (h : c ≠ d) : crc (a ++ c :: b) ≠ crc (a ++ d :: b) := by
  intro e
  have l1 := runB_lt ones_lt (a ++ c :: b)
  have l2 := runB_lt ones_lt (a ++ d :: b)
  have e2 : runB ones (a ++ c :: b) = runB ones (a ++ d :: b) := by unfold crc ones at *; omega
  rw [runB_append, runB_append] at e2
  have ha := runB_lt ones_lt a
  exact h (stepB_inj_byte ha (runB_inj (stepB_lt ha c) (stepB_lt ha d) e2))
theorem ones_xor {n : Nat} (h : n < 2 ^ 32) : ones ^^^ n = ones - n := by
  have : ones = 2 ^ 32 - 1 := rfl
  apply Nat.eq_of_testBit_eq
  intro i
  rw [Nat.testBit_xor, this, Nat.testBit_two_pow_sub_one, show 2 ^ 32 - 1 - n = 2 ^ 32 - (n + 1) from by omega, Nat.testBit_two_pow_sub_succ h]
  by_cases hi : i < 32
  · simp [hi]
  · simp [hi]; exact Nat.testBit_lt_two_pow (Nat.lt_of_lt_of_le h (Nat.pow_le_pow_right (by decide) (by omega)))

/-! ### Four bytes -/
def fourB (n : Nat) : List UInt8 := [UInt8.ofNat (n / 16777216), UInt8.ofNat (n / 65536), UInt8.ofNat (n / 256), UInt8.ofNat n]
theorem fourB_inj {m n : Nat} (hm : m < 2 ^ 32) (hn : n < 2 ^ 32) (h : fourB m = fourB n) : m = n := by
  simp only [fourB, List.cons.injEq, and_true, ← UInt8.toNat_inj, UInt8.toNat_ofNat'] at h
  omega




/-! ### A number's bytes -/
def numF : Nat → Nat → List UInt8
  | 0, n => [UInt8.ofNat n]
  | k + 1, n => if n < 128 then [UInt8.ofNat n] else UInt8.ofNat (n % 128 + 128) :: numF k (n / 128)
def numB (n : Nat) : List UInt8 := numF 9 n
theorem numF_ne (k n : Nat) : numF k n ≠ [] := by cases k <;> simp [numF]; split <;> simp
theorem numF_len (k n : Nat) : (numF k n).length ≤ k + 1 := by
  induction k generalizing n with
  | zero => simp [numF]
  | succ k ih =>
    rw [numF]
    split
    · simp
    · have := ih (n / 128); simp; omega
theorem numB_len (n : Nat) : (numB n).length ≤ 10 := numF_len 9 n
theorem numF_pos (k n : Nat) : 1 ≤ (numF k n).length := by
  have := numF_ne k n
  cases h : numF k n with
  | nil => exact absurd h this
  | cons => simp
theorem numB_pos (n : Nat) : 1 ≤ (numB n).length := numF_pos 9 n
theorem numB_small {n : Nat} (h : n < 128) : numB n = [UInt8.ofNat n] := by simp [numB, numF, h]

/-! ### A number is read -/
/-- value, how many bytes, the error. -/
def rdN : Nat → Nat → List UInt8 → Nat × Nat × Nat
  | _, _, [] => (0, 0, 110)
  | i, acc, c :: r =>
    if (i = 9 ∧ 1 < c.toNat) ∨ (0 < i ∧ c.toNat = 0) then (0, 0, 111)
    else if c.toNat < 128 then (acc + c.toNat % 128 * 128 ^ i, i + 1, 0)
    else rdN (i + 1) (acc + c.toNat % 128 * 128 ^ i) r
def readN (l : List UInt8) : Nat × Nat × Nat := rdN 0 0 l

theorem rdN_numF (k : Nat) : ∀ (n i acc : Nat) (r : List UInt8), i + k = 9 → n < 2 * 128 ^ k → (0 < i → 0 < n) →
    rdN i acc (numF k n ++ r) = (acc + n * 128 ^ i, i + (numF k n).length, 0) := by
  induction k with
  | zero =>
    intro n i acc r hi hn h0
    have hi9 : i = 9 := by omega
    subst hi9
    have hn2 : n < 2 := by simpa using hn
    have hnt : (UInt8.ofNat n).toNat = n := by rw [UInt8.toNat_ofNat']; omega
    have h0' := h0 (by omega)
    simp only [numF, List.cons_append, List.nil_append, rdN, hnt, List.length_cons, List.length_nil]
    rw [if_neg (by omega), if_pos (by omega), show n % 128 = n from by omega]
  | succ k ih =>
    intro n i acc r hi hn h0
    rw [numF]
    by_cases h : n < 128
    · rw [if_pos h]
      have hnt : (UInt8.ofNat n).toNat = n := by rw [UInt8.toNat_ofNat']; omega
      simp only [List.cons_append, List.nil_append, rdN, hnt, List.length_cons, List.length_nil]
      rw [if_neg (by omega), if_pos h, show n % 128 = n from by omega]
    · rw [if_neg h]
      have hnt : (UInt8.ofNat (n % 128 + 128)).toNat = n % 128 + 128 := by rw [UInt8.toNat_ofNat']; omega
      simp only [List.cons_append, rdN, hnt]
      rw [if_neg (by omega), if_neg (by omega), show (n % 128 + 128) % 128 = n % 128 from by omega]
      rw [ih (n / 128) (i + 1) _ r (by omega) (by rw [Nat.pow_succ] at hn; omega) (by omega)]
      have hd := Nat.div_add_mod n 128
      have he : acc + n % 128 * 128 ^ i + n / 128 * 128 ^ (i + 1) = acc + n * 128 ^ i := by
        rw [Nat.pow_succ, Nat.mul_comm (128 ^ i) 128, ← Nat.mul_assoc, Nat.add_assoc, ← Nat.add_mul]
        congr 2; omega
      simp only [List.length_cons, he]
      congr 2; omega
theorem readN_numB (n : Nat) (hn : n < 2 ^ 64) (r : List UInt8) : readN (numB n ++ r) = (n, (numB n).length, 0) := by
  have := rdN_numF 9 n 0 0 r (by omega) (by omega) (by omega)
  simpa [readN, numB] using this

/-- What is read: bounds. -/
theorem rdN_bound : ∀ (l : List UInt8) (i acc : Nat), i ≤ 9 → acc < 128 ^ i →
    (rdN i acc l).1 < 2 ^ 64 ∧ (rdN i acc l).2.1 ≤ i + l.length ∧ ((rdN i acc l).2.2 = 0 → i < (rdN i acc l).2.1 ∧ (rdN i acc l).2.1 ≤ 10) ∧ ((rdN i acc l).2.2 ≠ 0 → (rdN i acc l).1 = 0 ∧ (rdN i acc l).2.1 = 0)
      ∧ ((rdN i acc l).2.2 = 0 ∨ (rdN i acc l).2.2 = 110 ∨ (rdN i acc l).2.2 = 111)
  | [], i, acc, _, _ => by simp [rdN]
  | c :: r, i, acc, hi, ha => by
    have hc := c.toNat_lt
    have hacc : c.toNat % 128 * 128 ^ i + acc < 128 ^ (i + 1) := by
      rw [Nat.pow_succ]
      have : c.toNat % 128 ≤ 127 := by omega
      have := Nat.mul_le_mul_right (128 ^ i) this
      omega
    unfold rdN
    split
    · simp
    · rename_i h1
      split
      · rename_i h2
        refine ⟨?_, by simp, by simp; omega, by simp, by simp⟩
        show acc + _ < _
        by_cases h9 : i = 9
        · have : c.toNat % 128 ≤ 1 := by omega
          have := Nat.mul_le_mul_right (128 ^ i) this
          rw [h9] at ha this ⊢
          omega
        · have : 128 ^ (i + 1) ≤ 128 ^ 9 := Nat.pow_le_pow_right (by omega) (by omega)
          omega
      · rename_i h2
        have h9 : i ≠ 9 := by intro e; apply h1; left; omega
        have := rdN_bound r (i + 1) (acc + c.toNat % 128 * 128 ^ i) (by omega) (by omega)
        simp only [List.length_cons]
        refine ⟨this.1, by omega, fun h => ?_, this.2.2.2.1, this.2.2.2.2⟩
        have := this.2.2.1 h
        omega
theorem readN_bound (l : List UInt8) : (readN l).1 < 2 ^ 64 ∧ (readN l).2.1 ≤ l.length ∧ ((readN l).2.2 = 0 → 0 < (readN l).2.1 ∧ (readN l).2.1 ≤ 10) ∧ ((readN l).2.2 ≠ 0 → (readN l).1 = 0 ∧ (readN l).2.1 = 0)
      ∧ ((readN l).2.2 = 0 ∨ (readN l).2.2 = 110 ∨ (readN l).2.2 = 111) := by
  have := rdN_bound l 0 0 (by omega) (by omega)
  simpa [readN] using this
/-- What is read of bytes hangs on those alone that are taken. -/
theorem rdN_take : ∀ (l r : List UInt8) (i acc : Nat), (rdN i acc l).2.2 = 0 → rdN i acc (l.take ((rdN i acc l).2.1 - i) ++ r) = rdN i acc l
  | [], r, i, acc, h => by simp [rdN] at h
  | c :: l, r, i, acc, h => by
    rw [rdN] at h ⊢
    by_cases h1 : (i = 9 ∧ 1 < c.toNat) ∨ (0 < i ∧ c.toNat = 0)
    · rw [if_pos h1] at h; simp at h
    · rw [if_neg h1] at h ⊢
      by_cases h2 : c.toNat < 128
      · rw [if_pos h2]
        simp only [Nat.add_sub_cancel_left, List.take_succ_cons, List.take_zero, List.cons_append, List.nil_append]
        rw [rdN, if_neg h1, if_pos h2]
      · rw [if_neg h2] at h ⊢
        have hb : i + 1 < (rdN (i + 1) (acc + c.toNat % 128 * 128 ^ i) l).2.1 := by
          have hc9 : i ≠ 9 := by intro e; apply h1; left; omega
          clear h1 h2
          revert h
          suffices ∀ (l : List UInt8) (i acc : Nat), (rdN i acc l).2.2 = 0 → i < (rdN i acc l).2.1 from this l _ _
          intro l
          induction l with
          | nil => intro i acc h; simp [rdN] at h
          | cons d l ih =>
            intro i acc h
            rw [rdN] at h ⊢
            split at h
            · simp at h
            · rename_i h1
              rw [if_neg h1]
              split at h
              · rename_i h2; rw [if_pos h2]; simp
              · rename_i h2
                rw [if_neg h2]
                have := ih _ _ h
                omega
        have hk : (rdN (i + 1) (acc + c.toNat % 128 * 128 ^ i) l).2.1 - i = ((rdN (i + 1) (acc + c.toNat % 128 * 128 ^ i) l).2.1 - (i + 1)) + 1 := by omega
        rw [hk, List.take_succ_cons, List.cons_append, rdN, if_neg h1, if_neg h2]
        exact rdN_take l r (i + 1) _ h

/-! ### Frames -/
def frameB (b : List UInt8) : List UInt8 := numB b.length ++ b ++ fourB (crc (numB b.length ++ b))
theorem fourB_len (n : Nat) : (fourB n).length = 4 := rfl
theorem frameB_len (b : List UInt8) : (frameB b).length = (numB b.length).length + b.length + 4 := by simp [frameB, fourB_len]; omega
/-- bytes, how many all are, the error. -/
def openB (l : List UInt8) : List UInt8 × Nat × Nat :=
  if (readN l).2.2 ≠ 0 then ([], 0, (readN l).2.2)
  else if 65536 < (readN l).1 then ([], 0, 3)
  else if l.length < (readN l).2.1 + (readN l).1 + 4 then ([], 0, 110)
  else if fourB (crc (l.take ((readN l).2.1 + (readN l).1))) ≠ (l.drop ((readN l).2.1 + (readN l).1)).take 4 then ([], 0, 120)
  else ((l.take ((readN l).2.1 + (readN l).1)).drop (readN l).2.1, (readN l).2.1 + (readN l).1 + 4, 0)
theorem openB_bound (l : List UInt8) : ((openB l).2.2 = 0 → 5 ≤ (openB l).2.1 ∧ (openB l).2.1 ≤ l.length ∧ (openB l).1.length + 5 ≤ (openB l).2.1) ∧ ((openB l).2.2 ≠ 0 → (openB l).1 = [] ∧ (openB l).2.1 = 0) ∧ (openB l).2.1 ≤ l.length ∧ (openB l).1.length ≤ 65536
    ∧ ((openB l).2.2 = 0 ∨ (openB l).2.2 = 3 ∨ (openB l).2.2 = 110 ∨ (openB l).2.2 = 111 ∨ (openB l).2.2 = 120) := by
  have hb := readN_bound l
  unfold openB
  split
  · rename_i h; refine ⟨fun h2 => absurd h2 h, fun _ => ⟨rfl, rfl⟩, Nat.zero_le _, Nat.zero_le _, ?_⟩
    rcases hb.2.2.2.2 with h | h | h <;> simp [h]
  · rename_i h0
    have h0 : (readN l).2.2 = 0 := by omega
    have hb2 := hb.2.2.1 h0
    split
    · simp
    · split
      · simp
      · split
        · simp
        · refine ⟨fun _ => ⟨by dsimp only; omega, by dsimp only; omega, ?_⟩, by simp, by dsimp only; omega, ?_, by simp⟩
          · simp; omega
          · simp; omega
theorem openB_frameB {b : List UInt8} (h : b.length ≤ 65536) (r : List UInt8) : openB (frameB b ++ r) = (b, (frameB b).length, 0) := by
  have hr : readN (frameB b ++ r) = (b.length, (numB b.length).length, 0) := by
    have := readN_numB b.length (by omega) (b ++ fourB (crc (numB b.length ++ b)) ++ r)
    simpa [frameB] using this
  have hl := frameB_len b
  have h1 : (frameB b ++ r).take ((numB b.length).length + b.length) = numB b.length ++ b := by
    rw [frameB, List.append_assoc, List.append_assoc, ← List.append_assoc, List.take_left' (by simp)]
  have h2 : ((frameB b ++ r).drop ((numB b.length).length + b.length)).take 4 = fourB (crc (numB b.length ++ b)) := by
    rw [frameB, List.append_assoc, List.append_assoc, ← List.append_assoc, List.drop_left' (by simp)]; exact List.take_left' (fourB_len _)
  unfold openB
  simp only [hr]
  rw [if_neg (by simp), if_neg (by omega), if_neg (by simp; omega), h1, h2, if_neg (by simp)]
  simp only [Prod.mk.injEq, and_true]
  exact ⟨List.drop_left' rfl, by omega⟩

/-- What is opened begins with it, as a frame. -/
theorem openB_take {l : List UInt8} (h : (openB l).2.2 = 0) (r : List UInt8) : openB (l.take (openB l).2.1 ++ r) = openB l := by
  have hb := readN_bound l
  unfold openB at h ⊢
  split at h
  · rename_i h1; exact absurd h h1
  rename_i h1
  split at h
  · simp at h
  rename_i h2
  split at h
  · simp at h
  rename_i h3
  split at h
  · simp at h
  rename_i h4
  rw [if_neg h1, if_neg h2, if_neg h3, if_neg h4]
  have h0 : (readN l).2.2 = 0 := by omega
  have hpos := hb.2.2.1 h0
  dsimp only
  obtain ⟨e, he⟩ : ∃ e, e = (readN l).2.1 + (readN l).1 := ⟨_, rfl⟩
  have hr : readN (l.take (e + 4) ++ r) = readN l := by
    have := rdN_take l ((l.take (e + 4)).drop (readN l).2.1 ++ r) 0 0 h0
    rw [← List.append_assoc] at this
    have hc : (l.take ((rdN 0 0 l).2.1 - 0) ++ (l.take (e + 4)).drop (readN l).2.1) = l.take (e + 4) := by
      have := List.take_append_drop (readN l).2.1 (l.take (e + 4))
      rw [List.take_take, Nat.min_eq_left (by omega)] at this
      exact this
    rw [hc] at this
    exact this
  have t1 : (l.take (e + 4) ++ r).take e = l.take e := by
    rw [List.take_append_of_le_length (by simp; omega), List.take_take, Nat.min_eq_left (by omega)]
  have t2 : ((l.take (e + 4) ++ r).drop e).take 4 = (l.drop e).take 4 := by
    rw [List.drop_append_of_le_length (by simp; omega), List.take_append_of_le_length (by simp; omega), List.drop_take, List.take_take]
    congr 1; omega
  rw [← he]
  rw [hr, ← he, if_neg h1, if_neg h2, if_neg (by simp; omega), t1, t2]
  rw [← he] at h4
  rw [if_neg h4]

/-! ### Frames, one by one -/
/-- places and bytes of the frames with which bytes begin (at most so many), and where they end. -/
def framesF : Nat → Nat → List UInt8 → List (Nat × List UInt8) × Nat
  | 0, at_, _ => ([], at_)
  | k + 1, at_, l =>
    if (openB l).2.2 = 0 then ((at_, (openB l).1) :: (framesF k (at_ + (openB l).2.1) (l.drop (openB l).2.1)).1, (framesF k (at_ + (openB l).2.1) (l.drop (openB l).2.1)).2)
    else ([], at_)
def framesB (l : List UInt8) : List (Nat × List UInt8) := (framesF (l.length + 1) 0 l).1
def wholeB (l : List UInt8) : Nat := (framesF (l.length + 1) 0 l).2
/-- So many rounds as there are bytes are enough. -/
theorem framesF_enough : ∀ (k j at_ : Nat) (l : List UInt8), l.length < k → l.length < j → framesF k at_ l = framesF j at_ l
  | 0, _, _, _, h, _ => by omega
  | _, 0, _, _, _, h => by omega
  | k + 1, j + 1, at_, l, hk, hj => by
    rw [framesF, framesF]
    split
    · rename_i h
      have := (openB_bound l).1 h
      rw [framesF_enough k j (at_ + (openB l).2.1) (l.drop (openB l).2.1) (by simp; omega) (by simp; omega)]
    · rfl
end Go.Cas
