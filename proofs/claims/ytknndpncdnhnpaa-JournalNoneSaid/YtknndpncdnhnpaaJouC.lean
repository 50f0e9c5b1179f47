import Derived.Test.YtknndpncdnhnpaaJouB
namespace Go.Proofs.Ytknndpncdnhnpaa
open Go.RowKit Go.Cas
set_option linter.unusedSimpArgs false
set_option linter.unusedVariables false
attribute [local go_sem] Oper.semAt_some

theorem JC.ne {w : World} {jb b : Nat} {file : Int} {s : DS} (h : JC w jb b file) (hd : IsD w b s) : jb ≠ b := by
  intro e
  subst e
  obtain ⟨a0, l0, c0, a1, l1, c1, hd⟩ := hd
  have h1 := hd.heap
  unfold JC at h
  rw [h] at h1
  simp at h1
theorem frame_small (l : List UInt8) (h : l.length ≤ 65536) : (frameB l).length ≤ 2 ^ 40 := by
  rw [frameB_len]
  have := numB_len l.length
  omega
set_option maxRecDepth 100000 in
set_option maxHeartbeats 1000000 in
theorem jlog_c (jb b : Nat) (file : Int) (s : DS) (a : Option Addr) (n cap : Nat) (l : List UInt8) (hn : n ≤ 2 ^ 40) (w : World) (hd : IsD w b s) (hg : s.good) (hc : JC w jb b file) (hs : IsB w a n cap l) :
    Calls Try.prog 12 #[.pointer (some ⟨jb, 0, none⟩), .slice a n cap] w fun e w' => e = .returned (.int .i64 (jlog s file l).2) ∧ IsD w' b (jlog s file l).1 ∧ w.grownBy w' (some b) := by
  have hblt := hd.lt
  have hbA := below_alloc w (.cells #[.pointer (some ⟨jb, 0, none⟩)] 27)
  have hbB := below_alloc (w.alloc (.cells #[.pointer (some ⟨jb, 0, none⟩)] 27)) (.cells #[.slice a n cap] 32)
  have hX := (Box.new w (.pointer (some ⟨jb, 0, none⟩)) 27).later hbB
  have hY := Box.mk (w.alloc (.cells #[.pointer (some ⟨jb, 0, none⟩)] 27)) (.slice a n cap) 32 (b := w.heap.size + 1) (by simp)
  have hb2 := below_then hbA hbB
  have hnone := jnone_c jb b file _ (row_later hc hb2)
  obtain ⟨w2, hw2⟩ : ∃ w2, (w.alloc (.cells #[.pointer (some ⟨jb, 0, none⟩)] 27)).alloc (.cells #[.slice a n cap] 32) = w2 := ⟨_, rfl⟩
  have hz2 : w2.heap.size = w.heap.size + 1 + 1 := by rw [← hw2]; simp
  rw [hw2] at hX hY hb2 hnone
  have HW := Lib.hid hw2
  have HZ := Lib.hid hz2
  clear hw2 hz2 hbA hbB
  go_enter Try.func12, Try.ntmps12
  go_wp2_with fail
  rw [HW.out]
  refine hnone.mono ?_
  rintro e wn ⟨rfl, hwn⟩
  rw [← hwn]
  clear hnone hwn
  go_wp2_with fail
  have hbC := below_alloc w2 (.cells #[.slice none 0 0] 32)
  have hbD := below_alloc (w2.alloc (.cells #[.slice none 0 0] 32)) (.cells #[.func (.func 35) #[] #[.pointer (some ⟨w.heap.size + 1, 0, none⟩), .pointer (some ⟨w2.heap.size, 0, none⟩)], .func (.func 37) #[] #[.pointer (some ⟨w.heap.size, 0, none⟩), .pointer (some ⟨w2.heap.size, 0, none⟩)]] 49)
  have hF := (Box.new w2 (.slice none 0 0) 32).later hbD
  have hQ := heap_alloc_new (w2.alloc (.cells #[.slice none 0 0] 32)) (.cells #[.func (.func 35) #[] #[.pointer (some ⟨w.heap.size + 1, 0, none⟩), .pointer (some ⟨w2.heap.size, 0, none⟩)], .func (.func 37) #[] #[.pointer (some ⟨w.heap.size, 0, none⟩), .pointer (some ⟨w2.heap.size, 0, none⟩)]] 49)
  rw [World.size_alloc] at hQ
  have hb24 := below_then hbC hbD
  obtain ⟨w4, hw4⟩ : ∃ w4, (w2.alloc (.cells #[.slice none 0 0] 32)).alloc (.cells #[.func (.func 35) #[] #[.pointer (some ⟨w.heap.size + 1, 0, none⟩), .pointer (some ⟨w2.heap.size, 0, none⟩)], .func (.func 37) #[] #[.pointer (some ⟨w.heap.size, 0, none⟩), .pointer (some ⟨w2.heap.size, 0, none⟩)]] 49) = w4 := ⟨_, rfl⟩
  rw [hw4] at hF hQ hb24 ⊢
  clear hw4 hbC hbD
  have hX4 := hX.later hb24
  have hY4 := hY.later hb24
  have hb04 := below_then hb2 hb24
  have hs4 := hs.later hb04
  have hz24 := HZ.out
  clear hX hY hb24 hb2
  obtain ⟨F, hFF⟩ : ∃ F, w2.heap.size = F := ⟨_, rfl⟩
  rw [hFF] at hF hQ hz24 ⊢
  clear hFF
  have hq4 : F + 1 < w4.heap.size := row_lt hQ
  refine (steps_c (F + 1) 35 37 _ _ ((if l.length ≤ 65536 then 0 else 3 : Nat) : Int) (s.append file (frameB l)).2
    (fun W => Below w.heap.size w W ∧ F + 1 < W.heap.size ∧ JC W jb b file ∧ Box W w.heap.size (.pointer (some ⟨jb, 0, none⟩)) ∧ ∃ a' n' c', IsB W a' n' c' (if l.length ≤ 65536 then frameB l else []) ∧ Box W F (.slice a' n' c') ∧ (∀ ad, a' = some ad → w.heap.size ≤ ad.block))
    (fun W => IsD W b (s.append file (frameB l)).1 ∧ w.grownBy W (some b)) w4 hQ enter_log1 enter_log2 ?_ ?_).mono ?_
  · refine (log1_c (w.heap.size + 1) F a n cap l _ hn w4 hs4 hY4 hF).mono ?_
    rintro e w5 ⟨a5, n5, c5, rfl, hs5, hf5, hbk, hg5⟩
    have hB5 : Below w.heap.size w w5 := hb04.grown hg5 hb04.size (fun k hk => by have := Option.some.inj hk; omega)
    refine ⟨rfl, ⟨hB5, by have := hg5.size; omega, row_later hc hB5, hX4.block (hg5.block _ hX4.lt (by intro e; have := Option.some.inj e; omega)), a5, n5, c5, hs5, hf5, fun ad ha => Nat.le_trans hb04.size (hbk ad ha)⟩, hg5.block _ hq4 (by intro e; have := Option.some.inj e; omega)⟩
  · rintro h0 W ⟨hB, hFl, hcW, hjW, a5, n5, c5, hs5, hf5, hbk⟩
    have hle : l.length ≤ 65536 := by
      by_cases h : l.length ≤ 65536
      · exact h
      · rw [if_neg h] at h0; exact absurd h0 (by decide)
    rw [if_pos hle] at hs5
    refine (log2_c w.heap.size F jb b file s a5 n5 c5 (frameB l) (by have := hs5.len; have := frame_small l hle; omega) W (hd.later hB) hg hjW hcW hs5 hf5 (fun ad ha _ e => by have := hbk ad ha; omega)).mono ?_
    rintro e W2 ⟨rfl, hd2, hg2⟩
    exact ⟨rfl, ⟨hd2, grown_trans (grown_of_below hB) hg2⟩, hg2.block _ hFl (by intro e; have := Option.some.inj e; omega)⟩
  · rintro e w5 (⟨hne, rfl, hB, hFl, hcW, hjW, a5, n5, c5, hs5, hf5, hbk⟩ | ⟨h0, rfl, hd2, hg2⟩)
    · have hle : ¬ l.length ≤ 65536 := fun h => hne (by rw [if_pos h]; rfl)
      have hj : jlog s file l = (s, 3) := by unfold jlog; rw [if_neg hle]
      have HJ := Lib.hid hj
      have HL := Lib.hid hle
      clear hj hle hne
      go_wp2_with fail
      go_ret
      rw [HJ.out]
      exact ⟨by rfl, hd.later hB, grown_of_below hB⟩
    · have hle : l.length ≤ 65536 := by
        by_cases h : l.length ≤ 65536
        · exact h
        · rw [if_neg h] at h0; exact absurd h0 (by decide)
      have hj : jlog s file l = s.append file (frameB l) := by unfold jlog; rw [if_pos hle]
      have HJ := Lib.hid hj
      clear hle hj h0
      generalize s.append file (frameB l) = r at *
      go_wp2_with fail
      go_ret
      rw [HJ.out]
      exact ⟨by rfl, hd2, hg2⟩
end Go.Proofs.Ytknndpncdnhnpaa
