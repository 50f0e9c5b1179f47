import Derived.Test.YtknndpncdnhnpaaDiskW
namespace Go.Proofs.Ytknndpncdnhnpaa
open Go.RowKit Go.Cas

theorem firstA4 (x y : Bool) (n : Int) (h : fileOk n = true) : firstA ([(false, 1), (!fileOk n, 2)] ++ [(x, 2), (y, 4)]) = if x = true then 2 else if y = true then 4 else 0 := by
  rw [h]; cases x <;> cases y <;> rfl
set_option maxRecDepth 100000 in
set_option maxHeartbeats 2000000 in
theorem cut_c0 (b : Nat) (s : DS) (many : Int) (w : World) (h : IsD w b s) (hsl : LeftOk s.left) (hbig : s.f0.length ≤ 2 ^ 40) :
    Calls Try.prog 32 #[.pointer (some ⟨b, 0, none⟩), .int .i64 0, .int .i64 many] w fun e w' => e = .returned (.int .i64 (s.cut 0 many).2) ∧ IsD w' b (s.cut 0 many).1 ∧ w.grownBy w' (some b) := by
  have hblt := h.lt
  have hb0 := below_alloc w (.cells #[.int .i64 many] 3)
  have h0 := h.later hb0
  have hat := at_c b s 0 _ h0 (by decide) (by decide)
  have hb1 := below_alloc (w.alloc (.cells #[.int .i64 many] 3)) (.cells #[.pointer (some ⟨b, 3, none⟩)] 81)
  have h1 := h0.later hb1
  have hcb1 := below_cell hb1 (Box.new w (.int .i64 many) 3).cell
  have hcf1 := (Box.new (w.alloc (.cells #[.int .i64 many] 3)) (.pointer (some ⟨b, 3, none⟩)) 81).cell
  have hb01 := below_then hb0 hb1
  rw [World.size_alloc] at hcf1
  obtain ⟨w1, hw1⟩ : ∃ w1, (w.alloc (.cells #[.int .i64 many] 3)).alloc (.cells #[.pointer (some ⟨b, 3, none⟩)] 81) = w1 := ⟨_, rfl⟩
  have hz1 : w.heap.size + 2 = w1.heap.size := by rw [← hw1]; simp
  rw [hw1] at h1 hcb1 hcf1 hb01
  clear hb1 hb0 h0
  have HZ := Lib.hid hz1; clear hz1
  have HW := Lib.hid hw1; clear hw1
  go_enter Try.func32, Try.ntmps32
  go_wp2_with fail
  refine hat.mono ?_
  rintro e wx ⟨rfl, rfl⟩
  clear hat
  go_wp2_with fail
  rw [HW.out]
  obtain ⟨a0, l0, c0, a1, l1, c1, hd2⟩ := id h1
  have hlen := hd2.b0.len
  have hgf := hd2.g3
  have HLEN := Lib.hid hlen; clear hlen
  refine mix_begin 18 (Held fun w' => w'.cell? ⟨w.heap.size, 0, none⟩ = some (.int .i64 many) ∧ w'.cell? ⟨w.heap.size + 1, 0, none⟩ = some (.pointer (some ⟨b, 3, none⟩)) ∧ w'.cell? ⟨b, 3, none⟩ = some (.slice a0 l0 c0) ∧ Below w1.heap.size w1 w') (by kernel_rfl) (by kernel_rfl) (Held.mk ⟨hcb1, hcf1, hgf, below_drew _⟩) (fun hS => ?_)
  refine mix_take (v := ?_) 0 rfl (by decide) (by kernel_rfl) (by kernel_rfl) (fun _ _ _ h => h) hS rfl ?_ ?_
  rotate_left
  · (intro w' hw'; first | (go_simp; done) | (go_simp; with_reducible rfl) | (obtain ⟨g1, g2, g3, g4⟩ := hw'.out; first | (go_simp; done) | (go_simp; with_reducible rfl)))
  simp only [Act.put, List.setIfInBounds_toArray, List.set_cons_zero, List.set_cons_succ]
  refine mix_take (v := ?_) 1 rfl (by decide) (by kernel_rfl) (by kernel_rfl) (fun _ _ _ h => h) hS rfl ?_ ?_
  rotate_left
  · (intro w' hw'; first | (go_simp; done) | (go_simp; with_reducible rfl) | (obtain ⟨g1, g2, g3, g4⟩ := hw'.out; first | (go_simp; done) | (go_simp; with_reducible rfl)))
  simp only [Act.put, List.setIfInBounds_toArray, List.set_cons_zero, List.set_cons_succ]
  refine mix_take (v := ?_) 2 rfl (by decide) (by kernel_rfl) (by kernel_rfl) (fun _ _ _ h => h) hS rfl ?_ ?_
  rotate_left
  · (intro w' hw'; first | (go_simp; done) | (go_simp; with_reducible rfl) | (obtain ⟨g1, g2, g3, g4⟩ := hw'.out; first | (go_simp; done) | (go_simp; with_reducible rfl)))
  simp only [Act.put, List.setIfInBounds_toArray, List.set_cons_zero, List.set_cons_succ]
  refine mix_take (v := ?_) 3 rfl (by decide) (by kernel_rfl) (by kernel_rfl) (fun _ _ _ h => h) hS rfl ?_ ?_
  rotate_left
  · (intro w' hw'; first | (go_simp; done) | (go_simp; with_reducible rfl) | (obtain ⟨g1, g2, g3, g4⟩ := hw'.out; first | (go_simp; done) | (go_simp; with_reducible rfl)))
  simp only [Act.put, List.setIfInBounds_toArray, List.set_cons_zero, List.set_cons_succ]
  refine mix_take (v := ?_) 5 rfl (by decide) (by kernel_rfl) (by kernel_rfl) (fun _ _ _ h => h) hS rfl ?_ ?_
  rotate_left
  · (intro w' hw'; first | (go_simp; done) | (go_simp; with_reducible rfl) | (obtain ⟨g1, g2, g3, g4⟩ := hw'.out; first | (go_simp; done) | (go_simp; with_reducible rfl)))
  simp only [Act.put, List.setIfInBounds_toArray, List.set_cons_zero, List.set_cons_succ]
  refine mix_take (v := ?_) 6 rfl (by decide) (by kernel_rfl) (by kernel_rfl) (fun _ _ _ h => h) hS rfl ?_ ?_
  rotate_left
  · (intro w' hw'; first | (go_simp; done) | (go_simp; with_reducible rfl) | (obtain ⟨g1, g2, g3, g4⟩ := hw'.out; first | (go_simp; done) | (go_simp; with_reducible rfl)))
  simp only [Act.put, List.setIfInBounds_toArray, List.set_cons_zero, List.set_cons_succ]
  refine mix_take (v := ?_) 7 rfl (by decide) (by kernel_rfl) (by kernel_rfl) (fun _ _ _ h => h) hS rfl ?_ ?_
  rotate_left
  · (intro w' hw'; first | (go_simp; done) | (go_simp; with_reducible rfl) | (obtain ⟨g1, g2, g3, g4⟩ := hw'.out; first | (go_simp; done) | (go_simp; with_reducible rfl)))
  simp only [Act.put, List.setIfInBounds_toArray, List.set_cons_zero, List.set_cons_succ]
  refine mix_take (v := ?_) 8 rfl (by decide) (by kernel_rfl) (by kernel_rfl) (fun _ _ _ h => h) hS rfl ?_ ?_
  rotate_left
  · (intro w' hw'; first | (go_simp; done) | (go_simp; with_reducible rfl) | (obtain ⟨g1, g2, g3, g4⟩ := hw'.out; first | (go_simp; done) | (go_simp; with_reducible rfl)))
  simp only [Act.put, List.setIfInBounds_toArray, List.set_cons_zero, List.set_cons_succ]
  refine mix_take (v := ?_) 9 rfl (by decide) (by kernel_rfl) (by kernel_rfl) (fun _ _ _ h => h) hS rfl ?_ ?_
  rotate_left
  · (intro w' hw'; first | (go_simp; done) | (go_simp; with_reducible rfl) | (obtain ⟨g1, g2, g3, g4⟩ := hw'.out; first | (go_simp; done) | (go_simp; with_reducible rfl)))
  simp only [Act.put, List.setIfInBounds_toArray, List.set_cons_zero, List.set_cons_succ]
  refine mix_take (v := ?_) 10 rfl (by decide) (by kernel_rfl) (by kernel_rfl) (fun _ _ _ h => h) hS rfl ?_ ?_
  rotate_left
  · (intro w' hw'; first | (go_simp; done) | (go_simp; with_reducible rfl) | (obtain ⟨g1, g2, g3, g4⟩ := hw'.out; first | (go_simp; done) | (go_simp; with_reducible rfl)))
  simp only [Act.put, List.setIfInBounds_toArray, List.set_cons_zero, List.set_cons_succ]
  refine mix_take (v := ?_) 11 rfl (by decide) (by kernel_rfl) (by kernel_rfl) (fun _ _ _ h => h) hS rfl ?_ ?_
  rotate_left
  · (intro w' hw'; first | (go_simp; done) | (go_simp; with_reducible rfl) | (obtain ⟨g1, g2, g3, g4⟩ := hw'.out; first | (go_simp; done) | (go_simp; with_reducible rfl)))
  simp only [Act.put, List.setIfInBounds_toArray, List.set_cons_zero, List.set_cons_succ]
  refine mix_take (v := ?_) 12 rfl (by decide) (by kernel_rfl) (by kernel_rfl) (fun _ _ _ h => h) hS rfl ?_ ?_
  rotate_left
  · (intro w' hw'; first | (go_simp; done) | (go_simp; with_reducible rfl) | (obtain ⟨g1, g2, g3, g4⟩ := hw'.out; first | (go_simp; done) | (go_simp; with_reducible rfl)))
  simp only [Act.put, List.setIfInBounds_toArray, List.set_cons_zero, List.set_cons_succ]
  refine mix_take (v := ?_) 13 rfl (by decide) (by kernel_rfl) (by kernel_rfl) (fun _ _ _ h => h) hS rfl ?_ ?_
  rotate_left
  · (intro w' hw'; first | (go_simp; done) | (go_simp; with_reducible rfl) | (obtain ⟨g1, g2, g3, g4⟩ := hw'.out; first | (go_simp; done) | (go_simp; with_reducible rfl)))
  simp only [Act.put, List.setIfInBounds_toArray, List.set_cons_zero, List.set_cons_succ]
  refine mix_take (v := ?_) 14 rfl (by decide) (by kernel_rfl) (by kernel_rfl) (fun _ _ _ h => h) hS rfl ?_ ?_
  rotate_left
  · (intro w' hw'; first | (go_simp; done) | (go_simp; with_reducible rfl) | (obtain ⟨g1, g2, g3, g4⟩ := hw'.out; first | (go_simp; done) | (go_simp; with_reducible rfl)))
  simp only [Act.put, List.setIfInBounds_toArray, List.set_cons_zero, List.set_cons_succ]
  refine mix_take (v := ?_) 15 rfl (by decide) (by kernel_rfl) (by kernel_rfl) (fun _ _ _ h => h) hS rfl ?_ ?_
  rotate_left
  · (intro w' hw'; first | (go_simp; done) | (go_simp; with_reducible rfl) | (obtain ⟨g1, g2, g3, g4⟩ := hw'.out; first | (go_simp; done) | (go_simp; with_reducible rfl)))
  simp only [Act.put, List.setIfInBounds_toArray, List.set_cons_zero, List.set_cons_succ]
  refine mix_two 4 16 rfl rfl (by decide) (by decide) (by kernel_rfl) ?_ ?_
  · have g := hS.out
    go_wp2_with fail
    refine (of_c _ false 0 _ (h1.later g.2.2.2).noneIs).mono ?_
    rintro e w3 ⟨v3, rfl, ho3, hb3⟩
    obtain ⟨a2, ca2, rfl, hs3⟩ := ho3.slice
    replace ho3 := ho3.mono (base' := w1.heap.size) g.2.2.2.size
    go_wp2_with fail
    refine mix_out (Held.mk ⟨below_cell hb3 g.1, below_cell hb3 g.2.1, below_cell hb3 g.2.2.1, below_then g.2.2.2 hb3⟩) (fun hS => ?_)
    refine mix_step 16 rfl (by decide) (by kernel_rfl) ?_
    clear g
    have g := hS.out
    have hbk := below_alloc w3 (.cells #[.bool (decide (many < 0)), .int .i64 2, .bool (decide ((l0 : Int) < many)), .int .i64 4] 88)
    have hnew := ask_new2 w3 (decide (many < 0)) 2 (decide ((l0 : Int) < many)) 4
    have ho4 := ho3.later hbk
    go_wp2_with fail
    refine mix_out (Held.mk ⟨below_cell hbk g.1, below_cell hbk g.2.1, below_cell hbk g.2.2.1, below_then g.2.2.2 hbk⟩) (fun hS => ?_)
    refine mix_step 17 rfl (by decide) (by kernel_rfl) ?_
    clear g
    have g := hS.out
    refine wpList_append_ask rfl _ _ rfl w1.heap.size a2 2 ca2 _ rfl ho4 _ 2 2 _ rfl hnew rfl rfl (by decide) g.2.2.2.size ?_
    intro a5 c5 w5 ho5 hb5
    go_wp2_with fail
    refine mix_out (Held.mk ⟨(hb5.cell (by have := HZ.out; show w.heap.size < _; omega)).trans g.1, (hb5.cell (by have := HZ.out; show w.heap.size + 1 < _; omega)).trans g.2.1, (hb5.cell (by have := HZ.out; show b < _; omega)).trans g.2.2.1, g.2.2.2.trans hb5⟩) (fun hS => ?_)
    refine mix_done (by kernel_rfl) ?_
    simp only [List.drop_succ_cons, List.drop_zero]
    clear g
    have g := hS.out
    obtain ⟨hs5, -⟩ := ho5.sl
    have hact := act_c b s ((s.acted.setF 0 ((s.fl 0).take many.toNat)).setN 0 (min many.toNat (s.la 0))) 57 #[.pointer (some ⟨w.heap.size + 1, 0, none⟩), .pointer (some ⟨w.heap.size, 0, none⟩)] a5 4 c5 _ (by decide) w5 (h1.later g.2.2.2) hsl rfl hs5 (enters_of Try.func57 (by kernel_rfl) rfl)
      (fun hno _ w1' hd1 hg1 => cut_do0 b (w.heap.size + 1) w.heap.size s.acted many w1' hd1 (grown_cell hg1 g.2.1 (by omega)) (grown_cell hg1 g.1 (by omega)) (by
        rw [firstA4 _ _ 0 rfl] at hno; by_cases hx : many < 0
        · simp [hx] at hno
        · omega) (by
        rw [firstA4 _ _ 0 rfl] at hno; have hle := HLEN.out; show many ≤ (s.f0.length : Int); by_cases hx : many < 0
        · simp [hx] at hno
        · by_cases hy : (l0 : Int) < many
          · simp [hx, hy] at hno
          · omega) hbig)
    rw [firstA4 _ _ 0 rfl] at hact
    have hact2 := hact.mono (R' := fun e w' => e = .returned (.int .i64 (s.cut 0 many).2) ∧ IsD w' b (s.cut 0 many).1 ∧ World.grownBy _ w' (some b)) fun e w' ⟨he, h1, h2⟩ => by
      have e1 : (s.cut 0 many) = if 0 ≤ many then (if (l0 : Int) < many then (s, 4) else if s.left = 0 then (s, 171) else ((s.acted.setF 0 ((s.fl 0).take many.toNat)).setN 0 (min many.toNat (s.la 0)), 0)) else (s, 2) := by
        rw [← HLEN.out]
        unfold DS.cut
        by_cases h0 : 0 ≤ many
        · rw [if_pos ⟨rfl, h0⟩, if_pos h0]; rfl
        · rw [if_neg (fun h => h0 h.2), if_neg h0]
      rw [e1]
      by_cases hx : many < 0
      · have h0 : ¬ 0 ≤ many := by omega
        simp [hx, h0] at he h1 ⊢
        exact ⟨he, h1, h2⟩
      · have h0 : 0 ≤ many := by omega
        by_cases hy : (l0 : Int) < many
        · simp [hx, h0, hy] at he h1 ⊢
          exact ⟨he, h1, h2⟩
        · by_cases hl0 : s.left = 0
          · simp [hx, h0, hy, hl0] at he h1 ⊢
            exact ⟨he, h1, h2⟩
          · simp [hx, h0, hy, hl0] at he h1 ⊢
            exact ⟨he, h1, h2⟩
    clear hact
    have HA := Lib.hid hact2; clear hact2
    go_wp2_with fail
    refine HA.out.mono ?_
    rintro e w6 ⟨rfl, hd6, hg6⟩
    go_wp2_with fail
    go_ret
    exact ⟨rfl, hd6, grown_trans (grown_of_below (hb01.trans (g.2.2.2.mono hb01.size))) hg6⟩
  · have g := hS.out
    have hbk := below_alloc w1.drew (.cells #[.bool (decide (many < 0)), .int .i64 2, .bool (decide ((l0 : Int) < many)), .int .i64 4] 88)
    have hnew := ask_new2 w1.drew (decide (many < 0)) 2 (decide ((l0 : Int) < many)) 4
    go_wp2_with fail
    refine mix_out (Held.mk ⟨below_cell hbk g.1, below_cell hbk g.2.1, below_cell hbk g.2.2.1, below_then g.2.2.2 hbk⟩) (fun hS => ?_)
    refine mix_step 4 rfl (by decide) (by kernel_rfl) ?_
    clear g
    have g := hS.out
    go_wp2_with fail
    refine (of_c _ false 0 _ (h1.later g.2.2.2).noneIs).mono ?_
    rintro e w3 ⟨v3, rfl, ho3, hb3⟩
    obtain ⟨a2, ca2, rfl, hs3⟩ := ho3.slice
    replace ho3 := ho3.mono (base' := w1.heap.size) g.2.2.2.size
    have hnew2 := hnew.later hb3
    go_wp2_with fail
    refine mix_out (Held.mk ⟨below_cell hb3 g.1, below_cell hb3 g.2.1, below_cell hb3 g.2.2.1, below_then g.2.2.2 hb3⟩) (fun hS => ?_)
    refine mix_step 17 rfl (by decide) (by kernel_rfl) ?_
    clear g
    have g := hS.out
    refine wpList_append_ask rfl _ _ rfl w1.heap.size a2 2 ca2 _ rfl ho3 _ 2 2 _ rfl hnew2 rfl rfl (by decide) g.2.2.2.size ?_
    intro a5 c5 w5 ho5 hb5
    go_wp2_with fail
    refine mix_out (Held.mk ⟨(hb5.cell (by have := HZ.out; show w.heap.size < _; omega)).trans g.1, (hb5.cell (by have := HZ.out; show w.heap.size + 1 < _; omega)).trans g.2.1, (hb5.cell (by have := HZ.out; show b < _; omega)).trans g.2.2.1, g.2.2.2.trans hb5⟩) (fun hS => ?_)
    refine mix_done (by kernel_rfl) ?_
    simp only [List.drop_succ_cons, List.drop_zero]
    clear g
    have g := hS.out
    obtain ⟨hs5, -⟩ := ho5.sl
    have hact := act_c b s ((s.acted.setF 0 ((s.fl 0).take many.toNat)).setN 0 (min many.toNat (s.la 0))) 57 #[.pointer (some ⟨w.heap.size + 1, 0, none⟩), .pointer (some ⟨w.heap.size, 0, none⟩)] a5 4 c5 _ (by decide) w5 (h1.later g.2.2.2) hsl rfl hs5 (enters_of Try.func57 (by kernel_rfl) rfl)
      (fun hno _ w1' hd1 hg1 => cut_do0 b (w.heap.size + 1) w.heap.size s.acted many w1' hd1 (grown_cell hg1 g.2.1 (by omega)) (grown_cell hg1 g.1 (by omega)) (by
        rw [firstA4 _ _ 0 rfl] at hno; by_cases hx : many < 0
        · simp [hx] at hno
        · omega) (by
        rw [firstA4 _ _ 0 rfl] at hno; have hle := HLEN.out; show many ≤ (s.f0.length : Int); by_cases hx : many < 0
        · simp [hx] at hno
        · by_cases hy : (l0 : Int) < many
          · simp [hx, hy] at hno
          · omega) hbig)
    rw [firstA4 _ _ 0 rfl] at hact
    have hact2 := hact.mono (R' := fun e w' => e = .returned (.int .i64 (s.cut 0 many).2) ∧ IsD w' b (s.cut 0 many).1 ∧ World.grownBy _ w' (some b)) fun e w' ⟨he, h1, h2⟩ => by
      have e1 : (s.cut 0 many) = if 0 ≤ many then (if (l0 : Int) < many then (s, 4) else if s.left = 0 then (s, 171) else ((s.acted.setF 0 ((s.fl 0).take many.toNat)).setN 0 (min many.toNat (s.la 0)), 0)) else (s, 2) := by
        rw [← HLEN.out]
        unfold DS.cut
        by_cases h0 : 0 ≤ many
        · rw [if_pos ⟨rfl, h0⟩, if_pos h0]; rfl
        · rw [if_neg (fun h => h0 h.2), if_neg h0]
      rw [e1]
      by_cases hx : many < 0
      · have h0 : ¬ 0 ≤ many := by omega
        simp [hx, h0] at he h1 ⊢
        exact ⟨he, h1, h2⟩
      · have h0 : 0 ≤ many := by omega
        by_cases hy : (l0 : Int) < many
        · simp [hx, h0, hy] at he h1 ⊢
          exact ⟨he, h1, h2⟩
        · by_cases hl0 : s.left = 0
          · simp [hx, h0, hy, hl0] at he h1 ⊢
            exact ⟨he, h1, h2⟩
          · simp [hx, h0, hy, hl0] at he h1 ⊢
            exact ⟨he, h1, h2⟩
    clear hact
    have HA := Lib.hid hact2; clear hact2
    go_wp2_with fail
    refine HA.out.mono ?_
    rintro e w6 ⟨rfl, hd6, hg6⟩
    go_wp2_with fail
    go_ret
    exact ⟨rfl, hd6, grown_trans (grown_of_below (hb01.trans (g.2.2.2.mono hb01.size))) hg6⟩
set_option maxRecDepth 100000 in
set_option maxHeartbeats 2000000 in
theorem cut_c1 (b : Nat) (s : DS) (many : Int) (w : World) (h : IsD w b s) (hsl : LeftOk s.left) (hbig : s.f1.length ≤ 2 ^ 40) :
    Calls Try.prog 32 #[.pointer (some ⟨b, 0, none⟩), .int .i64 1, .int .i64 many] w fun e w' => e = .returned (.int .i64 (s.cut 1 many).2) ∧ IsD w' b (s.cut 1 many).1 ∧ w.grownBy w' (some b) := by
  have hblt := h.lt
  have hb0 := below_alloc w (.cells #[.int .i64 many] 3)
  have h0 := h.later hb0
  have hat := at_c b s 1 _ h0 (by decide) (by decide)
  have hb1 := below_alloc (w.alloc (.cells #[.int .i64 many] 3)) (.cells #[.pointer (some ⟨b, 5, none⟩)] 81)
  have h1 := h0.later hb1
  have hcb1 := below_cell hb1 (Box.new w (.int .i64 many) 3).cell
  have hcf1 := (Box.new (w.alloc (.cells #[.int .i64 many] 3)) (.pointer (some ⟨b, 5, none⟩)) 81).cell
  have hb01 := below_then hb0 hb1
  rw [World.size_alloc] at hcf1
  obtain ⟨w1, hw1⟩ : ∃ w1, (w.alloc (.cells #[.int .i64 many] 3)).alloc (.cells #[.pointer (some ⟨b, 5, none⟩)] 81) = w1 := ⟨_, rfl⟩
  have hz1 : w.heap.size + 2 = w1.heap.size := by rw [← hw1]; simp
  rw [hw1] at h1 hcb1 hcf1 hb01
  clear hb1 hb0 h0
  have HZ := Lib.hid hz1; clear hz1
  have HW := Lib.hid hw1; clear hw1
  go_enter Try.func32, Try.ntmps32
  go_wp2_with fail
  refine hat.mono ?_
  rintro e wx ⟨rfl, rfl⟩
  clear hat
  go_wp2_with fail
  rw [HW.out]
  obtain ⟨a0, l0, c0, a1, l1, c1, hd2⟩ := id h1
  have hlen := hd2.b1.len
  have hgf := hd2.g5
  have HLEN := Lib.hid hlen; clear hlen
  refine mix_begin 18 (Held fun w' => w'.cell? ⟨w.heap.size, 0, none⟩ = some (.int .i64 many) ∧ w'.cell? ⟨w.heap.size + 1, 0, none⟩ = some (.pointer (some ⟨b, 5, none⟩)) ∧ w'.cell? ⟨b, 5, none⟩ = some (.slice a1 l1 c1) ∧ Below w1.heap.size w1 w') (by kernel_rfl) (by kernel_rfl) (Held.mk ⟨hcb1, hcf1, hgf, below_drew _⟩) (fun hS => ?_)
  refine mix_take (v := ?_) 0 rfl (by decide) (by kernel_rfl) (by kernel_rfl) (fun _ _ _ h => h) hS rfl ?_ ?_
  rotate_left
  · (intro w' hw'; first | (go_simp; done) | (go_simp; with_reducible rfl) | (obtain ⟨g1, g2, g3, g4⟩ := hw'.out; first | (go_simp; done) | (go_simp; with_reducible rfl)))
  simp only [Act.put, List.setIfInBounds_toArray, List.set_cons_zero, List.set_cons_succ]
  refine mix_take (v := ?_) 1 rfl (by decide) (by kernel_rfl) (by kernel_rfl) (fun _ _ _ h => h) hS rfl ?_ ?_
  rotate_left
  · (intro w' hw'; first | (go_simp; done) | (go_simp; with_reducible rfl) | (obtain ⟨g1, g2, g3, g4⟩ := hw'.out; first | (go_simp; done) | (go_simp; with_reducible rfl)))
  simp only [Act.put, List.setIfInBounds_toArray, List.set_cons_zero, List.set_cons_succ]
  refine mix_take (v := ?_) 2 rfl (by decide) (by kernel_rfl) (by kernel_rfl) (fun _ _ _ h => h) hS rfl ?_ ?_
  rotate_left
  · (intro w' hw'; first | (go_simp; done) | (go_simp; with_reducible rfl) | (obtain ⟨g1, g2, g3, g4⟩ := hw'.out; first | (go_simp; done) | (go_simp; with_reducible rfl)))
  simp only [Act.put, List.setIfInBounds_toArray, List.set_cons_zero, List.set_cons_succ]
  refine mix_take (v := ?_) 3 rfl (by decide) (by kernel_rfl) (by kernel_rfl) (fun _ _ _ h => h) hS rfl ?_ ?_
  rotate_left
  · (intro w' hw'; first | (go_simp; done) | (go_simp; with_reducible rfl) | (obtain ⟨g1, g2, g3, g4⟩ := hw'.out; first | (go_simp; done) | (go_simp; with_reducible rfl)))
  simp only [Act.put, List.setIfInBounds_toArray, List.set_cons_zero, List.set_cons_succ]
  refine mix_take (v := ?_) 5 rfl (by decide) (by kernel_rfl) (by kernel_rfl) (fun _ _ _ h => h) hS rfl ?_ ?_
  rotate_left
  · (intro w' hw'; first | (go_simp; done) | (go_simp; with_reducible rfl) | (obtain ⟨g1, g2, g3, g4⟩ := hw'.out; first | (go_simp; done) | (go_simp; with_reducible rfl)))
  simp only [Act.put, List.setIfInBounds_toArray, List.set_cons_zero, List.set_cons_succ]
  refine mix_take (v := ?_) 6 rfl (by decide) (by kernel_rfl) (by kernel_rfl) (fun _ _ _ h => h) hS rfl ?_ ?_
  rotate_left
  · (intro w' hw'; first | (go_simp; done) | (go_simp; with_reducible rfl) | (obtain ⟨g1, g2, g3, g4⟩ := hw'.out; first | (go_simp; done) | (go_simp; with_reducible rfl)))
  simp only [Act.put, List.setIfInBounds_toArray, List.set_cons_zero, List.set_cons_succ]
  refine mix_take (v := ?_) 7 rfl (by decide) (by kernel_rfl) (by kernel_rfl) (fun _ _ _ h => h) hS rfl ?_ ?_
  rotate_left
  · (intro w' hw'; first | (go_simp; done) | (go_simp; with_reducible rfl) | (obtain ⟨g1, g2, g3, g4⟩ := hw'.out; first | (go_simp; done) | (go_simp; with_reducible rfl)))
  simp only [Act.put, List.setIfInBounds_toArray, List.set_cons_zero, List.set_cons_succ]
  refine mix_take (v := ?_) 8 rfl (by decide) (by kernel_rfl) (by kernel_rfl) (fun _ _ _ h => h) hS rfl ?_ ?_
  rotate_left
  · (intro w' hw'; first | (go_simp; done) | (go_simp; with_reducible rfl) | (obtain ⟨g1, g2, g3, g4⟩ := hw'.out; first | (go_simp; done) | (go_simp; with_reducible rfl)))
  simp only [Act.put, List.setIfInBounds_toArray, List.set_cons_zero, List.set_cons_succ]
  refine mix_take (v := ?_) 9 rfl (by decide) (by kernel_rfl) (by kernel_rfl) (fun _ _ _ h => h) hS rfl ?_ ?_
  rotate_left
  · (intro w' hw'; first | (go_simp; done) | (go_simp; with_reducible rfl) | (obtain ⟨g1, g2, g3, g4⟩ := hw'.out; first | (go_simp; done) | (go_simp; with_reducible rfl)))
  simp only [Act.put, List.setIfInBounds_toArray, List.set_cons_zero, List.set_cons_succ]
  refine mix_take (v := ?_) 10 rfl (by decide) (by kernel_rfl) (by kernel_rfl) (fun _ _ _ h => h) hS rfl ?_ ?_
  rotate_left
  · (intro w' hw'; first | (go_simp; done) | (go_simp; with_reducible rfl) | (obtain ⟨g1, g2, g3, g4⟩ := hw'.out; first | (go_simp; done) | (go_simp; with_reducible rfl)))
  simp only [Act.put, List.setIfInBounds_toArray, List.set_cons_zero, List.set_cons_succ]
  refine mix_take (v := ?_) 11 rfl (by decide) (by kernel_rfl) (by kernel_rfl) (fun _ _ _ h => h) hS rfl ?_ ?_
  rotate_left
  · (intro w' hw'; first | (go_simp; done) | (go_simp; with_reducible rfl) | (obtain ⟨g1, g2, g3, g4⟩ := hw'.out; first | (go_simp; done) | (go_simp; with_reducible rfl)))
  simp only [Act.put, List.setIfInBounds_toArray, List.set_cons_zero, List.set_cons_succ]
  refine mix_take (v := ?_) 12 rfl (by decide) (by kernel_rfl) (by kernel_rfl) (fun _ _ _ h => h) hS rfl ?_ ?_
  rotate_left
  · (intro w' hw'; first | (go_simp; done) | (go_simp; with_reducible rfl) | (obtain ⟨g1, g2, g3, g4⟩ := hw'.out; first | (go_simp; done) | (go_simp; with_reducible rfl)))
  simp only [Act.put, List.setIfInBounds_toArray, List.set_cons_zero, List.set_cons_succ]
  refine mix_take (v := ?_) 13 rfl (by decide) (by kernel_rfl) (by kernel_rfl) (fun _ _ _ h => h) hS rfl ?_ ?_
  rotate_left
  · (intro w' hw'; first | (go_simp; done) | (go_simp; with_reducible rfl) | (obtain ⟨g1, g2, g3, g4⟩ := hw'.out; first | (go_simp; done) | (go_simp; with_reducible rfl)))
  simp only [Act.put, List.setIfInBounds_toArray, List.set_cons_zero, List.set_cons_succ]
  refine mix_take (v := ?_) 14 rfl (by decide) (by kernel_rfl) (by kernel_rfl) (fun _ _ _ h => h) hS rfl ?_ ?_
  rotate_left
  · (intro w' hw'; first | (go_simp; done) | (go_simp; with_reducible rfl) | (obtain ⟨g1, g2, g3, g4⟩ := hw'.out; first | (go_simp; done) | (go_simp; with_reducible rfl)))
  simp only [Act.put, List.setIfInBounds_toArray, List.set_cons_zero, List.set_cons_succ]
  refine mix_take (v := ?_) 15 rfl (by decide) (by kernel_rfl) (by kernel_rfl) (fun _ _ _ h => h) hS rfl ?_ ?_
  rotate_left
  · (intro w' hw'; first | (go_simp; done) | (go_simp; with_reducible rfl) | (obtain ⟨g1, g2, g3, g4⟩ := hw'.out; first | (go_simp; done) | (go_simp; with_reducible rfl)))
  simp only [Act.put, List.setIfInBounds_toArray, List.set_cons_zero, List.set_cons_succ]
  refine mix_two 4 16 rfl rfl (by decide) (by decide) (by kernel_rfl) ?_ ?_
  · have g := hS.out
    go_wp2_with fail
    refine (of_c _ false 1 _ (h1.later g.2.2.2).noneIs).mono ?_
    rintro e w3 ⟨v3, rfl, ho3, hb3⟩
    obtain ⟨a2, ca2, rfl, hs3⟩ := ho3.slice
    replace ho3 := ho3.mono (base' := w1.heap.size) g.2.2.2.size
    go_wp2_with fail
    refine mix_out (Held.mk ⟨below_cell hb3 g.1, below_cell hb3 g.2.1, below_cell hb3 g.2.2.1, below_then g.2.2.2 hb3⟩) (fun hS => ?_)
    refine mix_step 16 rfl (by decide) (by kernel_rfl) ?_
    clear g
    have g := hS.out
    have hbk := below_alloc w3 (.cells #[.bool (decide (many < 0)), .int .i64 2, .bool (decide ((l1 : Int) < many)), .int .i64 4] 88)
    have hnew := ask_new2 w3 (decide (many < 0)) 2 (decide ((l1 : Int) < many)) 4
    have ho4 := ho3.later hbk
    go_wp2_with fail
    refine mix_out (Held.mk ⟨below_cell hbk g.1, below_cell hbk g.2.1, below_cell hbk g.2.2.1, below_then g.2.2.2 hbk⟩) (fun hS => ?_)
    refine mix_step 17 rfl (by decide) (by kernel_rfl) ?_
    clear g
    have g := hS.out
    refine wpList_append_ask rfl _ _ rfl w1.heap.size a2 2 ca2 _ rfl ho4 _ 2 2 _ rfl hnew rfl rfl (by decide) g.2.2.2.size ?_
    intro a5 c5 w5 ho5 hb5
    go_wp2_with fail
    refine mix_out (Held.mk ⟨(hb5.cell (by have := HZ.out; show w.heap.size < _; omega)).trans g.1, (hb5.cell (by have := HZ.out; show w.heap.size + 1 < _; omega)).trans g.2.1, (hb5.cell (by have := HZ.out; show b < _; omega)).trans g.2.2.1, g.2.2.2.trans hb5⟩) (fun hS => ?_)
    refine mix_done (by kernel_rfl) ?_
    simp only [List.drop_succ_cons, List.drop_zero]
    clear g
    have g := hS.out
    obtain ⟨hs5, -⟩ := ho5.sl
    have hact := act_c b s ((s.acted.setF 1 ((s.fl 1).take many.toNat)).setN 1 (min many.toNat (s.la 1))) 57 #[.pointer (some ⟨w.heap.size + 1, 0, none⟩), .pointer (some ⟨w.heap.size, 0, none⟩)] a5 4 c5 _ (by decide) w5 (h1.later g.2.2.2) hsl rfl hs5 (enters_of Try.func57 (by kernel_rfl) rfl)
      (fun hno _ w1' hd1 hg1 => cut_do1 b (w.heap.size + 1) w.heap.size s.acted many w1' hd1 (grown_cell hg1 g.2.1 (by omega)) (grown_cell hg1 g.1 (by omega)) (by
        rw [firstA4 _ _ 1 rfl] at hno; by_cases hx : many < 0
        · simp [hx] at hno
        · omega) (by
        rw [firstA4 _ _ 1 rfl] at hno; have hle := HLEN.out; show many ≤ (s.f1.length : Int); by_cases hx : many < 0
        · simp [hx] at hno
        · by_cases hy : (l1 : Int) < many
          · simp [hx, hy] at hno
          · omega) hbig)
    rw [firstA4 _ _ 1 rfl] at hact
    have hact2 := hact.mono (R' := fun e w' => e = .returned (.int .i64 (s.cut 1 many).2) ∧ IsD w' b (s.cut 1 many).1 ∧ World.grownBy _ w' (some b)) fun e w' ⟨he, h1, h2⟩ => by
      have e1 : (s.cut 1 many) = if 0 ≤ many then (if (l1 : Int) < many then (s, 4) else if s.left = 0 then (s, 171) else ((s.acted.setF 1 ((s.fl 1).take many.toNat)).setN 1 (min many.toNat (s.la 1)), 0)) else (s, 2) := by
        rw [← HLEN.out]
        unfold DS.cut
        by_cases h0 : 0 ≤ many
        · rw [if_pos ⟨rfl, h0⟩, if_pos h0]; rfl
        · rw [if_neg (fun h => h0 h.2), if_neg h0]
      rw [e1]
      by_cases hx : many < 0
      · have h0 : ¬ 0 ≤ many := by omega
        simp [hx, h0] at he h1 ⊢
        exact ⟨he, h1, h2⟩
      · have h0 : 0 ≤ many := by omega
        by_cases hy : (l1 : Int) < many
        · simp [hx, h0, hy] at he h1 ⊢
          exact ⟨he, h1, h2⟩
        · by_cases hl0 : s.left = 0
          · simp [hx, h0, hy, hl0] at he h1 ⊢
            exact ⟨he, h1, h2⟩
          · simp [hx, h0, hy, hl0] at he h1 ⊢
            exact ⟨he, h1, h2⟩
    clear hact
    have HA := Lib.hid hact2; clear hact2
    go_wp2_with fail
    refine HA.out.mono ?_
    rintro e w6 ⟨rfl, hd6, hg6⟩
    go_wp2_with fail
    go_ret
    exact ⟨rfl, hd6, grown_trans (grown_of_below (hb01.trans (g.2.2.2.mono hb01.size))) hg6⟩
  · have g := hS.out
    have hbk := below_alloc w1.drew (.cells #[.bool (decide (many < 0)), .int .i64 2, .bool (decide ((l1 : Int) < many)), .int .i64 4] 88)
    have hnew := ask_new2 w1.drew (decide (many < 0)) 2 (decide ((l1 : Int) < many)) 4
    go_wp2_with fail
    refine mix_out (Held.mk ⟨below_cell hbk g.1, below_cell hbk g.2.1, below_cell hbk g.2.2.1, below_then g.2.2.2 hbk⟩) (fun hS => ?_)
    refine mix_step 4 rfl (by decide) (by kernel_rfl) ?_
    clear g
    have g := hS.out
    go_wp2_with fail
    refine (of_c _ false 1 _ (h1.later g.2.2.2).noneIs).mono ?_
    rintro e w3 ⟨v3, rfl, ho3, hb3⟩
    obtain ⟨a2, ca2, rfl, hs3⟩ := ho3.slice
    replace ho3 := ho3.mono (base' := w1.heap.size) g.2.2.2.size
    have hnew2 := hnew.later hb3
    go_wp2_with fail
    refine mix_out (Held.mk ⟨below_cell hb3 g.1, below_cell hb3 g.2.1, below_cell hb3 g.2.2.1, below_then g.2.2.2 hb3⟩) (fun hS => ?_)
    refine mix_step 17 rfl (by decide) (by kernel_rfl) ?_
    clear g
    have g := hS.out
    refine wpList_append_ask rfl _ _ rfl w1.heap.size a2 2 ca2 _ rfl ho3 _ 2 2 _ rfl hnew2 rfl rfl (by decide) g.2.2.2.size ?_
    intro a5 c5 w5 ho5 hb5
    go_wp2_with fail
    refine mix_out (Held.mk ⟨(hb5.cell (by have := HZ.out; show w.heap.size < _; omega)).trans g.1, (hb5.cell (by have := HZ.out; show w.heap.size + 1 < _; omega)).trans g.2.1, (hb5.cell (by have := HZ.out; show b < _; omega)).trans g.2.2.1, g.2.2.2.trans hb5⟩) (fun hS => ?_)
    refine mix_done (by kernel_rfl) ?_
    simp only [List.drop_succ_cons, List.drop_zero]
    clear g
    have g := hS.out
    obtain ⟨hs5, -⟩ := ho5.sl
    have hact := act_c b s ((s.acted.setF 1 ((s.fl 1).take many.toNat)).setN 1 (min many.toNat (s.la 1))) 57 #[.pointer (some ⟨w.heap.size + 1, 0, none⟩), .pointer (some ⟨w.heap.size, 0, none⟩)] a5 4 c5 _ (by decide) w5 (h1.later g.2.2.2) hsl rfl hs5 (enters_of Try.func57 (by kernel_rfl) rfl)
      (fun hno _ w1' hd1 hg1 => cut_do1 b (w.heap.size + 1) w.heap.size s.acted many w1' hd1 (grown_cell hg1 g.2.1 (by omega)) (grown_cell hg1 g.1 (by omega)) (by
        rw [firstA4 _ _ 1 rfl] at hno; by_cases hx : many < 0
        · simp [hx] at hno
        · omega) (by
        rw [firstA4 _ _ 1 rfl] at hno; have hle := HLEN.out; show many ≤ (s.f1.length : Int); by_cases hx : many < 0
        · simp [hx] at hno
        · by_cases hy : (l1 : Int) < many
          · simp [hx, hy] at hno
          · omega) hbig)
    rw [firstA4 _ _ 1 rfl] at hact
    have hact2 := hact.mono (R' := fun e w' => e = .returned (.int .i64 (s.cut 1 many).2) ∧ IsD w' b (s.cut 1 many).1 ∧ World.grownBy _ w' (some b)) fun e w' ⟨he, h1, h2⟩ => by
      have e1 : (s.cut 1 many) = if 0 ≤ many then (if (l1 : Int) < many then (s, 4) else if s.left = 0 then (s, 171) else ((s.acted.setF 1 ((s.fl 1).take many.toNat)).setN 1 (min many.toNat (s.la 1)), 0)) else (s, 2) := by
        rw [← HLEN.out]
        unfold DS.cut
        by_cases h0 : 0 ≤ many
        · rw [if_pos ⟨rfl, h0⟩, if_pos h0]; rfl
        · rw [if_neg (fun h => h0 h.2), if_neg h0]
      rw [e1]
      by_cases hx : many < 0
      · have h0 : ¬ 0 ≤ many := by omega
        simp [hx, h0] at he h1 ⊢
        exact ⟨he, h1, h2⟩
      · have h0 : 0 ≤ many := by omega
        by_cases hy : (l1 : Int) < many
        · simp [hx, h0, hy] at he h1 ⊢
          exact ⟨he, h1, h2⟩
        · by_cases hl0 : s.left = 0
          · simp [hx, h0, hy, hl0] at he h1 ⊢
            exact ⟨he, h1, h2⟩
          · simp [hx, h0, hy, hl0] at he h1 ⊢
            exact ⟨he, h1, h2⟩
    clear hact
    have HA := Lib.hid hact2; clear hact2
    go_wp2_with fail
    refine HA.out.mono ?_
    rintro e w6 ⟨rfl, hd6, hg6⟩
    go_wp2_with fail
    go_ret
    exact ⟨rfl, hd6, grown_trans (grown_of_below (hb01.trans (g.2.2.2.mono hb01.size))) hg6⟩
end Go.Proofs.Ytknndpncdnhnpaa
