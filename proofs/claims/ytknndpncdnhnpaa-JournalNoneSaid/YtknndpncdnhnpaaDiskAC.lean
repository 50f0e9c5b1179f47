import Derived.Test.YtknndpncdnhnpaaDiskAB
namespace Go.Proofs.Ytknndpncdnhnpaa
open Go.RowKit Go.Cas

set_option maxRecDepth 100000 in
set_option maxHeartbeats 2000000 in
theorem crash_n0 (p : Option Addr) (k0 k1 : Int) (w : World) (h : NoneIs w (.pointer p) false) (hk : k0 < 0) :
    Calls Try.prog 20 #[.pointer p, .agg #[.int .i64 k0, .int .i64 k1]] w fun e w' => e = .returned (.int .i64 2) ∧ Below w.heap.size w w' := by
  have HH := Lib.hid h; clear h
  have hk0 : decide (k0 < 0) = true := by simpa using hk
  clear hk
  go_enter Try.func20, Try.ntmps20
  go_wp2_with fail
  obtain ⟨w1, hw1⟩ : ∃ w1, w.alloc (.cells #[.int .i64 k0, .int .i64 k1] 36) = w1 := ⟨_, rfl⟩
  have hb1 : Below w.heap.size w w1 := by rw [← hw1]; exact below_alloc _ _
  have hc0 : w1.cell? ⟨w.heap.size, 0, none⟩ = some (.int .i64 k0) := by
    rw [← hw1]; have := heap_alloc_new w (.cells #[.int .i64 k0, .int .i64 k1] 36); simp only [World.cell?, this]; rfl
  have hc1 : w1.cell? ⟨w.heap.size, 1, none⟩ = some (.int .i64 k1) := by
    rw [← hw1]; have := heap_alloc_new w (.cells #[.int .i64 k0, .int .i64 k1] 36); simp only [World.cell?, this]; rfl
  rw [hw1]
  clear hw1
  refine mix_begin 14 (Held fun w' => w'.cell? ⟨w.heap.size, 0, none⟩ = some (.int .i64 k0) ∧ w'.cell? ⟨w.heap.size, 1, none⟩ = some (.int .i64 k1) ∧ Below w1.heap.size w1 w') (by kernel_rfl) (by kernel_rfl) (Held.mk ⟨hc0, hc1, below_drew _⟩) (fun hS => ?_)
  refine mix_take (v := ?_) 0 rfl (by decide) (by kernel_rfl) (by kernel_rfl) (fun _ _ _ h => h) hS rfl ?_ ?_
  rotate_left
  · (intro w' hw'; first | (go_simp; done) | (go_simp; with_reducible rfl) | (obtain ⟨g1, g2, g3⟩ := hw'.out; first | (go_simp; done) | (go_simp; with_reducible rfl)))
  simp only [Act.put, List.setIfInBounds_toArray, List.set_cons_zero, List.set_cons_succ]
  refine mix_take (v := ?_) 2 rfl (by decide) (by kernel_rfl) (by kernel_rfl) (fun _ _ _ h => h) hS rfl ?_ ?_
  rotate_left
  · (intro w' hw'; first | (go_simp; done) | (go_simp; with_reducible rfl) | (obtain ⟨g1, g2, g3⟩ := hw'.out; first | (go_simp; done) | (go_simp; with_reducible rfl)))
  simp only [Act.put, List.setIfInBounds_toArray, List.set_cons_zero, List.set_cons_succ]
  refine mix_take (v := ?_) 3 rfl (by decide) (by kernel_rfl) (by kernel_rfl) (fun _ _ _ h => h) hS rfl ?_ ?_
  rotate_left
  · (intro w' hw'; first | (go_simp; done) | (go_simp; with_reducible rfl) | (obtain ⟨g1, g2, g3⟩ := hw'.out; first | (go_simp; done) | (go_simp; with_reducible rfl)))
  simp only [Act.put, List.setIfInBounds_toArray, List.set_cons_zero, List.set_cons_succ]
  refine mix_take (v := ?_) 4 rfl (by decide) (by kernel_rfl) (by kernel_rfl) (fun _ _ _ h => h) hS rfl ?_ ?_
  rotate_left
  · (intro w' hw'; first | (go_simp; done) | (go_simp; with_reducible rfl) | (obtain ⟨g1, g2, g3⟩ := hw'.out; first | (go_simp; done) | (go_simp; with_reducible rfl)))
  simp only [Act.put, List.setIfInBounds_toArray, List.set_cons_zero, List.set_cons_succ]
  refine mix_step 1 rfl (by decide) (by kernel_rfl) ?_
  have g := hS.out
  go_wp2_with fail
  refine (of_c _ false 0 _ ((HH.out.later hb1).later g.2.2)).mono ?_
  rintro e w3 ⟨v3, rfl, ho3, hb3⟩
  obtain ⟨a2, ca2, rfl, hs3⟩ := ho3.slice
  replace ho3 := ho3.mono (base' := w1.heap.size) g.2.2.size
  go_wp2_with fail
  refine mix_out (Held.mk ⟨below_cell hb3 g.1, below_cell hb3 g.2.1, below_then g.2.2 hb3⟩) (fun hS => ?_)
  refine mix_take (v := ?_) 5 rfl (by decide) (by kernel_rfl) (by kernel_rfl) (fun _ _ _ h => h) hS rfl ?_ ?_
  rotate_left
  · (intro w' hw'; first | (go_simp; done) | (go_simp; with_reducible rfl) | (obtain ⟨g1, g2, g3⟩ := hw'.out; first | (go_simp; done) | (go_simp; with_reducible rfl)))
  simp only [Act.put, List.setIfInBounds_toArray, List.set_cons_zero, List.set_cons_succ]
  refine mix_skip 6 rfl (by decide) (by kernel_rfl) (by kernel_rfl) (fun _ _ _ h => h) hS rfl ?_
  simp only [Act.put, List.setIfInBounds_toArray, List.set_cons_zero, List.set_cons_succ]
  refine mix_skip 7 rfl (by decide) (by kernel_rfl) (by kernel_rfl) (fun _ _ _ h => h) hS rfl ?_
  simp only [Act.put, List.setIfInBounds_toArray, List.set_cons_zero, List.set_cons_succ]
  refine mix_skip 8 rfl (by decide) (by kernel_rfl) (by kernel_rfl) (fun _ _ _ h => h) hS rfl ?_
  simp only [Act.put, List.setIfInBounds_toArray, List.set_cons_zero, List.set_cons_succ]
  refine mix_take (v := ?_) 9 rfl (by decide) (by kernel_rfl) (by kernel_rfl) (fun _ _ _ h => h) hS rfl ?_ ?_
  rotate_left
  · (intro w' hw'; first | (go_simp; done) | (go_simp; with_reducible rfl) | (obtain ⟨g1, g2, g3⟩ := hw'.out; first | (go_simp; done) | (go_simp; with_reducible rfl)))
  simp only [Act.put, List.setIfInBounds_toArray, List.set_cons_zero, List.set_cons_succ]
  refine mix_take (v := ?_) 10 rfl (by decide) (by kernel_rfl) (by kernel_rfl) (fun _ _ _ h => h) hS rfl ?_ ?_
  rotate_left
  · (intro w' hw'; first | (go_simp; done) | (go_simp; with_reducible rfl) | (obtain ⟨g1, g2, g3⟩ := hw'.out; first | (go_simp; done) | (go_simp; with_reducible rfl)))
  simp only [Act.put, List.setIfInBounds_toArray, List.set_cons_zero, List.set_cons_succ]
  refine mix_step 11 rfl (by decide) (by kernel_rfl) ?_
  clear g
  have g := hS.out
  have hbk := below_alloc w3 (.cells #[.bool true, .int .i64 2] 88)
  have hnew := ask_new w3 true 2
  have ho4 := ho3.later hbk
  go_wp2_with fail
  refine mix_out (Held.mk ⟨below_cell hbk g.1, below_cell hbk g.2.1, below_then g.2.2 hbk⟩) (fun hS => ?_)
  refine mix_step 12 rfl (by decide) (by kernel_rfl) ?_
  clear g
  have g := hS.out
  refine wpList_append_ask rfl _ _ rfl w1.heap.size a2 2 ca2 _ rfl ho4 _ 1 1 _ rfl hnew rfl rfl (by decide) g.2.2.size ?_
  intro a5 c5 w5 ho5 hb5
  go_wp2_with fail
  refine mix_out (Held.mk ⟨(hb5.cell (by have := World.block_lt_of_cell? w1 _ hc0; exact this)).trans g.1, (hb5.cell (by have := World.block_lt_of_cell? w1 _ hc1; exact this)).trans g.2.1, g.2.2.trans hb5⟩) (fun hS => ?_)
  refine mix_step 13 rfl (by decide) (by kernel_rfl) ?_
  clear g
  have g := hS.out
  obtain ⟨hs5, -⟩ := ho5.sl
  have hfi := first_c a5 3 c5 _ (by decide) w5 rfl hs5
  rw [show firstA ([(false, 1), (!fileOk 0, 2)] ++ [(true, 2)]) = 2 from rfl] at hfi
  go_wp2_with fail
  refine hfi.mono ?_
  rintro e w6 ⟨rfl, hb6⟩
  clear hfi
  go_wp2_with fail
  refine mix_out (Held.mk ⟨below_cell hb6 g.1, below_cell hb6 g.2.1, below_then g.2.2 hb6⟩) (fun hS => ?_)
  refine mix_done (by kernel_rfl) ?_
  simp only [List.drop_succ_cons, List.drop_zero]
  go_wp2_with fail
  go_ret
  exact ⟨rfl, below_then hb1 hS.out.2.2⟩
set_option maxRecDepth 100000 in
set_option maxHeartbeats 2000000 in
theorem crash_n1 (p : Option Addr) (k0 k1 : Int) (w : World) (h : NoneIs w (.pointer p) false) (hk : 0 ≤ k0 ∧ k1 < 0) :
    Calls Try.prog 20 #[.pointer p, .agg #[.int .i64 k0, .int .i64 k1]] w fun e w' => e = .returned (.int .i64 2) ∧ Below w.heap.size w w' := by
  have HH := Lib.hid h; clear h
  have hk0 : decide (k0 < 0) = false := by simpa using hk.1
  have hk1 : decide (k1 < 0) = true := by simpa using hk.2
  clear hk
  go_enter Try.func20, Try.ntmps20
  go_wp2_with fail
  obtain ⟨w1, hw1⟩ : ∃ w1, w.alloc (.cells #[.int .i64 k0, .int .i64 k1] 36) = w1 := ⟨_, rfl⟩
  have hb1 : Below w.heap.size w w1 := by rw [← hw1]; exact below_alloc _ _
  have hc0 : w1.cell? ⟨w.heap.size, 0, none⟩ = some (.int .i64 k0) := by
    rw [← hw1]; have := heap_alloc_new w (.cells #[.int .i64 k0, .int .i64 k1] 36); simp only [World.cell?, this]; rfl
  have hc1 : w1.cell? ⟨w.heap.size, 1, none⟩ = some (.int .i64 k1) := by
    rw [← hw1]; have := heap_alloc_new w (.cells #[.int .i64 k0, .int .i64 k1] 36); simp only [World.cell?, this]; rfl
  rw [hw1]
  clear hw1
  refine mix_begin 14 (Held fun w' => w'.cell? ⟨w.heap.size, 0, none⟩ = some (.int .i64 k0) ∧ w'.cell? ⟨w.heap.size, 1, none⟩ = some (.int .i64 k1) ∧ Below w1.heap.size w1 w') (by kernel_rfl) (by kernel_rfl) (Held.mk ⟨hc0, hc1, below_drew _⟩) (fun hS => ?_)
  refine mix_take (v := ?_) 0 rfl (by decide) (by kernel_rfl) (by kernel_rfl) (fun _ _ _ h => h) hS rfl ?_ ?_
  rotate_left
  · (intro w' hw'; first | (go_simp; done) | (go_simp; with_reducible rfl) | (obtain ⟨g1, g2, g3⟩ := hw'.out; first | (go_simp; done) | (go_simp; with_reducible rfl)))
  simp only [Act.put, List.setIfInBounds_toArray, List.set_cons_zero, List.set_cons_succ]
  refine mix_take (v := ?_) 2 rfl (by decide) (by kernel_rfl) (by kernel_rfl) (fun _ _ _ h => h) hS rfl ?_ ?_
  rotate_left
  · (intro w' hw'; first | (go_simp; done) | (go_simp; with_reducible rfl) | (obtain ⟨g1, g2, g3⟩ := hw'.out; first | (go_simp; done) | (go_simp; with_reducible rfl)))
  simp only [Act.put, List.setIfInBounds_toArray, List.set_cons_zero, List.set_cons_succ]
  refine mix_take (v := ?_) 3 rfl (by decide) (by kernel_rfl) (by kernel_rfl) (fun _ _ _ h => h) hS rfl ?_ ?_
  rotate_left
  · (intro w' hw'; first | (go_simp; done) | (go_simp; with_reducible rfl) | (obtain ⟨g1, g2, g3⟩ := hw'.out; first | (go_simp; done) | (go_simp; with_reducible rfl)))
  simp only [Act.put, List.setIfInBounds_toArray, List.set_cons_zero, List.set_cons_succ]
  refine mix_take (v := ?_) 4 rfl (by decide) (by kernel_rfl) (by kernel_rfl) (fun _ _ _ h => h) hS rfl ?_ ?_
  rotate_left
  · (intro w' hw'; first | (go_simp; done) | (go_simp; with_reducible rfl) | (obtain ⟨g1, g2, g3⟩ := hw'.out; first | (go_simp; done) | (go_simp; with_reducible rfl)))
  simp only [Act.put, List.setIfInBounds_toArray, List.set_cons_zero, List.set_cons_succ]
  refine mix_step 1 rfl (by decide) (by kernel_rfl) ?_
  have g := hS.out
  go_wp2_with fail
  refine (of_c _ false 0 _ ((HH.out.later hb1).later g.2.2)).mono ?_
  rintro e w3 ⟨v3, rfl, ho3, hb3⟩
  obtain ⟨a2, ca2, rfl, hs3⟩ := ho3.slice
  replace ho3 := ho3.mono (base' := w1.heap.size) g.2.2.size
  go_wp2_with fail
  refine mix_out (Held.mk ⟨below_cell hb3 g.1, below_cell hb3 g.2.1, below_then g.2.2 hb3⟩) (fun hS => ?_)
  refine mix_take (v := ?_) 5 rfl (by decide) (by kernel_rfl) (by kernel_rfl) (fun _ _ _ h => h) hS rfl ?_ ?_
  rotate_left
  · (intro w' hw'; first | (go_simp; done) | (go_simp; with_reducible rfl) | (obtain ⟨g1, g2, g3⟩ := hw'.out; first | (go_simp; done) | (go_simp; with_reducible rfl)))
  simp only [Act.put, List.setIfInBounds_toArray, List.set_cons_zero, List.set_cons_succ]
  refine mix_take (v := ?_) 6 rfl (by decide) (by kernel_rfl) (by kernel_rfl) (fun _ _ _ h => h) hS rfl ?_ ?_
  rotate_left
  · (intro w' hw'; first | (go_simp; done) | (go_simp; with_reducible rfl) | (obtain ⟨g1, g2, g3⟩ := hw'.out; first | (go_simp; done) | (go_simp; with_reducible rfl)))
  simp only [Act.put, List.setIfInBounds_toArray, List.set_cons_zero, List.set_cons_succ]
  refine mix_take (v := ?_) 7 rfl (by decide) (by kernel_rfl) (by kernel_rfl) (fun _ _ _ h => h) hS rfl ?_ ?_
  rotate_left
  · (intro w' hw'; first | (go_simp; done) | (go_simp; with_reducible rfl) | (obtain ⟨g1, g2, g3⟩ := hw'.out; first | (go_simp; done) | (go_simp; with_reducible rfl)))
  simp only [Act.put, List.setIfInBounds_toArray, List.set_cons_zero, List.set_cons_succ]
  refine mix_take (v := ?_) 8 rfl (by decide) (by kernel_rfl) (by kernel_rfl) (fun _ _ _ h => h) hS rfl ?_ ?_
  rotate_left
  · (intro w' hw'; first | (go_simp; done) | (go_simp; with_reducible rfl) | (obtain ⟨g1, g2, g3⟩ := hw'.out; first | (go_simp; done) | (go_simp; with_reducible rfl)))
  simp only [Act.put, List.setIfInBounds_toArray, List.set_cons_zero, List.set_cons_succ]
  refine mix_take (v := ?_) 9 rfl (by decide) (by kernel_rfl) (by kernel_rfl) (fun _ _ _ h => h) hS rfl ?_ ?_
  rotate_left
  · (intro w' hw'; first | (go_simp; done) | (go_simp; with_reducible rfl) | (obtain ⟨g1, g2, g3⟩ := hw'.out; first | (go_simp; done) | (go_simp; with_reducible rfl)))
  simp only [Act.put, List.setIfInBounds_toArray, List.set_cons_zero, List.set_cons_succ]
  refine mix_take (v := ?_) 10 rfl (by decide) (by kernel_rfl) (by kernel_rfl) (fun _ _ _ h => h) hS rfl ?_ ?_
  rotate_left
  · (intro w' hw'; first | (go_simp; done) | (go_simp; with_reducible rfl) | (obtain ⟨g1, g2, g3⟩ := hw'.out; first | (go_simp; done) | (go_simp; with_reducible rfl)))
  simp only [Act.put, List.setIfInBounds_toArray, List.set_cons_zero, List.set_cons_succ]
  refine mix_step 11 rfl (by decide) (by kernel_rfl) ?_
  clear g
  have g := hS.out
  have hbk := below_alloc w3 (.cells #[.bool true, .int .i64 2] 88)
  have hnew := ask_new w3 true 2
  have ho4 := ho3.later hbk
  go_wp2_with fail
  refine mix_out (Held.mk ⟨below_cell hbk g.1, below_cell hbk g.2.1, below_then g.2.2 hbk⟩) (fun hS => ?_)
  refine mix_step 12 rfl (by decide) (by kernel_rfl) ?_
  clear g
  have g := hS.out
  refine wpList_append_ask rfl _ _ rfl w1.heap.size a2 2 ca2 _ rfl ho4 _ 1 1 _ rfl hnew rfl rfl (by decide) g.2.2.size ?_
  intro a5 c5 w5 ho5 hb5
  go_wp2_with fail
  refine mix_out (Held.mk ⟨(hb5.cell (by have := World.block_lt_of_cell? w1 _ hc0; exact this)).trans g.1, (hb5.cell (by have := World.block_lt_of_cell? w1 _ hc1; exact this)).trans g.2.1, g.2.2.trans hb5⟩) (fun hS => ?_)
  refine mix_step 13 rfl (by decide) (by kernel_rfl) ?_
  clear g
  have g := hS.out
  obtain ⟨hs5, -⟩ := ho5.sl
  have hfi := first_c a5 3 c5 _ (by decide) w5 rfl hs5
  rw [show firstA ([(false, 1), (!fileOk 0, 2)] ++ [(true, 2)]) = 2 from rfl] at hfi
  go_wp2_with fail
  refine hfi.mono ?_
  rintro e w6 ⟨rfl, hb6⟩
  clear hfi
  go_wp2_with fail
  refine mix_out (Held.mk ⟨below_cell hb6 g.1, below_cell hb6 g.2.1, below_then g.2.2 hb6⟩) (fun hS => ?_)
  refine mix_done (by kernel_rfl) ?_
  simp only [List.drop_succ_cons, List.drop_zero]
  go_wp2_with fail
  go_ret
  exact ⟨rfl, below_then hb1 hS.out.2.2⟩
theorem crash_all (b : Nat) (s : DS) (k0 k1 : Int) (w : World) (h : IsD w b s) (hf : s.fine) :
    Calls Try.prog 20 #[.pointer (some ⟨b, 0, none⟩), .agg #[.int .i64 k0, .int .i64 k1]] w fun e w' => e = .returned (.int .i64 (s.crash k0 k1).2) ∧ IsD w' b (s.crash k0 k1).1 ∧ w.grownBy w' (some b) := by
  by_cases hk : k0 < 0 ∨ k1 < 0
  · have he : s.crash k0 k1 = (s, 2) := by unfold DS.crash; rw [if_pos hk]
    rw [he]
    by_cases h0 : k0 < 0
    · exact (crash_n0 _ k0 k1 w h.noneIs h0).mono fun e w' ⟨h1, h2⟩ => ⟨h1, h.later h2, grown_of_below h2⟩
    · exact (crash_n1 _ k0 k1 w h.noneIs ⟨by omega, by omega⟩).mono fun e w' ⟨h1, h2⟩ => ⟨h1, h.later h2, grown_of_below h2⟩
  · have he : (s.crash k0 k1).2 = 0 := by unfold DS.crash; rw [if_neg hk]
    rw [he]
    exact crash_c b s k0 k1 w h hf (by omega) (by omega)
theorem append_all (b : Nat) (s : DS) (n : Int) (w : World) (h : IsD w b s) (hsl : LeftOk s.left) (hroom : 0 ≤ s.room ∧ s.room ≤ 2 ^ 40) (ad : Option Addr) (m cm : Nat) (bs : List UInt8) (hbs : IsB w ad m cm bs) (hm : m ≤ 2 ^ 40) (hf : s.fine) (hne : ∀ ad', ad = some ad' → 0 < cm → ad'.block ≠ b) :
    Calls Try.prog 13 #[.pointer (some ⟨b, 0, none⟩), .int .i64 n, .slice ad m cm] w fun e w' => e = .returned (.int .i64 (s.append n bs).2) ∧ IsD w' b (s.append n bs).1 ∧ w.grownBy w' (some b) := by
  by_cases hok : fileOk n = true
  · rcases file_two hok with rfl | rfl
    · exact append_c0 b s w h hsl hroom ad m cm bs hbs hm hf.2.2.1 hne
    · exact append_c1 b s w h hsl hroom ad m cm bs hbs hm hf.2.2.2 hne
  · have he : s.append n bs = (s, 2) := by unfold DS.append; rw [if_neg hok]
    rw [he]
    exact (append_no _ false n ad m cm w h.noneIs (.inr (by simpa using hok))).mono fun e w' ⟨h1, h2⟩ => ⟨h1, h.later h2, grown_of_below h2⟩
theorem cut_all (b : Nat) (s : DS) (n many : Int) (w : World) (h : IsD w b s) (hsl : LeftOk s.left) (hf : s.fine) :
    Calls Try.prog 32 #[.pointer (some ⟨b, 0, none⟩), .int .i64 n, .int .i64 many] w fun e w' => e = .returned (.int .i64 (s.cut n many).2) ∧ IsD w' b (s.cut n many).1 ∧ w.grownBy w' (some b) := by
  by_cases hok : fileOk n = true
  · rcases file_two hok with rfl | rfl
    · exact cut_c0 b s many w h hsl hf.2.2.1
    · exact cut_c1 b s many w h hsl hf.2.2.2
  · have he : s.cut n many = (s, 2) := by unfold DS.cut; rw [if_neg (fun h => hok h.1)]
    rw [he]
    exact (cut_no _ false n many w h.noneIs (.inr (by simpa using hok))).mono fun e w' ⟨h1, h2⟩ => ⟨h1, h.later h2, grown_of_below h2⟩
/-- what stays so, whatever is done -/
def DS.good (s : DS) : Prop := s.fine ∧ (0 ≤ s.now ∧ s.now ≤ 1) ∧ LeftOk s.left ∧ (0 ≤ s.room ∧ s.room ≤ 2 ^ 40)
def DS.does (s : DS) (x : AV) : DS × Int :=
  if x.what = 0 then s.append x.file x.bs else if x.what = 1 then s.sync x.file else if x.what = 2 then s.cut x.file x.n else if x.what = 3 then s.switch else if x.what = 4 then s.stop x.n else if x.what = 5 then s.crash x.n x.more else (s, 0)
theorem decr_ok {x : Int} (h : LeftOk x) : LeftOk (decr x) := by unfold LeftOk at *; unfold decr; split <;> omega
theorem setF_fine {s : DS} (h : s.fine) (n : Int) (f : List UInt8) (hf : f.length ≤ 2 ^ 40) (hl : s.la n ≤ f.length) : (s.setF n f).fine := by
  obtain ⟨h1, h2, h3, h4⟩ := h
  unfold DS.setF
  unfold DS.la at hl
  by_cases hn : n = 0
  · rw [if_pos hn] at hl ⊢; exact ⟨hl, h2, hf, h4⟩
  · rw [if_neg hn] at hl ⊢; exact ⟨h1, hl, h3, hf⟩
theorem acted_good {s : DS} (h : s.good) : s.acted.good := ⟨h.1, h.2.1, decr_ok h.2.2.1, h.2.2.2⟩
theorem la_le {s : DS} (h : s.fine) (n : Int) : s.la n ≤ (s.fl n).length := by
  unfold DS.la DS.fl; split
  · exact h.1
  · exact h.2.1
theorem append_good {s : DS} (h : s.good) (n : Int) (bs : List UInt8) : (s.append n bs).1.good := by
  unfold DS.append
  split
  · split
    · exact h
    · rename_i hf
      split
      · exact h
      · have ha := acted_good h
        have hl := la_le h.1 n
        have hr := h.2.2.2
        have : (s.fl n ++ bs).length ≤ 2 ^ 40 := by rw [List.length_append]; omega
        refine ⟨setF_fine ha.1 n _ this ?_, ?_⟩
        · show s.la n ≤ _
          rw [List.length_append]; omega
        · unfold DS.setF; split <;> exact ha.2
  · exact h
theorem sync_good {s : DS} (h : s.good) (n : Int) : (s.sync n).1.good := by
  unfold DS.sync
  split
  · split
    · exact h
    · have ha := acted_good h
      obtain ⟨h1, h2, h3, h4⟩ := ha.1
      unfold DS.setN DS.fl
      split
      · exact ⟨⟨Nat.le_refl _, h2, h3, h4⟩, ha.2⟩
      · exact ⟨⟨h1, Nat.le_refl _, h3, h4⟩, ha.2⟩
  · exact h
theorem cut_good {s : DS} (h : s.good) (n many : Int) : (s.cut n many).1.good := by
  unfold DS.cut
  split
  · split
    · exact h
    · split
      · exact h
      · have ha := acted_good h
        obtain ⟨h1, h2, h3, h4⟩ := ha.1
        rename_i hok hlt hleft
        have hle := fl_big h.1 n
        unfold DS.setF DS.setN DS.la DS.fl at *
        have hm : (min many.toNat (if n = 0 then s.n0 else s.n1)) ≤ ((if n = 0 then s.f0 else s.f1).take many.toNat).length := by
          rw [List.length_take]
          by_cases hn : n = 0
          · simp only [hn, if_true]; have : s.n0 ≤ s.f0.length := h1; omega
          · simp only [hn, if_false]; have : s.n1 ≤ s.f1.length := h2; omega
        have hm2 : ((if n = 0 then s.f0 else s.f1).take many.toNat).length ≤ 2 ^ 40 := by rw [List.length_take]; omega
        by_cases hn : n = 0
        · simp only [hn, if_true] at hm hm2 ⊢; exact ⟨⟨hm, h2, hm2, h4⟩, ha.2⟩
        · simp only [hn, if_false] at hm hm2 ⊢; exact ⟨⟨h1, hm, h3, hm2⟩, ha.2⟩
  · exact h
theorem switch_good {s : DS} (h : s.good) : s.switch.1.good := by
  unfold DS.switch
  split
  · exact h
  · have ha := acted_good h
    exact ⟨ha.1, by have := ha.2.1; show 0 ≤ 1 - s.now ∧ 1 - s.now ≤ 1; have : 0 ≤ s.now ∧ s.now ≤ 1 := h.2.1; omega, ha.2.2⟩
theorem stop_good {s : DS} (h : s.good) (x : Int) (hx : LeftOk x) : (s.stop x).1.good := by
  unfold DS.stop
  split
  · exact h
  · exact ⟨h.1, h.2.1, hx, h.2.2.2⟩
theorem crash_good {s : DS} (h : s.good) (k0 k1 : Int) : (s.crash k0 k1).1.good := by
  unfold DS.crash
  split
  · exact h
  · have h0 := crashF_fine s k0 h.1
    obtain ⟨h1, h2, h3, h4⟩ := h0
    refine ⟨⟨h1, ?_, h3, ?_⟩, h.2.1, (show LeftOk (-1) by decide), h.2.2.2⟩
    · show (s.crashF 0 k0).kept 1 k1 ≤ (((s.crashF 0 k0).f1).take ((s.crashF 0 k0).kept 1 k1)).length
      have : (s.crashF 0 k0).kept 1 k1 ≤ (s.crashF 0 k0).f1.length := by
        show (s.crashF 0 k0).n1 + min k1.toNat ((s.crashF 0 k0).f1.length - (s.crashF 0 k0).n1) ≤ _
        omega
      rw [List.length_take]; omega
    · show (((s.crashF 0 k0).f1).take _).length ≤ _
      rw [List.length_take]; omega
theorem does_good {s : DS} (h : s.good) (x : AV) (hx : LeftOk x.n) : (s.does x).1.good := by
  unfold DS.does
  repeat (first | exact append_good h _ _ | exact sync_good h _ | exact cut_good h _ _ | exact switch_good h | exact stop_good h _ hx | exact crash_good h _ _ | exact h | split)
end Go.Proofs.Ytknndpncdnhnpaa
