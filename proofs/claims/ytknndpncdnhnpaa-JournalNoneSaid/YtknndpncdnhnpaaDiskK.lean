import Derived.Test.YtknndpncdnhnpaaDiskJ
namespace Go.Proofs.Ytknndpncdnhnpaa
open Go.RowKit Go.Cas

/-! ### Crash -/
def DS.kept (s : DS) (i : Int) (k : Int) : Nat := s.la i + min k.toNat ((s.fl i).length - s.la i)
def DS.crashF (s : DS) (i : Int) (k : Int) : DS := (s.setN i (s.kept i k)).setF i ((s.fl i).take (s.kept i k))
def DS.crash (s : DS) (k0 k1 : Int) : DS × Int := if k0 < 0 ∨ k1 < 0 then (s, 2) else ({ (s.crashF 0 k0).crashF 1 k1 with left := -1 }, 0)
def DS.fine (s : DS) : Prop := s.n0 ≤ s.f0.length ∧ s.n1 ≤ s.f1.length ∧ s.f0.length ≤ 2 ^ 40 ∧ s.f1.length ≤ 2 ^ 40
theorem crashF_fine (s : DS) (k : Int) (h : s.fine) : (s.crashF 0 k).fine := by
  obtain ⟨h1, h2, h3, h4⟩ := h
  refine ⟨?_, h2, ?_, h4⟩
  · show s.kept 0 k ≤ (s.f0.take (s.kept 0 k)).length
    have : s.kept 0 k ≤ s.f0.length := by
      show s.n0 + min k.toNat (s.f0.length - s.n0) ≤ _
      omega
    rw [List.length_take]; omega
  · show (s.f0.take (s.kept 0 k)).length ≤ _
    rw [List.length_take]; omega
set_option maxRecDepth 100000 in
set_option maxHeartbeats 4000000 in
theorem crash_c (b : Nat) (s : DS) (k0 k1 : Int) (w : World) (h : IsD w b s) (hf : s.fine) (hk0 : 0 ≤ k0) (hk1 : 0 ≤ k1) :
    Calls Try.prog 20 #[.pointer (some ⟨b, 0, none⟩), .agg #[.int .i64 k0, .int .i64 k1]] w fun e w' => e = .returned (.int .i64 0) ∧ IsD w' b (s.crash k0 k1).1 ∧ w.grownBy w' (some b) := by
  have HH := Lib.hid h
  have hblt := h.lt
  clear h
  have hn0 : decide (k0 < 0) = false := by simpa using hk0
  have hn1 : decide (k1 < 0) = false := by simpa using hk1
  go_enter Try.func20, Try.ntmps20
  go_wp2_with fail
  obtain ⟨w1, hw1⟩ : ∃ w1, w.alloc (.cells #[.int .i64 k0, .int .i64 k1] 36) = w1 := ⟨_, rfl⟩
  have hb1 : Below w.heap.size w w1 := by rw [← hw1]; exact below_alloc _ _
  have hc0 : w1.cell? ⟨w.heap.size, 0, none⟩ = some (.int .i64 k0) := by
    rw [← hw1]; have := heap_alloc_new w (.cells #[.int .i64 k0, .int .i64 k1] 36); simp only [World.cell?, this]; rfl
  have hc1 : w1.cell? ⟨w.heap.size, 1, none⟩ = some (.int .i64 k1) := by
    rw [← hw1]; have := heap_alloc_new w (.cells #[.int .i64 k0, .int .i64 k1] 36); simp only [World.cell?, this]; rfl
  rw [hw1]
  clear hw1
  refine mix_begin 14 (Held fun w' => w'.cell? ⟨w.heap.size, 0, none⟩ = some (.int .i64 k0) ∧ w'.cell? ⟨w.heap.size, 1, none⟩ = some (.int .i64 k1) ∧ Below w1.heap.size w1 w') (by kernel_rfl) (by kernel_rfl) (Held.mk ⟨hc0, hc1, below_drew _⟩) (fun hS => ?_)
  refine mix_take (v := ?_) 0 rfl (by decide) (by kernel_rfl) (by kernel_rfl) (fun _ _ _ h => h) hS rfl ?_ ?_
  rotate_left
  · (intro w' hw'; first | (go_simp; done) | (go_simp; with_reducible rfl) | (obtain ⟨g1, g2, g3⟩ := hw'.out; first | (go_simp; done) | (go_simp; with_reducible rfl)))
  simp only [Act.put, List.setIfInBounds_toArray, List.set_cons_zero, List.set_cons_succ]
  refine mix_take (v := ?_) 2 rfl (by decide) (by kernel_rfl) (by kernel_rfl) (fun _ _ _ h => h) hS rfl ?_ ?_
  rotate_left
  · (intro w' hw'; first | (go_simp; done) | (go_simp; with_reducible rfl) | (obtain ⟨g1, g2, g3⟩ := hw'.out; first | (go_simp; done) | (go_simp; with_reducible rfl)))
  simp only [Act.put, List.setIfInBounds_toArray, List.set_cons_zero, List.set_cons_succ]
  refine mix_take (v := ?_) 3 rfl (by decide) (by kernel_rfl) (by kernel_rfl) (fun _ _ _ h => h) hS rfl ?_ ?_
  rotate_left
  · (intro w' hw'; first | (go_simp; done) | (go_simp; with_reducible rfl) | (obtain ⟨g1, g2, g3⟩ := hw'.out; first | (go_simp; done) | (go_simp; with_reducible rfl)))
  simp only [Act.put, List.setIfInBounds_toArray, List.set_cons_zero, List.set_cons_succ]
  refine mix_take (v := ?_) 4 rfl (by decide) (by kernel_rfl) (by kernel_rfl) (fun _ _ _ h => h) hS rfl ?_ ?_
  rotate_left
  · (intro w' hw'; first | (go_simp; done) | (go_simp; with_reducible rfl) | (obtain ⟨g1, g2, g3⟩ := hw'.out; first | (go_simp; done) | (go_simp; with_reducible rfl)))
  simp only [Act.put, List.setIfInBounds_toArray, List.set_cons_zero, List.set_cons_succ]
  refine mix_step 1 rfl (by decide) (by kernel_rfl) ?_
  have g := hS.out
  go_wp2_with fail
  refine (of_c _ false 0 _ ((HH.out.later hb1).later g.2.2).noneIs).mono ?_
  rintro e w3 ⟨v3, rfl, ho3, hb3⟩
  obtain ⟨a2, ca2, rfl, hs3⟩ := ho3.slice
  replace ho3 := ho3.mono (base' := w1.heap.size) g.2.2.size
  go_wp2_with fail
  refine mix_out (Held.mk ⟨below_cell hb3 g.1, below_cell hb3 g.2.1, below_then g.2.2 hb3⟩) (fun hS => ?_)
  refine mix_take (v := ?_) 5 rfl (by decide) (by kernel_rfl) (by kernel_rfl) (fun _ _ _ h => h) hS rfl ?_ ?_
  rotate_left
  · (intro w' hw'; first | (go_simp; done) | (go_simp; with_reducible rfl) | (obtain ⟨g1, g2, g3⟩ := hw'.out; first | (go_simp; done) | (go_simp; with_reducible rfl)))
  simp only [Act.put, List.setIfInBounds_toArray, List.set_cons_zero, List.set_cons_succ]
  refine mix_take (v := ?_) 6 rfl (by decide) (by kernel_rfl) (by kernel_rfl) (fun _ _ _ h => h) hS rfl ?_ ?_
  rotate_left
  · (intro w' hw'; first | (go_simp; done) | (go_simp; with_reducible rfl) | (obtain ⟨g1, g2, g3⟩ := hw'.out; first | (go_simp; done) | (go_simp; with_reducible rfl)))
  simp only [Act.put, List.setIfInBounds_toArray, List.set_cons_zero, List.set_cons_succ]
  refine mix_take (v := ?_) 7 rfl (by decide) (by kernel_rfl) (by kernel_rfl) (fun _ _ _ h => h) hS rfl ?_ ?_
  rotate_left
  · (intro w' hw'; first | (go_simp; done) | (go_simp; with_reducible rfl) | (obtain ⟨g1, g2, g3⟩ := hw'.out; first | (go_simp; done) | (go_simp; with_reducible rfl)))
  simp only [Act.put, List.setIfInBounds_toArray, List.set_cons_zero, List.set_cons_succ]
  refine mix_take (v := ?_) 8 rfl (by decide) (by kernel_rfl) (by kernel_rfl) (fun _ _ _ h => h) hS rfl ?_ ?_
  rotate_left
  · (intro w' hw'; first | (go_simp; done) | (go_simp; with_reducible rfl) | (obtain ⟨g1, g2, g3⟩ := hw'.out; first | (go_simp; done) | (go_simp; with_reducible rfl)))
  simp only [Act.put, List.setIfInBounds_toArray, List.set_cons_zero, List.set_cons_succ]
  refine mix_take (v := ?_) 9 rfl (by decide) (by kernel_rfl) (by kernel_rfl) (fun _ _ _ h => h) hS rfl ?_ ?_
  rotate_left
  · (intro w' hw'; first | (go_simp; done) | (go_simp; with_reducible rfl) | (obtain ⟨g1, g2, g3⟩ := hw'.out; first | (go_simp; done) | (go_simp; with_reducible rfl)))
  simp only [Act.put, List.setIfInBounds_toArray, List.set_cons_zero, List.set_cons_succ]
  refine mix_take (v := ?_) 10 rfl (by decide) (by kernel_rfl) (by kernel_rfl) (fun _ _ _ h => h) hS rfl ?_ ?_
  rotate_left
  · (intro w' hw'; first | (go_simp; done) | (go_simp; with_reducible rfl) | (obtain ⟨g1, g2, g3⟩ := hw'.out; first | (go_simp; done) | (go_simp; with_reducible rfl)))
  simp only [Act.put, List.setIfInBounds_toArray, List.set_cons_zero, List.set_cons_succ]
  refine mix_step 11 rfl (by decide) (by kernel_rfl) ?_
  clear g
  have g := hS.out
  have hbk := below_alloc w3 (.cells #[.bool false, .int .i64 2] 88)
  have hnew := ask_new w3 false 2
  have ho4 := ho3.later hbk
  go_wp2_with fail
  refine mix_out (Held.mk ⟨below_cell hbk g.1, below_cell hbk g.2.1, below_then g.2.2 hbk⟩) (fun hS => ?_)
  refine mix_step 12 rfl (by decide) (by kernel_rfl) ?_
  clear g
  have g := hS.out
  refine wpList_append_ask rfl _ _ rfl w1.heap.size a2 2 ca2 _ rfl ho4 _ 1 1 _ rfl hnew rfl rfl (by decide) g.2.2.size ?_
  intro a5 c5 w5 ho5 hb5
  go_wp2_with fail
  refine mix_out (Held.mk ⟨(hb5.cell (by have := hb1.size; have := World.block_lt_of_cell? w1 _ hc0; exact this)).trans g.1, (hb5.cell (by have := World.block_lt_of_cell? w1 _ hc1; exact this)).trans g.2.1, g.2.2.trans hb5⟩) (fun hS => ?_)
  refine mix_step 13 rfl (by decide) (by kernel_rfl) ?_
  clear g
  have g := hS.out
  obtain ⟨hs5, -⟩ := ho5.sl
  have hfi := first_c a5 3 c5 _ (by decide) w5 rfl hs5
  rw [show firstA ([(false, 1), (!fileOk 0, 2)] ++ [(false, 2)]) = 0 from rfl] at hfi
  go_wp2_with fail
  refine hfi.mono ?_
  rintro e w6 ⟨rfl, hb6⟩
  clear hfi
  go_wp2_with fail
  refine mix_out (Held.mk ⟨below_cell hb6 g.1, below_cell hb6 g.2.1, below_then g.2.2 hb6⟩) (fun hS => ?_)
  refine mix_done (by kernel_rfl) ?_
  simp only [List.drop_succ_cons, List.drop_zero]
  have hwr1 := hS.out.2.2
  have hrest := hwr1
  go_wp2_with fail
  obtain ⟨wL, hwL⟩ : ∃ wL, wL = w6 := ⟨_, rfl⟩
  have hk60 := hS.out.1
  have hk61 := hS.out.2.1
  have h6 := (HH.out.later hb1).later hwr1
  have hg6 : w.grownBy w6 (some b) := grown_of_below (below_then hb1 hwr1)
  have HF := Lib.hid hf
  go_loopw [25] (fun i wr => ∃ k : Nat, k ≤ 2 ∧ i = .int .i64 (k : Int) ∧ IsD wr b (if k = 0 then s else if k = 1 then s.crashF 0 k0 else (s.crashF 0 k0).crashF 1 k1) ∧ wr.cell? ⟨w.heap.size, 0, none⟩ = some (.int .i64 k0) ∧ wr.cell? ⟨w.heap.size, 1, none⟩ = some (.int .i64 k1) ∧ w.grownBy wr (some b)) (fun i _ => 2 - (intOf i).toNat)
  case atStart => exact ⟨0, by omega, rfl, h6, hk60, hk61, hg6⟩
  case round =>
    obtain ⟨k, hk, rfl, hd, hq0, hq1, hg⟩ := hrel
    obtain rfl | rfl | rfl : k = 0 ∨ k = 1 ∨ k = 2 := by omega
    · obtain ⟨s0, hs0⟩ : ∃ s0, s = s0 := ⟨_, rfl⟩
      simp only [if_true] at hd
      have hfn := HF.out
      rw [hs0] at hd hfn
      have HS := Lib.hid hs0; clear hs0
      obtain ⟨a0, l0, c0, a1, l1, c1, hd⟩ := hd
      have hll := hd.b0.len
      have hlc := hd.b0.le
      have hn : (s0.n0 : Int) ≤ (l0 : Int) := by have := hfn.1; omega
      have hbig : (l0 : Int) ≤ 2 ^ 40 := by have := hfn.2.2.1; omega
      have hw0 : IntKind.i64.wrap ((l0 : Int) - (s0.n0 : Int)) = (l0 : Int) - (s0.n0 : Int) := i64_in (by omega) (by omega)
      have HL := Lib.hid hll; clear hll
      by_cases hcs : k0 ≤ (l0 : Int) - (s0.n0 : Int)
      · have hy : k0 ≤ (l0 : Int) - (s0.n0 : Int) := by omega
        have hw2 : IntKind.i64.wrap ((s0.n0 : Int) + k0) = (s0.n0 : Int) + k0 := Go.IntWalk.i64_in _ (by omega)
        have hx0 : 0 ≤ (s0.n0 : Int) + k0 := by omega
        have hxc : (s0.n0 : Int) + k0 ≤ (c0 : Int) := by omega
        go_wp2_with fail
        refine mix_begin 19 (Held fun w' => w'.cell? ⟨w.heap.size, 0, none⟩ = some (.int .i64 k0) ∧ w'.cell? ⟨b, 3, none⟩ = some (.slice a0 l0 c0) ∧ w'.cell? ⟨b, 4, none⟩ = some (.int .i64 (s0.n0 : Int)) ∧ Below wr.heap.size wr w') (by kernel_rfl) (by kernel_rfl) (Held.mk ⟨hq0, hd.g3, hd.g4, below_drew _⟩) (fun hS => ?_)
        refine mix_take (v := ?_) 0 rfl (by decide) (by kernel_rfl) (by kernel_rfl) (fun _ _ _ h => h) hS rfl ?_ ?_
        rotate_left
        · (intro w' hw'; first | (go_simp; done) | (go_simp; with_reducible rfl) | (obtain ⟨g1, g2, g3, g4⟩ := hw'.out; first | (go_simp; done) | (go_simp; with_reducible rfl)))
        simp only [Act.put, List.setIfInBounds_toArray, List.set_cons_zero, List.set_cons_succ]
        refine mix_take (v := ?_) 1 rfl (by decide) (by kernel_rfl) (by kernel_rfl) (fun _ _ _ h => h) hS rfl ?_ ?_
        rotate_left
        · (intro w' hw'; first | (go_simp; done) | (go_simp; with_reducible rfl) | (obtain ⟨g1, g2, g3, g4⟩ := hw'.out; first | (go_simp; done) | (go_simp; with_reducible rfl)))
        simp only [Act.put, List.setIfInBounds_toArray, List.set_cons_zero, List.set_cons_succ]
        refine mix_take (v := ?_) 2 rfl (by decide) (by kernel_rfl) (by kernel_rfl) (fun _ _ _ h => h) hS rfl ?_ ?_
        rotate_left
        · (intro w' hw'; first | (go_simp; done) | (go_simp; with_reducible rfl) | (obtain ⟨g1, g2, g3, g4⟩ := hw'.out; first | (go_simp; done) | (go_simp; with_reducible rfl)))
        simp only [Act.put, List.setIfInBounds_toArray, List.set_cons_zero, List.set_cons_succ]
        refine mix_take (v := ?_) 3 rfl (by decide) (by kernel_rfl) (by kernel_rfl) (fun _ _ _ h => h) hS rfl ?_ ?_
        rotate_left
        · (intro w' hw'; first | (go_simp; done) | (go_simp; with_reducible rfl) | (obtain ⟨g1, g2, g3, g4⟩ := hw'.out; first | (go_simp; done) | (go_simp; with_reducible rfl)))
        simp only [Act.put, List.setIfInBounds_toArray, List.set_cons_zero, List.set_cons_succ]
        refine mix_take (v := ?_) 4 rfl (by decide) (by kernel_rfl) (by kernel_rfl) (fun _ _ _ h => h) hS rfl ?_ ?_
        rotate_left
        · (intro w' hw'; first | (go_simp; done) | (go_simp; with_reducible rfl) | (obtain ⟨g1, g2, g3, g4⟩ := hw'.out; first | (go_simp; done) | (go_simp; with_reducible rfl)))
        simp only [Act.put, List.setIfInBounds_toArray, List.set_cons_zero, List.set_cons_succ]
        refine mix_take (v := ?_) 5 rfl (by decide) (by kernel_rfl) (by kernel_rfl) (fun _ _ _ h => h) hS rfl ?_ ?_
        rotate_left
        · (intro w' hw'; first | (go_simp; done) | (go_simp; with_reducible rfl) | (obtain ⟨g1, g2, g3, g4⟩ := hw'.out; first | (go_simp; done) | (go_simp; with_reducible rfl)))
        simp only [Act.put, List.setIfInBounds_toArray, List.set_cons_zero, List.set_cons_succ]
        refine mix_take (v := ?_) 6 rfl (by decide) (by kernel_rfl) (by kernel_rfl) (fun _ _ _ h => h) hS rfl ?_ ?_
        rotate_left
        · (intro w' hw'; first | (go_simp; done) | (go_simp; with_reducible rfl) | (obtain ⟨g1, g2, g3, g4⟩ := hw'.out; first | (go_simp; done) | (go_simp; with_reducible rfl)))
        simp only [Act.put, List.setIfInBounds_toArray, List.set_cons_zero, List.set_cons_succ]
        refine mix_take (v := ?_) 7 rfl (by decide) (by kernel_rfl) (by kernel_rfl) (fun _ _ _ h => h) hS rfl ?_ ?_
        rotate_left
        · (intro w' hw'; first | (go_simp; done) | (go_simp; with_reducible rfl) | (obtain ⟨g1, g2, g3, g4⟩ := hw'.out; first | (go_simp; done) | (go_simp; with_reducible rfl)))
        simp only [Act.put, List.setIfInBounds_toArray, List.set_cons_zero, List.set_cons_succ]
        refine mix_take (v := ?_) 8 rfl (by decide) (by kernel_rfl) (by kernel_rfl) (fun _ _ _ h => h) hS rfl ?_ ?_
        rotate_left
        · (intro w' hw'; first | (go_simp; done) | (go_simp; with_reducible rfl) | (obtain ⟨g1, g2, g3, g4⟩ := hw'.out; first | (go_simp; done) | (go_simp; with_reducible rfl)))
        simp only [Act.put, List.setIfInBounds_toArray, List.set_cons_zero, List.set_cons_succ]
        refine mix_take (v := ?_) 9 rfl (by decide) (by kernel_rfl) (by kernel_rfl) (fun _ _ _ h => h) hS rfl ?_ ?_
        rotate_left
        · (intro w' hw'; first | (go_simp; done) | (go_simp; with_reducible rfl) | (obtain ⟨g1, g2, g3, g4⟩ := hw'.out; first | (go_simp; done) | (go_simp; with_reducible rfl)))
        simp only [Act.put, List.setIfInBounds_toArray, List.set_cons_zero, List.set_cons_succ]
        refine mix_take (v := ?_) 10 rfl (by decide) (by kernel_rfl) (by kernel_rfl) (fun _ _ _ h => h) hS rfl ?_ ?_
        rotate_left
        · (intro w' hw'; first | (go_simp; done) | (go_simp; with_reducible rfl) | (obtain ⟨g1, g2, g3, g4⟩ := hw'.out; first | (go_simp; done) | (go_simp; with_reducible rfl)))
        simp only [Act.put, List.setIfInBounds_toArray, List.set_cons_zero, List.set_cons_succ]
        refine mix_take (v := ?_) 11 rfl (by decide) (by kernel_rfl) (by kernel_rfl) (fun _ _ _ h => h) hS rfl ?_ ?_
        rotate_left
        · (intro w' hw'; first | (go_simp; done) | (go_simp; with_reducible rfl) | (obtain ⟨g1, g2, g3, g4⟩ := hw'.out; first | (go_simp; done) | (go_simp; with_reducible rfl)))
        simp only [Act.put, List.setIfInBounds_toArray, List.set_cons_zero, List.set_cons_succ]
        refine mix_take (v := ?_) 12 rfl (by decide) (by kernel_rfl) (by kernel_rfl) (fun _ _ _ h => h) hS rfl ?_ ?_
        rotate_left
        · (intro w' hw'; first | (go_simp; done) | (go_simp; with_reducible rfl) | (obtain ⟨g1, g2, g3, g4⟩ := hw'.out; first | (go_simp; done) | (go_simp; with_reducible rfl)))
        simp only [Act.put, List.setIfInBounds_toArray, List.set_cons_zero, List.set_cons_succ]
        refine mix_take (v := ?_) 13 rfl (by decide) (by kernel_rfl) (by kernel_rfl) (fun _ _ _ h => h) hS rfl ?_ ?_
        rotate_left
        · (intro w' hw'; first | (go_simp; done) | (go_simp; with_reducible rfl) | (obtain ⟨g1, g2, g3, g4⟩ := hw'.out; first | (go_simp; done) | (go_simp; with_reducible rfl)))
        simp only [Act.put, List.setIfInBounds_toArray, List.set_cons_zero, List.set_cons_succ]
        refine mix_take (v := ?_) 14 rfl (by decide) (by kernel_rfl) (by kernel_rfl) (fun _ _ _ h => h) hS rfl ?_ ?_
        rotate_left
        · (intro w' hw'; first | (go_simp; done) | (go_simp; with_reducible rfl) | (obtain ⟨g1, g2, g3, g4⟩ := hw'.out; first | (go_simp; done) | (go_simp; with_reducible rfl)))
        simp only [Act.put, List.setIfInBounds_toArray, List.set_cons_zero, List.set_cons_succ]
        refine mix_take (v := ?_) 15 rfl (by decide) (by kernel_rfl) (by kernel_rfl) (fun _ _ _ h => h) hS rfl ?_ ?_
        rotate_left
        · (intro w' hw'; first | (go_simp; done) | (go_simp; with_reducible rfl) | (obtain ⟨g1, g2, g3, g4⟩ := hw'.out; first | (go_simp; done) | (go_simp; with_reducible rfl)))
        simp only [Act.put, List.setIfInBounds_toArray, List.set_cons_zero, List.set_cons_succ]
        refine mix_take (v := ?_) 16 rfl (by decide) (by kernel_rfl) (by kernel_rfl) (fun _ _ _ h => h) hS rfl ?_ ?_
        rotate_left
        · (intro w' hw'; first | (go_simp; done) | (go_simp; with_reducible rfl) | (obtain ⟨g1, g2, g3, g4⟩ := hw'.out; first | (go_simp; done) | (go_simp; with_reducible rfl)))
        simp only [Act.put, List.setIfInBounds_toArray, List.set_cons_zero, List.set_cons_succ]
        refine mix_take (v := ?_) 17 rfl (by decide) (by kernel_rfl) (by kernel_rfl) (fun _ _ _ h => h) hS rfl ?_ ?_
        rotate_left
        · (intro w' hw'; first | (go_simp; done) | (go_simp; with_reducible rfl) | (obtain ⟨g1, g2, g3, g4⟩ := hw'.out; first | (go_simp; done) | (go_simp; with_reducible rfl)))
        simp only [Act.put, List.setIfInBounds_toArray, List.set_cons_zero, List.set_cons_succ]
        refine mix_take (v := ?_) 18 rfl (by decide) (by kernel_rfl) (by kernel_rfl) (fun _ _ _ h => h) hS rfl ?_ ?_
        rotate_left
        · (intro w' hw'; first | (go_simp; done) | (go_simp; with_reducible rfl) | (obtain ⟨g1, g2, g3, g4⟩ := hw'.out; first | (go_simp; done) | (go_simp; with_reducible rfl)))
        simp only [Act.put, List.setIfInBounds_toArray, List.set_cons_zero, List.set_cons_succ]
        refine mix_done (by kernel_rfl) ?_
        simp only [List.drop_succ_cons, List.drop_zero]
        have hd8 := hd.later (below_drew wr)
        have hf8 := hd8.fz 4
        have hg8 := hd8.g4
        go_wp2_with fail
        obtain ⟨x, hx⟩ : ∃ x : Nat, (s0.n0 : Int) + k0 = (x : Int) := ⟨((s0.n0 : Int) + k0).toNat, by omega⟩
        have hxl : x ≤ l0 := by omega
        have hkept : s0.kept 0 k0 = x := by
          have h1 := HL.out
          show s0.n0 + min k0.toNat (s0.f0.length - s0.n0) = x
          omega
        rw [hx] at hxc ⊢
        have hd9 : DD ((wr.setCell ⟨b, 4, none⟩ (.int .i64 (x : Int))).drew) b _ _ _ _ _ _ _ := hd8.n0 x
        obtain ⟨wx, hwx⟩ : ∃ wx, (wr.setCell ⟨b, 4, none⟩ (.int .i64 (x : Int))).drew = wx := ⟨_, rfl⟩
        have hgx : wr.grownBy wx (some b) := by rw [← hwx]; exact grown_trans (grown_set _ _ _ _) (grown_of_below (below_drew _))
        rw [hwx] at hd9 ⊢
        clear hwx hx hd8 hf8 hg8 hw2 hx0
        have HK := Lib.hid hkept; clear hkept
        have hq9 : wx.cell? ⟨b, 4, none⟩ = some (.int .i64 (x : Int)) := hd9.g4
        have hx0 : (0 : Int) ≤ (x : Int) := by omega
        refine mix_begin 14 (Held fun w' => w'.cell? ⟨b, 3, none⟩ = some (.slice a0 l0 c0) ∧ w'.cell? ⟨b, 4, none⟩ = some (.int .i64 (x : Int)) ∧ Below wx.heap.size wx w') (by kernel_rfl) (by kernel_rfl) (Held.mk ⟨hd9.g3, hq9, below_drew _⟩) (fun hS => ?_)
        refine mix_take (v := ?_) 0 rfl (by decide) (by kernel_rfl) (by kernel_rfl) (fun _ _ _ h => h) hS rfl ?_ ?_
        rotate_left
        · (intro w' hw'; first | (go_simp; done) | (go_simp; with_reducible rfl) | (obtain ⟨g1, g2, g3⟩ := hw'.out; first | (go_simp; done) | (go_simp; with_reducible rfl)))
        simp only [Act.put, List.setIfInBounds_toArray, List.set_cons_zero, List.set_cons_succ]
        refine mix_take (v := ?_) 1 rfl (by decide) (by kernel_rfl) (by kernel_rfl) (fun _ _ _ h => h) hS rfl ?_ ?_
        rotate_left
        · (intro w' hw'; first | (go_simp; done) | (go_simp; with_reducible rfl) | (obtain ⟨g1, g2, g3⟩ := hw'.out; first | (go_simp; done) | (go_simp; with_reducible rfl)))
        simp only [Act.put, List.setIfInBounds_toArray, List.set_cons_zero, List.set_cons_succ]
        refine mix_take (v := ?_) 2 rfl (by decide) (by kernel_rfl) (by kernel_rfl) (fun _ _ _ h => h) hS rfl ?_ ?_
        rotate_left
        · (intro w' hw'; first | (go_simp; done) | (go_simp; with_reducible rfl) | (obtain ⟨g1, g2, g3⟩ := hw'.out; first | (go_simp; done) | (go_simp; with_reducible rfl)))
        simp only [Act.put, List.setIfInBounds_toArray, List.set_cons_zero, List.set_cons_succ]
        refine mix_take (v := ?_) 3 rfl (by decide) (by kernel_rfl) (by kernel_rfl) (fun _ _ _ h => h) hS rfl ?_ ?_
        rotate_left
        · (intro w' hw'; first | (go_simp; done) | (go_simp; with_reducible rfl) | (obtain ⟨g1, g2, g3⟩ := hw'.out; first | (go_simp; done) | (go_simp; with_reducible rfl)))
        simp only [Act.put, List.setIfInBounds_toArray, List.set_cons_zero, List.set_cons_succ]
        refine mix_take (v := ?_) 4 rfl (by decide) (by kernel_rfl) (by kernel_rfl) (fun _ _ _ h => h) hS rfl ?_ ?_
        rotate_left
        · (intro w' hw'; first | (go_simp; done) | (go_simp; with_reducible rfl) | (obtain ⟨g1, g2, g3⟩ := hw'.out; first | (go_simp; done) | (go_simp; with_reducible rfl)))
        simp only [Act.put, List.setIfInBounds_toArray, List.set_cons_zero, List.set_cons_succ]
        refine mix_take (v := ?_) 5 rfl (by decide) (by kernel_rfl) (by kernel_rfl) (fun _ _ _ h => h) hS rfl ?_ ?_
        rotate_left
        · (intro w' hw'; first | (go_simp; done) | (go_simp; with_reducible rfl) | (obtain ⟨g1, g2, g3⟩ := hw'.out; first | (go_simp; done) | (go_simp; with_reducible rfl)))
        simp only [Act.put, List.setIfInBounds_toArray, List.set_cons_zero, List.set_cons_succ]
        refine mix_take (v := ?_) 6 rfl (by decide) (by kernel_rfl) (by kernel_rfl) (fun _ _ _ h => h) hS rfl ?_ ?_
        rotate_left
        · (intro w' hw'; first | (go_simp; done) | (go_simp; with_reducible rfl) | (obtain ⟨g1, g2, g3⟩ := hw'.out; first | (go_simp; done) | (go_simp; with_reducible rfl)))
        simp only [Act.put, List.setIfInBounds_toArray, List.set_cons_zero, List.set_cons_succ]
        refine mix_take (v := ?_) 7 rfl (by decide) (by kernel_rfl) (by kernel_rfl) (fun _ _ _ h => h) hS rfl ?_ ?_
        rotate_left
        · (intro w' hw'; first | (go_simp; done) | (go_simp; with_reducible rfl) | (obtain ⟨g1, g2, g3⟩ := hw'.out; first | (go_simp; done) | (go_simp; with_reducible rfl)))
        simp only [Act.put, List.setIfInBounds_toArray, List.set_cons_zero, List.set_cons_succ]
        refine mix_take (v := ?_) 8 rfl (by decide) (by kernel_rfl) (by kernel_rfl) (fun _ _ _ h => h) hS rfl ?_ ?_
        rotate_left
        · (intro w' hw'; first | (go_simp; done) | (go_simp; with_reducible rfl) | (obtain ⟨g1, g2, g3⟩ := hw'.out; first | (go_simp; done) | (go_simp; with_reducible rfl)))
        simp only [Act.put, List.setIfInBounds_toArray, List.set_cons_zero, List.set_cons_succ]
        refine mix_take (v := ?_) 9 rfl (by decide) (by kernel_rfl) (by kernel_rfl) (fun _ _ _ h => h) hS rfl ?_ ?_
        rotate_left
        · (intro w' hw'; first | (go_simp; done) | (go_simp; with_reducible rfl) | (obtain ⟨g1, g2, g3⟩ := hw'.out; first | (go_simp; done) | (go_simp; with_reducible rfl)))
        simp only [Act.put, List.setIfInBounds_toArray, List.set_cons_zero, List.set_cons_succ]
        refine mix_take (v := ?_) 10 rfl (by decide) (by kernel_rfl) (by kernel_rfl) (fun _ _ _ h => h) hS rfl ?_ ?_
        rotate_left
        · (intro w' hw'; first | (go_simp; done) | (go_simp; with_reducible rfl) | (obtain ⟨g1, g2, g3⟩ := hw'.out; first | (go_simp; done) | (go_simp; with_reducible rfl)))
        simp only [Act.put, List.setIfInBounds_toArray, List.set_cons_zero, List.set_cons_succ]
        refine mix_take (v := ?_) 11 rfl (by decide) (by kernel_rfl) (by kernel_rfl) (fun _ _ _ h => h) hS rfl ?_ ?_
        rotate_left
        · (intro w' hw'; first | (go_simp; done) | (go_simp; with_reducible rfl) | (obtain ⟨g1, g2, g3⟩ := hw'.out; first | (go_simp; done) | (go_simp; with_reducible rfl)))
        simp only [Act.put, List.setIfInBounds_toArray, List.set_cons_zero, List.set_cons_succ]
        refine mix_take (v := ?_) 12 rfl (by decide) (by kernel_rfl) (by kernel_rfl) (fun _ _ _ h => h) hS rfl ?_ ?_
        rotate_left
        · (intro w' hw'; first | (go_simp; done) | (go_simp; with_reducible rfl) | (obtain ⟨g1, g2, g3⟩ := hw'.out; first | (go_simp; done) | (go_simp; with_reducible rfl)))
        simp only [Act.put, List.setIfInBounds_toArray, List.set_cons_zero, List.set_cons_succ]
        refine mix_take (v := ?_) 13 rfl (by decide) (by kernel_rfl) (by kernel_rfl) (fun _ _ _ h => h) hS rfl ?_ ?_
        rotate_left
        · (intro w' hw'; first | (go_simp; done) | (go_simp; with_reducible rfl) | (obtain ⟨g1, g2, g3⟩ := hw'.out; first | (go_simp; done) | (go_simp; with_reducible rfl)))
        simp only [Act.put, List.setIfInBounds_toArray, List.set_cons_zero, List.set_cons_succ]
        refine mix_done (by kernel_rfl) ?_
        simp only [List.drop_succ_cons, List.drop_zero]
        have hd10 := hd9.later (below_drew wx)
        have hf10 := hd10.fz 3
        have hg10 := hd10.g3
        have hpre := IsB_pre hd10.b0 (m := x) (c := x) (by omega) (Nat.le_refl _) (by omega)
        have hd11 : DD ((wx.setCell ⟨b, 3, none⟩ (.slice a0 x x)).drew) b _ _ _ _ _ _ _ := hd10.f0 hpre (fun ad had h0 => hd10.ne0 ad had (by omega))
        have hg11 : wr.grownBy ((wx.setCell ⟨b, 3, none⟩ (.slice a0 x x)).drew) (some b) := grown_trans hgx (grown_trans (grown_set _ _ _ _) (grown_of_below (below_drew _)))
        go_wp2_with fail
        go_roundw
        case rel =>
          refine ⟨1, by omega, rfl, ?_, grown_cell hg11 hq0 (by omega), grown_cell hg11 hq1 (by omega), grown_trans hg hg11⟩
          have h12 := hd11.isD
          simp only [show ¬ ((1 : Nat) = 0) from by decide, if_false, if_true]
          rw [HS.out]
          unfold DS.crashF
          rw [HK.out]
          exact h12
        case measure => simp [intOf]
      · have hy : (l0 : Int) - (s0.n0 : Int) ≤ k0 := by omega
        have hw2 : IntKind.i64.wrap ((s0.n0 : Int) + ((l0 : Int) - (s0.n0 : Int))) = (s0.n0 : Int) + ((l0 : Int) - (s0.n0 : Int)) := Go.IntWalk.i64_in _ (by omega)
        have hx0 : 0 ≤ (s0.n0 : Int) + ((l0 : Int) - (s0.n0 : Int)) := by omega
        have hxc : (s0.n0 : Int) + ((l0 : Int) - (s0.n0 : Int)) ≤ (c0 : Int) := by omega
        go_wp2_with fail
        refine mix_begin 19 (Held fun w' => w'.cell? ⟨w.heap.size, 0, none⟩ = some (.int .i64 k0) ∧ w'.cell? ⟨b, 3, none⟩ = some (.slice a0 l0 c0) ∧ w'.cell? ⟨b, 4, none⟩ = some (.int .i64 (s0.n0 : Int)) ∧ Below wr.heap.size wr w') (by kernel_rfl) (by kernel_rfl) (Held.mk ⟨hq0, hd.g3, hd.g4, below_drew _⟩) (fun hS => ?_)
        refine mix_take (v := ?_) 0 rfl (by decide) (by kernel_rfl) (by kernel_rfl) (fun _ _ _ h => h) hS rfl ?_ ?_
        rotate_left
        · (intro w' hw'; first | (go_simp; done) | (go_simp; with_reducible rfl) | (obtain ⟨g1, g2, g3, g4⟩ := hw'.out; first | (go_simp; done) | (go_simp; with_reducible rfl)))
        simp only [Act.put, List.setIfInBounds_toArray, List.set_cons_zero, List.set_cons_succ]
        refine mix_take (v := ?_) 1 rfl (by decide) (by kernel_rfl) (by kernel_rfl) (fun _ _ _ h => h) hS rfl ?_ ?_
        rotate_left
        · (intro w' hw'; first | (go_simp; done) | (go_simp; with_reducible rfl) | (obtain ⟨g1, g2, g3, g4⟩ := hw'.out; first | (go_simp; done) | (go_simp; with_reducible rfl)))
        simp only [Act.put, List.setIfInBounds_toArray, List.set_cons_zero, List.set_cons_succ]
        refine mix_take (v := ?_) 2 rfl (by decide) (by kernel_rfl) (by kernel_rfl) (fun _ _ _ h => h) hS rfl ?_ ?_
        rotate_left
        · (intro w' hw'; first | (go_simp; done) | (go_simp; with_reducible rfl) | (obtain ⟨g1, g2, g3, g4⟩ := hw'.out; first | (go_simp; done) | (go_simp; with_reducible rfl)))
        simp only [Act.put, List.setIfInBounds_toArray, List.set_cons_zero, List.set_cons_succ]
        refine mix_take (v := ?_) 3 rfl (by decide) (by kernel_rfl) (by kernel_rfl) (fun _ _ _ h => h) hS rfl ?_ ?_
        rotate_left
        · (intro w' hw'; first | (go_simp; done) | (go_simp; with_reducible rfl) | (obtain ⟨g1, g2, g3, g4⟩ := hw'.out; first | (go_simp; done) | (go_simp; with_reducible rfl)))
        simp only [Act.put, List.setIfInBounds_toArray, List.set_cons_zero, List.set_cons_succ]
        refine mix_take (v := ?_) 4 rfl (by decide) (by kernel_rfl) (by kernel_rfl) (fun _ _ _ h => h) hS rfl ?_ ?_
        rotate_left
        · (intro w' hw'; first | (go_simp; done) | (go_simp; with_reducible rfl) | (obtain ⟨g1, g2, g3, g4⟩ := hw'.out; first | (go_simp; done) | (go_simp; with_reducible rfl)))
        simp only [Act.put, List.setIfInBounds_toArray, List.set_cons_zero, List.set_cons_succ]
        refine mix_take (v := ?_) 5 rfl (by decide) (by kernel_rfl) (by kernel_rfl) (fun _ _ _ h => h) hS rfl ?_ ?_
        rotate_left
        · (intro w' hw'; first | (go_simp; done) | (go_simp; with_reducible rfl) | (obtain ⟨g1, g2, g3, g4⟩ := hw'.out; first | (go_simp; done) | (go_simp; with_reducible rfl)))
        simp only [Act.put, List.setIfInBounds_toArray, List.set_cons_zero, List.set_cons_succ]
        refine mix_take (v := ?_) 6 rfl (by decide) (by kernel_rfl) (by kernel_rfl) (fun _ _ _ h => h) hS rfl ?_ ?_
        rotate_left
        · (intro w' hw'; first | (go_simp; done) | (go_simp; with_reducible rfl) | (obtain ⟨g1, g2, g3, g4⟩ := hw'.out; first | (go_simp; done) | (go_simp; with_reducible rfl)))
        simp only [Act.put, List.setIfInBounds_toArray, List.set_cons_zero, List.set_cons_succ]
        refine mix_take (v := ?_) 7 rfl (by decide) (by kernel_rfl) (by kernel_rfl) (fun _ _ _ h => h) hS rfl ?_ ?_
        rotate_left
        · (intro w' hw'; first | (go_simp; done) | (go_simp; with_reducible rfl) | (obtain ⟨g1, g2, g3, g4⟩ := hw'.out; first | (go_simp; done) | (go_simp; with_reducible rfl)))
        simp only [Act.put, List.setIfInBounds_toArray, List.set_cons_zero, List.set_cons_succ]
        refine mix_take (v := ?_) 8 rfl (by decide) (by kernel_rfl) (by kernel_rfl) (fun _ _ _ h => h) hS rfl ?_ ?_
        rotate_left
        · (intro w' hw'; first | (go_simp; done) | (go_simp; with_reducible rfl) | (obtain ⟨g1, g2, g3, g4⟩ := hw'.out; first | (go_simp; done) | (go_simp; with_reducible rfl)))
        simp only [Act.put, List.setIfInBounds_toArray, List.set_cons_zero, List.set_cons_succ]
        refine mix_take (v := ?_) 9 rfl (by decide) (by kernel_rfl) (by kernel_rfl) (fun _ _ _ h => h) hS rfl ?_ ?_
        rotate_left
        · (intro w' hw'; first | (go_simp; done) | (go_simp; with_reducible rfl) | (obtain ⟨g1, g2, g3, g4⟩ := hw'.out; first | (go_simp; done) | (go_simp; with_reducible rfl)))
        simp only [Act.put, List.setIfInBounds_toArray, List.set_cons_zero, List.set_cons_succ]
        refine mix_take (v := ?_) 10 rfl (by decide) (by kernel_rfl) (by kernel_rfl) (fun _ _ _ h => h) hS rfl ?_ ?_
        rotate_left
        · (intro w' hw'; first | (go_simp; done) | (go_simp; with_reducible rfl) | (obtain ⟨g1, g2, g3, g4⟩ := hw'.out; first | (go_simp; done) | (go_simp; with_reducible rfl)))
        simp only [Act.put, List.setIfInBounds_toArray, List.set_cons_zero, List.set_cons_succ]
        refine mix_take (v := ?_) 11 rfl (by decide) (by kernel_rfl) (by kernel_rfl) (fun _ _ _ h => h) hS rfl ?_ ?_
        rotate_left
        · (intro w' hw'; first | (go_simp; done) | (go_simp; with_reducible rfl) | (obtain ⟨g1, g2, g3, g4⟩ := hw'.out; first | (go_simp; done) | (go_simp; with_reducible rfl)))
        simp only [Act.put, List.setIfInBounds_toArray, List.set_cons_zero, List.set_cons_succ]
        refine mix_take (v := ?_) 12 rfl (by decide) (by kernel_rfl) (by kernel_rfl) (fun _ _ _ h => h) hS rfl ?_ ?_
        rotate_left
        · (intro w' hw'; first | (go_simp; done) | (go_simp; with_reducible rfl) | (obtain ⟨g1, g2, g3, g4⟩ := hw'.out; first | (go_simp; done) | (go_simp; with_reducible rfl)))
        simp only [Act.put, List.setIfInBounds_toArray, List.set_cons_zero, List.set_cons_succ]
        refine mix_take (v := ?_) 13 rfl (by decide) (by kernel_rfl) (by kernel_rfl) (fun _ _ _ h => h) hS rfl ?_ ?_
        rotate_left
        · (intro w' hw'; first | (go_simp; done) | (go_simp; with_reducible rfl) | (obtain ⟨g1, g2, g3, g4⟩ := hw'.out; first | (go_simp; done) | (go_simp; with_reducible rfl)))
        simp only [Act.put, List.setIfInBounds_toArray, List.set_cons_zero, List.set_cons_succ]
        refine mix_take (v := ?_) 14 rfl (by decide) (by kernel_rfl) (by kernel_rfl) (fun _ _ _ h => h) hS rfl ?_ ?_
        rotate_left
        · (intro w' hw'; first | (go_simp; done) | (go_simp; with_reducible rfl) | (obtain ⟨g1, g2, g3, g4⟩ := hw'.out; first | (go_simp; done) | (go_simp; with_reducible rfl)))
        simp only [Act.put, List.setIfInBounds_toArray, List.set_cons_zero, List.set_cons_succ]
        refine mix_take (v := ?_) 15 rfl (by decide) (by kernel_rfl) (by kernel_rfl) (fun _ _ _ h => h) hS rfl ?_ ?_
        rotate_left
        · (intro w' hw'; first | (go_simp; done) | (go_simp; with_reducible rfl) | (obtain ⟨g1, g2, g3, g4⟩ := hw'.out; first | (go_simp; done) | (go_simp; with_reducible rfl)))
        simp only [Act.put, List.setIfInBounds_toArray, List.set_cons_zero, List.set_cons_succ]
        refine mix_take (v := ?_) 16 rfl (by decide) (by kernel_rfl) (by kernel_rfl) (fun _ _ _ h => h) hS rfl ?_ ?_
        rotate_left
        · (intro w' hw'; first | (go_simp; done) | (go_simp; with_reducible rfl) | (obtain ⟨g1, g2, g3, g4⟩ := hw'.out; first | (go_simp; done) | (go_simp; with_reducible rfl)))
        simp only [Act.put, List.setIfInBounds_toArray, List.set_cons_zero, List.set_cons_succ]
        refine mix_take (v := ?_) 17 rfl (by decide) (by kernel_rfl) (by kernel_rfl) (fun _ _ _ h => h) hS rfl ?_ ?_
        rotate_left
        · (intro w' hw'; first | (go_simp; done) | (go_simp; with_reducible rfl) | (obtain ⟨g1, g2, g3, g4⟩ := hw'.out; first | (go_simp; done) | (go_simp; with_reducible rfl)))
        simp only [Act.put, List.setIfInBounds_toArray, List.set_cons_zero, List.set_cons_succ]
        refine mix_take (v := ?_) 18 rfl (by decide) (by kernel_rfl) (by kernel_rfl) (fun _ _ _ h => h) hS rfl ?_ ?_
        rotate_left
        · (intro w' hw'; first | (go_simp; done) | (go_simp; with_reducible rfl) | (obtain ⟨g1, g2, g3, g4⟩ := hw'.out; first | (go_simp; done) | (go_simp; with_reducible rfl)))
        simp only [Act.put, List.setIfInBounds_toArray, List.set_cons_zero, List.set_cons_succ]
        refine mix_done (by kernel_rfl) ?_
        simp only [List.drop_succ_cons, List.drop_zero]
        have hd8 := hd.later (below_drew wr)
        have hf8 := hd8.fz 4
        have hg8 := hd8.g4
        go_wp2_with fail
        obtain ⟨x, hx⟩ : ∃ x : Nat, (s0.n0 : Int) + ((l0 : Int) - (s0.n0 : Int)) = (x : Int) := ⟨((s0.n0 : Int) + ((l0 : Int) - (s0.n0 : Int))).toNat, by omega⟩
        have hxl : x ≤ l0 := by omega
        have hkept : s0.kept 0 k0 = x := by
          have h1 := HL.out
          show s0.n0 + min k0.toNat (s0.f0.length - s0.n0) = x
          omega
        rw [hx] at hxc ⊢
        have hd9 : DD ((wr.setCell ⟨b, 4, none⟩ (.int .i64 (x : Int))).drew) b _ _ _ _ _ _ _ := hd8.n0 x
        obtain ⟨wx, hwx⟩ : ∃ wx, (wr.setCell ⟨b, 4, none⟩ (.int .i64 (x : Int))).drew = wx := ⟨_, rfl⟩
        have hgx : wr.grownBy wx (some b) := by rw [← hwx]; exact grown_trans (grown_set _ _ _ _) (grown_of_below (below_drew _))
        rw [hwx] at hd9 ⊢
        clear hwx hx hd8 hf8 hg8 hw2 hx0
        have HK := Lib.hid hkept; clear hkept
        have hq9 : wx.cell? ⟨b, 4, none⟩ = some (.int .i64 (x : Int)) := hd9.g4
        have hx0 : (0 : Int) ≤ (x : Int) := by omega
        refine mix_begin 14 (Held fun w' => w'.cell? ⟨b, 3, none⟩ = some (.slice a0 l0 c0) ∧ w'.cell? ⟨b, 4, none⟩ = some (.int .i64 (x : Int)) ∧ Below wx.heap.size wx w') (by kernel_rfl) (by kernel_rfl) (Held.mk ⟨hd9.g3, hq9, below_drew _⟩) (fun hS => ?_)
        refine mix_take (v := ?_) 0 rfl (by decide) (by kernel_rfl) (by kernel_rfl) (fun _ _ _ h => h) hS rfl ?_ ?_
        rotate_left
        · (intro w' hw'; first | (go_simp; done) | (go_simp; with_reducible rfl) | (obtain ⟨g1, g2, g3⟩ := hw'.out; first | (go_simp; done) | (go_simp; with_reducible rfl)))
        simp only [Act.put, List.setIfInBounds_toArray, List.set_cons_zero, List.set_cons_succ]
        refine mix_take (v := ?_) 1 rfl (by decide) (by kernel_rfl) (by kernel_rfl) (fun _ _ _ h => h) hS rfl ?_ ?_
        rotate_left
        · (intro w' hw'; first | (go_simp; done) | (go_simp; with_reducible rfl) | (obtain ⟨g1, g2, g3⟩ := hw'.out; first | (go_simp; done) | (go_simp; with_reducible rfl)))
        simp only [Act.put, List.setIfInBounds_toArray, List.set_cons_zero, List.set_cons_succ]
        refine mix_take (v := ?_) 2 rfl (by decide) (by kernel_rfl) (by kernel_rfl) (fun _ _ _ h => h) hS rfl ?_ ?_
        rotate_left
        · (intro w' hw'; first | (go_simp; done) | (go_simp; with_reducible rfl) | (obtain ⟨g1, g2, g3⟩ := hw'.out; first | (go_simp; done) | (go_simp; with_reducible rfl)))
        simp only [Act.put, List.setIfInBounds_toArray, List.set_cons_zero, List.set_cons_succ]
        refine mix_take (v := ?_) 3 rfl (by decide) (by kernel_rfl) (by kernel_rfl) (fun _ _ _ h => h) hS rfl ?_ ?_
        rotate_left
        · (intro w' hw'; first | (go_simp; done) | (go_simp; with_reducible rfl) | (obtain ⟨g1, g2, g3⟩ := hw'.out; first | (go_simp; done) | (go_simp; with_reducible rfl)))
        simp only [Act.put, List.setIfInBounds_toArray, List.set_cons_zero, List.set_cons_succ]
        refine mix_take (v := ?_) 4 rfl (by decide) (by kernel_rfl) (by kernel_rfl) (fun _ _ _ h => h) hS rfl ?_ ?_
        rotate_left
        · (intro w' hw'; first | (go_simp; done) | (go_simp; with_reducible rfl) | (obtain ⟨g1, g2, g3⟩ := hw'.out; first | (go_simp; done) | (go_simp; with_reducible rfl)))
        simp only [Act.put, List.setIfInBounds_toArray, List.set_cons_zero, List.set_cons_succ]
        refine mix_take (v := ?_) 5 rfl (by decide) (by kernel_rfl) (by kernel_rfl) (fun _ _ _ h => h) hS rfl ?_ ?_
        rotate_left
        · (intro w' hw'; first | (go_simp; done) | (go_simp; with_reducible rfl) | (obtain ⟨g1, g2, g3⟩ := hw'.out; first | (go_simp; done) | (go_simp; with_reducible rfl)))
        simp only [Act.put, List.setIfInBounds_toArray, List.set_cons_zero, List.set_cons_succ]
        refine mix_take (v := ?_) 6 rfl (by decide) (by kernel_rfl) (by kernel_rfl) (fun _ _ _ h => h) hS rfl ?_ ?_
        rotate_left
        · (intro w' hw'; first | (go_simp; done) | (go_simp; with_reducible rfl) | (obtain ⟨g1, g2, g3⟩ := hw'.out; first | (go_simp; done) | (go_simp; with_reducible rfl)))
        simp only [Act.put, List.setIfInBounds_toArray, List.set_cons_zero, List.set_cons_succ]
        refine mix_take (v := ?_) 7 rfl (by decide) (by kernel_rfl) (by kernel_rfl) (fun _ _ _ h => h) hS rfl ?_ ?_
        rotate_left
        · (intro w' hw'; first | (go_simp; done) | (go_simp; with_reducible rfl) | (obtain ⟨g1, g2, g3⟩ := hw'.out; first | (go_simp; done) | (go_simp; with_reducible rfl)))
        simp only [Act.put, List.setIfInBounds_toArray, List.set_cons_zero, List.set_cons_succ]
        refine mix_take (v := ?_) 8 rfl (by decide) (by kernel_rfl) (by kernel_rfl) (fun _ _ _ h => h) hS rfl ?_ ?_
        rotate_left
        · (intro w' hw'; first | (go_simp; done) | (go_simp; with_reducible rfl) | (obtain ⟨g1, g2, g3⟩ := hw'.out; first | (go_simp; done) | (go_simp; with_reducible rfl)))
        simp only [Act.put, List.setIfInBounds_toArray, List.set_cons_zero, List.set_cons_succ]
        refine mix_take (v := ?_) 9 rfl (by decide) (by kernel_rfl) (by kernel_rfl) (fun _ _ _ h => h) hS rfl ?_ ?_
        rotate_left
        · (intro w' hw'; first | (go_simp; done) | (go_simp; with_reducible rfl) | (obtain ⟨g1, g2, g3⟩ := hw'.out; first | (go_simp; done) | (go_simp; with_reducible rfl)))
        simp only [Act.put, List.setIfInBounds_toArray, List.set_cons_zero, List.set_cons_succ]
        refine mix_take (v := ?_) 10 rfl (by decide) (by kernel_rfl) (by kernel_rfl) (fun _ _ _ h => h) hS rfl ?_ ?_
        rotate_left
        · (intro w' hw'; first | (go_simp; done) | (go_simp; with_reducible rfl) | (obtain ⟨g1, g2, g3⟩ := hw'.out; first | (go_simp; done) | (go_simp; with_reducible rfl)))
        simp only [Act.put, List.setIfInBounds_toArray, List.set_cons_zero, List.set_cons_succ]
        refine mix_take (v := ?_) 11 rfl (by decide) (by kernel_rfl) (by kernel_rfl) (fun _ _ _ h => h) hS rfl ?_ ?_
        rotate_left
        · (intro w' hw'; first | (go_simp; done) | (go_simp; with_reducible rfl) | (obtain ⟨g1, g2, g3⟩ := hw'.out; first | (go_simp; done) | (go_simp; with_reducible rfl)))
        simp only [Act.put, List.setIfInBounds_toArray, List.set_cons_zero, List.set_cons_succ]
        refine mix_take (v := ?_) 12 rfl (by decide) (by kernel_rfl) (by kernel_rfl) (fun _ _ _ h => h) hS rfl ?_ ?_
        rotate_left
        · (intro w' hw'; first | (go_simp; done) | (go_simp; with_reducible rfl) | (obtain ⟨g1, g2, g3⟩ := hw'.out; first | (go_simp; done) | (go_simp; with_reducible rfl)))
        simp only [Act.put, List.setIfInBounds_toArray, List.set_cons_zero, List.set_cons_succ]
        refine mix_take (v := ?_) 13 rfl (by decide) (by kernel_rfl) (by kernel_rfl) (fun _ _ _ h => h) hS rfl ?_ ?_
        rotate_left
        · (intro w' hw'; first | (go_simp; done) | (go_simp; with_reducible rfl) | (obtain ⟨g1, g2, g3⟩ := hw'.out; first | (go_simp; done) | (go_simp; with_reducible rfl)))
        simp only [Act.put, List.setIfInBounds_toArray, List.set_cons_zero, List.set_cons_succ]
        refine mix_done (by kernel_rfl) ?_
        simp only [List.drop_succ_cons, List.drop_zero]
        have hd10 := hd9.later (below_drew wx)
        have hf10 := hd10.fz 3
        have hg10 := hd10.g3
        have hpre := IsB_pre hd10.b0 (m := x) (c := x) (by omega) (Nat.le_refl _) (by omega)
        have hd11 : DD ((wx.setCell ⟨b, 3, none⟩ (.slice a0 x x)).drew) b _ _ _ _ _ _ _ := hd10.f0 hpre (fun ad had h0 => hd10.ne0 ad had (by omega))
        have hg11 : wr.grownBy ((wx.setCell ⟨b, 3, none⟩ (.slice a0 x x)).drew) (some b) := grown_trans hgx (grown_trans (grown_set _ _ _ _) (grown_of_below (below_drew _)))
        go_wp2_with fail
        go_roundw
        case rel =>
          refine ⟨1, by omega, rfl, ?_, grown_cell hg11 hq0 (by omega), grown_cell hg11 hq1 (by omega), grown_trans hg hg11⟩
          have h12 := hd11.isD
          simp only [show ¬ ((1 : Nat) = 0) from by decide, if_false, if_true]
          rw [HS.out]
          unfold DS.crashF
          rw [HK.out]
          exact h12
        case measure => simp [intOf]
    · obtain ⟨s1, hs1⟩ : ∃ s1, s.crashF 0 k0 = s1 := ⟨_, rfl⟩
      simp only [show ¬ ((1 : Nat) = 0) from by decide, if_false, if_true] at hd
      have hfn := crashF_fine s k0 HF.out
      rw [hs1] at hd hfn
      have HS := Lib.hid hs1; clear hs1
      obtain ⟨a0, l0, c0, a1, l1, c1, hd⟩ := hd
      have hll := hd.b1.len
      have hlc := hd.b1.le
      have hn : (s1.n1 : Int) ≤ (l1 : Int) := by have := hfn.2.1; omega
      have hbig : (l1 : Int) ≤ 2 ^ 40 := by have := hfn.2.2.2; omega
      have hw0 : IntKind.i64.wrap ((l1 : Int) - (s1.n1 : Int)) = (l1 : Int) - (s1.n1 : Int) := i64_in (by omega) (by omega)
      have HL := Lib.hid hll; clear hll
      by_cases hcs : k1 ≤ (l1 : Int) - (s1.n1 : Int)
      · have hy : k1 ≤ (l1 : Int) - (s1.n1 : Int) := by omega
        have hw2 : IntKind.i64.wrap ((s1.n1 : Int) + k1) = (s1.n1 : Int) + k1 := Go.IntWalk.i64_in _ (by omega)
        have hx0 : 0 ≤ (s1.n1 : Int) + k1 := by omega
        have hxc : (s1.n1 : Int) + k1 ≤ (c1 : Int) := by omega
        go_wp2_with fail
        refine mix_begin 19 (Held fun w' => w'.cell? ⟨w.heap.size, 1, none⟩ = some (.int .i64 k1) ∧ w'.cell? ⟨b, 5, none⟩ = some (.slice a1 l1 c1) ∧ w'.cell? ⟨b, 6, none⟩ = some (.int .i64 (s1.n1 : Int)) ∧ Below wr.heap.size wr w') (by kernel_rfl) (by kernel_rfl) (Held.mk ⟨hq1, hd.g5, hd.g6, below_drew _⟩) (fun hS => ?_)
        refine mix_take (v := ?_) 0 rfl (by decide) (by kernel_rfl) (by kernel_rfl) (fun _ _ _ h => h) hS rfl ?_ ?_
        rotate_left
        · (intro w' hw'; first | (go_simp; done) | (go_simp; with_reducible rfl) | (obtain ⟨g1, g2, g3, g4⟩ := hw'.out; first | (go_simp; done) | (go_simp; with_reducible rfl)))
        simp only [Act.put, List.setIfInBounds_toArray, List.set_cons_zero, List.set_cons_succ]
        refine mix_take (v := ?_) 1 rfl (by decide) (by kernel_rfl) (by kernel_rfl) (fun _ _ _ h => h) hS rfl ?_ ?_
        rotate_left
        · (intro w' hw'; first | (go_simp; done) | (go_simp; with_reducible rfl) | (obtain ⟨g1, g2, g3, g4⟩ := hw'.out; first | (go_simp; done) | (go_simp; with_reducible rfl)))
        simp only [Act.put, List.setIfInBounds_toArray, List.set_cons_zero, List.set_cons_succ]
        refine mix_take (v := ?_) 2 rfl (by decide) (by kernel_rfl) (by kernel_rfl) (fun _ _ _ h => h) hS rfl ?_ ?_
        rotate_left
        · (intro w' hw'; first | (go_simp; done) | (go_simp; with_reducible rfl) | (obtain ⟨g1, g2, g3, g4⟩ := hw'.out; first | (go_simp; done) | (go_simp; with_reducible rfl)))
        simp only [Act.put, List.setIfInBounds_toArray, List.set_cons_zero, List.set_cons_succ]
        refine mix_take (v := ?_) 3 rfl (by decide) (by kernel_rfl) (by kernel_rfl) (fun _ _ _ h => h) hS rfl ?_ ?_
        rotate_left
        · (intro w' hw'; first | (go_simp; done) | (go_simp; with_reducible rfl) | (obtain ⟨g1, g2, g3, g4⟩ := hw'.out; first | (go_simp; done) | (go_simp; with_reducible rfl)))
        simp only [Act.put, List.setIfInBounds_toArray, List.set_cons_zero, List.set_cons_succ]
        refine mix_take (v := ?_) 4 rfl (by decide) (by kernel_rfl) (by kernel_rfl) (fun _ _ _ h => h) hS rfl ?_ ?_
        rotate_left
        · (intro w' hw'; first | (go_simp; done) | (go_simp; with_reducible rfl) | (obtain ⟨g1, g2, g3, g4⟩ := hw'.out; first | (go_simp; done) | (go_simp; with_reducible rfl)))
        simp only [Act.put, List.setIfInBounds_toArray, List.set_cons_zero, List.set_cons_succ]
        refine mix_take (v := ?_) 5 rfl (by decide) (by kernel_rfl) (by kernel_rfl) (fun _ _ _ h => h) hS rfl ?_ ?_
        rotate_left
        · (intro w' hw'; first | (go_simp; done) | (go_simp; with_reducible rfl) | (obtain ⟨g1, g2, g3, g4⟩ := hw'.out; first | (go_simp; done) | (go_simp; with_reducible rfl)))
        simp only [Act.put, List.setIfInBounds_toArray, List.set_cons_zero, List.set_cons_succ]
        refine mix_take (v := ?_) 6 rfl (by decide) (by kernel_rfl) (by kernel_rfl) (fun _ _ _ h => h) hS rfl ?_ ?_
        rotate_left
        · (intro w' hw'; first | (go_simp; done) | (go_simp; with_reducible rfl) | (obtain ⟨g1, g2, g3, g4⟩ := hw'.out; first | (go_simp; done) | (go_simp; with_reducible rfl)))
        simp only [Act.put, List.setIfInBounds_toArray, List.set_cons_zero, List.set_cons_succ]
        refine mix_take (v := ?_) 7 rfl (by decide) (by kernel_rfl) (by kernel_rfl) (fun _ _ _ h => h) hS rfl ?_ ?_
        rotate_left
        · (intro w' hw'; first | (go_simp; done) | (go_simp; with_reducible rfl) | (obtain ⟨g1, g2, g3, g4⟩ := hw'.out; first | (go_simp; done) | (go_simp; with_reducible rfl)))
        simp only [Act.put, List.setIfInBounds_toArray, List.set_cons_zero, List.set_cons_succ]
        refine mix_take (v := ?_) 8 rfl (by decide) (by kernel_rfl) (by kernel_rfl) (fun _ _ _ h => h) hS rfl ?_ ?_
        rotate_left
        · (intro w' hw'; first | (go_simp; done) | (go_simp; with_reducible rfl) | (obtain ⟨g1, g2, g3, g4⟩ := hw'.out; first | (go_simp; done) | (go_simp; with_reducible rfl)))
        simp only [Act.put, List.setIfInBounds_toArray, List.set_cons_zero, List.set_cons_succ]
        refine mix_take (v := ?_) 9 rfl (by decide) (by kernel_rfl) (by kernel_rfl) (fun _ _ _ h => h) hS rfl ?_ ?_
        rotate_left
        · (intro w' hw'; first | (go_simp; done) | (go_simp; with_reducible rfl) | (obtain ⟨g1, g2, g3, g4⟩ := hw'.out; first | (go_simp; done) | (go_simp; with_reducible rfl)))
        simp only [Act.put, List.setIfInBounds_toArray, List.set_cons_zero, List.set_cons_succ]
        refine mix_take (v := ?_) 10 rfl (by decide) (by kernel_rfl) (by kernel_rfl) (fun _ _ _ h => h) hS rfl ?_ ?_
        rotate_left
        · (intro w' hw'; first | (go_simp; done) | (go_simp; with_reducible rfl) | (obtain ⟨g1, g2, g3, g4⟩ := hw'.out; first | (go_simp; done) | (go_simp; with_reducible rfl)))
        simp only [Act.put, List.setIfInBounds_toArray, List.set_cons_zero, List.set_cons_succ]
        refine mix_take (v := ?_) 11 rfl (by decide) (by kernel_rfl) (by kernel_rfl) (fun _ _ _ h => h) hS rfl ?_ ?_
        rotate_left
        · (intro w' hw'; first | (go_simp; done) | (go_simp; with_reducible rfl) | (obtain ⟨g1, g2, g3, g4⟩ := hw'.out; first | (go_simp; done) | (go_simp; with_reducible rfl)))
        simp only [Act.put, List.setIfInBounds_toArray, List.set_cons_zero, List.set_cons_succ]
        refine mix_take (v := ?_) 12 rfl (by decide) (by kernel_rfl) (by kernel_rfl) (fun _ _ _ h => h) hS rfl ?_ ?_
        rotate_left
        · (intro w' hw'; first | (go_simp; done) | (go_simp; with_reducible rfl) | (obtain ⟨g1, g2, g3, g4⟩ := hw'.out; first | (go_simp; done) | (go_simp; with_reducible rfl)))
        simp only [Act.put, List.setIfInBounds_toArray, List.set_cons_zero, List.set_cons_succ]
        refine mix_take (v := ?_) 13 rfl (by decide) (by kernel_rfl) (by kernel_rfl) (fun _ _ _ h => h) hS rfl ?_ ?_
        rotate_left
        · (intro w' hw'; first | (go_simp; done) | (go_simp; with_reducible rfl) | (obtain ⟨g1, g2, g3, g4⟩ := hw'.out; first | (go_simp; done) | (go_simp; with_reducible rfl)))
        simp only [Act.put, List.setIfInBounds_toArray, List.set_cons_zero, List.set_cons_succ]
        refine mix_take (v := ?_) 14 rfl (by decide) (by kernel_rfl) (by kernel_rfl) (fun _ _ _ h => h) hS rfl ?_ ?_
        rotate_left
        · (intro w' hw'; first | (go_simp; done) | (go_simp; with_reducible rfl) | (obtain ⟨g1, g2, g3, g4⟩ := hw'.out; first | (go_simp; done) | (go_simp; with_reducible rfl)))
        simp only [Act.put, List.setIfInBounds_toArray, List.set_cons_zero, List.set_cons_succ]
        refine mix_take (v := ?_) 15 rfl (by decide) (by kernel_rfl) (by kernel_rfl) (fun _ _ _ h => h) hS rfl ?_ ?_
        rotate_left
        · (intro w' hw'; first | (go_simp; done) | (go_simp; with_reducible rfl) | (obtain ⟨g1, g2, g3, g4⟩ := hw'.out; first | (go_simp; done) | (go_simp; with_reducible rfl)))
        simp only [Act.put, List.setIfInBounds_toArray, List.set_cons_zero, List.set_cons_succ]
        refine mix_take (v := ?_) 16 rfl (by decide) (by kernel_rfl) (by kernel_rfl) (fun _ _ _ h => h) hS rfl ?_ ?_
        rotate_left
        · (intro w' hw'; first | (go_simp; done) | (go_simp; with_reducible rfl) | (obtain ⟨g1, g2, g3, g4⟩ := hw'.out; first | (go_simp; done) | (go_simp; with_reducible rfl)))
        simp only [Act.put, List.setIfInBounds_toArray, List.set_cons_zero, List.set_cons_succ]
        refine mix_take (v := ?_) 17 rfl (by decide) (by kernel_rfl) (by kernel_rfl) (fun _ _ _ h => h) hS rfl ?_ ?_
        rotate_left
        · (intro w' hw'; first | (go_simp; done) | (go_simp; with_reducible rfl) | (obtain ⟨g1, g2, g3, g4⟩ := hw'.out; first | (go_simp; done) | (go_simp; with_reducible rfl)))
        simp only [Act.put, List.setIfInBounds_toArray, List.set_cons_zero, List.set_cons_succ]
        refine mix_take (v := ?_) 18 rfl (by decide) (by kernel_rfl) (by kernel_rfl) (fun _ _ _ h => h) hS rfl ?_ ?_
        rotate_left
        · (intro w' hw'; first | (go_simp; done) | (go_simp; with_reducible rfl) | (obtain ⟨g1, g2, g3, g4⟩ := hw'.out; first | (go_simp; done) | (go_simp; with_reducible rfl)))
        simp only [Act.put, List.setIfInBounds_toArray, List.set_cons_zero, List.set_cons_succ]
        refine mix_done (by kernel_rfl) ?_
        simp only [List.drop_succ_cons, List.drop_zero]
        have hd8 := hd.later (below_drew wr)
        have hf8 := hd8.fz 6
        have hg8 := hd8.g6
        go_wp2_with fail
        obtain ⟨x, hx⟩ : ∃ x : Nat, (s1.n1 : Int) + k1 = (x : Int) := ⟨((s1.n1 : Int) + k1).toNat, by omega⟩
        have hxl : x ≤ l1 := by omega
        have hkept : s1.kept 1 k1 = x := by
          have h1 := HL.out
          show s1.n1 + min k1.toNat (s1.f1.length - s1.n1) = x
          omega
        rw [hx] at hxc ⊢
        have hd9 : DD ((wr.setCell ⟨b, 6, none⟩ (.int .i64 (x : Int))).drew) b _ _ _ _ _ _ _ := hd8.n1 x
        obtain ⟨wx, hwx⟩ : ∃ wx, (wr.setCell ⟨b, 6, none⟩ (.int .i64 (x : Int))).drew = wx := ⟨_, rfl⟩
        have hgx : wr.grownBy wx (some b) := by rw [← hwx]; exact grown_trans (grown_set _ _ _ _) (grown_of_below (below_drew _))
        rw [hwx] at hd9 ⊢
        clear hwx hx hd8 hf8 hg8 hw2 hx0
        have HK := Lib.hid hkept; clear hkept
        have hq9 : wx.cell? ⟨b, 6, none⟩ = some (.int .i64 (x : Int)) := hd9.g6
        have hx0 : (0 : Int) ≤ (x : Int) := by omega
        refine mix_begin 14 (Held fun w' => w'.cell? ⟨b, 5, none⟩ = some (.slice a1 l1 c1) ∧ w'.cell? ⟨b, 6, none⟩ = some (.int .i64 (x : Int)) ∧ Below wx.heap.size wx w') (by kernel_rfl) (by kernel_rfl) (Held.mk ⟨hd9.g5, hq9, below_drew _⟩) (fun hS => ?_)
        refine mix_take (v := ?_) 0 rfl (by decide) (by kernel_rfl) (by kernel_rfl) (fun _ _ _ h => h) hS rfl ?_ ?_
        rotate_left
        · (intro w' hw'; first | (go_simp; done) | (go_simp; with_reducible rfl) | (obtain ⟨g1, g2, g3⟩ := hw'.out; first | (go_simp; done) | (go_simp; with_reducible rfl)))
        simp only [Act.put, List.setIfInBounds_toArray, List.set_cons_zero, List.set_cons_succ]
        refine mix_take (v := ?_) 1 rfl (by decide) (by kernel_rfl) (by kernel_rfl) (fun _ _ _ h => h) hS rfl ?_ ?_
        rotate_left
        · (intro w' hw'; first | (go_simp; done) | (go_simp; with_reducible rfl) | (obtain ⟨g1, g2, g3⟩ := hw'.out; first | (go_simp; done) | (go_simp; with_reducible rfl)))
        simp only [Act.put, List.setIfInBounds_toArray, List.set_cons_zero, List.set_cons_succ]
        refine mix_take (v := ?_) 2 rfl (by decide) (by kernel_rfl) (by kernel_rfl) (fun _ _ _ h => h) hS rfl ?_ ?_
        rotate_left
        · (intro w' hw'; first | (go_simp; done) | (go_simp; with_reducible rfl) | (obtain ⟨g1, g2, g3⟩ := hw'.out; first | (go_simp; done) | (go_simp; with_reducible rfl)))
        simp only [Act.put, List.setIfInBounds_toArray, List.set_cons_zero, List.set_cons_succ]
        refine mix_take (v := ?_) 3 rfl (by decide) (by kernel_rfl) (by kernel_rfl) (fun _ _ _ h => h) hS rfl ?_ ?_
        rotate_left
        · (intro w' hw'; first | (go_simp; done) | (go_simp; with_reducible rfl) | (obtain ⟨g1, g2, g3⟩ := hw'.out; first | (go_simp; done) | (go_simp; with_reducible rfl)))
        simp only [Act.put, List.setIfInBounds_toArray, List.set_cons_zero, List.set_cons_succ]
        refine mix_take (v := ?_) 4 rfl (by decide) (by kernel_rfl) (by kernel_rfl) (fun _ _ _ h => h) hS rfl ?_ ?_
        rotate_left
        · (intro w' hw'; first | (go_simp; done) | (go_simp; with_reducible rfl) | (obtain ⟨g1, g2, g3⟩ := hw'.out; first | (go_simp; done) | (go_simp; with_reducible rfl)))
        simp only [Act.put, List.setIfInBounds_toArray, List.set_cons_zero, List.set_cons_succ]
        refine mix_take (v := ?_) 5 rfl (by decide) (by kernel_rfl) (by kernel_rfl) (fun _ _ _ h => h) hS rfl ?_ ?_
        rotate_left
        · (intro w' hw'; first | (go_simp; done) | (go_simp; with_reducible rfl) | (obtain ⟨g1, g2, g3⟩ := hw'.out; first | (go_simp; done) | (go_simp; with_reducible rfl)))
        simp only [Act.put, List.setIfInBounds_toArray, List.set_cons_zero, List.set_cons_succ]
        refine mix_take (v := ?_) 6 rfl (by decide) (by kernel_rfl) (by kernel_rfl) (fun _ _ _ h => h) hS rfl ?_ ?_
        rotate_left
        · (intro w' hw'; first | (go_simp; done) | (go_simp; with_reducible rfl) | (obtain ⟨g1, g2, g3⟩ := hw'.out; first | (go_simp; done) | (go_simp; with_reducible rfl)))
        simp only [Act.put, List.setIfInBounds_toArray, List.set_cons_zero, List.set_cons_succ]
        refine mix_take (v := ?_) 7 rfl (by decide) (by kernel_rfl) (by kernel_rfl) (fun _ _ _ h => h) hS rfl ?_ ?_
        rotate_left
        · (intro w' hw'; first | (go_simp; done) | (go_simp; with_reducible rfl) | (obtain ⟨g1, g2, g3⟩ := hw'.out; first | (go_simp; done) | (go_simp; with_reducible rfl)))
        simp only [Act.put, List.setIfInBounds_toArray, List.set_cons_zero, List.set_cons_succ]
        refine mix_take (v := ?_) 8 rfl (by decide) (by kernel_rfl) (by kernel_rfl) (fun _ _ _ h => h) hS rfl ?_ ?_
        rotate_left
        · (intro w' hw'; first | (go_simp; done) | (go_simp; with_reducible rfl) | (obtain ⟨g1, g2, g3⟩ := hw'.out; first | (go_simp; done) | (go_simp; with_reducible rfl)))
        simp only [Act.put, List.setIfInBounds_toArray, List.set_cons_zero, List.set_cons_succ]
        refine mix_take (v := ?_) 9 rfl (by decide) (by kernel_rfl) (by kernel_rfl) (fun _ _ _ h => h) hS rfl ?_ ?_
        rotate_left
        · (intro w' hw'; first | (go_simp; done) | (go_simp; with_reducible rfl) | (obtain ⟨g1, g2, g3⟩ := hw'.out; first | (go_simp; done) | (go_simp; with_reducible rfl)))
        simp only [Act.put, List.setIfInBounds_toArray, List.set_cons_zero, List.set_cons_succ]
        refine mix_take (v := ?_) 10 rfl (by decide) (by kernel_rfl) (by kernel_rfl) (fun _ _ _ h => h) hS rfl ?_ ?_
        rotate_left
        · (intro w' hw'; first | (go_simp; done) | (go_simp; with_reducible rfl) | (obtain ⟨g1, g2, g3⟩ := hw'.out; first | (go_simp; done) | (go_simp; with_reducible rfl)))
        simp only [Act.put, List.setIfInBounds_toArray, List.set_cons_zero, List.set_cons_succ]
        refine mix_take (v := ?_) 11 rfl (by decide) (by kernel_rfl) (by kernel_rfl) (fun _ _ _ h => h) hS rfl ?_ ?_
        rotate_left
        · (intro w' hw'; first | (go_simp; done) | (go_simp; with_reducible rfl) | (obtain ⟨g1, g2, g3⟩ := hw'.out; first | (go_simp; done) | (go_simp; with_reducible rfl)))
        simp only [Act.put, List.setIfInBounds_toArray, List.set_cons_zero, List.set_cons_succ]
        refine mix_take (v := ?_) 12 rfl (by decide) (by kernel_rfl) (by kernel_rfl) (fun _ _ _ h => h) hS rfl ?_ ?_
        rotate_left
        · (intro w' hw'; first | (go_simp; done) | (go_simp; with_reducible rfl) | (obtain ⟨g1, g2, g3⟩ := hw'.out; first | (go_simp; done) | (go_simp; with_reducible rfl)))
        simp only [Act.put, List.setIfInBounds_toArray, List.set_cons_zero, List.set_cons_succ]
        refine mix_take (v := ?_) 13 rfl (by decide) (by kernel_rfl) (by kernel_rfl) (fun _ _ _ h => h) hS rfl ?_ ?_
        rotate_left
        · (intro w' hw'; first | (go_simp; done) | (go_simp; with_reducible rfl) | (obtain ⟨g1, g2, g3⟩ := hw'.out; first | (go_simp; done) | (go_simp; with_reducible rfl)))
        simp only [Act.put, List.setIfInBounds_toArray, List.set_cons_zero, List.set_cons_succ]
        refine mix_done (by kernel_rfl) ?_
        simp only [List.drop_succ_cons, List.drop_zero]
        have hd10 := hd9.later (below_drew wx)
        have hf10 := hd10.fz 5
        have hg10 := hd10.g5
        have hpre := IsB_pre hd10.b1 (m := x) (c := x) (by omega) (Nat.le_refl _) (by omega)
        have hd11 : DD ((wx.setCell ⟨b, 5, none⟩ (.slice a1 x x)).drew) b _ _ _ _ _ _ _ := hd10.f1 hpre (fun ad had h0 => hd10.ne1 ad had (by omega))
        have hg11 : wr.grownBy ((wx.setCell ⟨b, 5, none⟩ (.slice a1 x x)).drew) (some b) := grown_trans hgx (grown_trans (grown_set _ _ _ _) (grown_of_below (below_drew _)))
        go_wp2_with fail
        go_roundw
        case rel =>
          refine ⟨2, by omega, rfl, ?_, grown_cell hg11 hq0 (by omega), grown_cell hg11 hq1 (by omega), grown_trans hg hg11⟩
          have h12 := hd11.isD
          simp only [show ¬ ((2 : Nat) = 0) from by decide, show ¬ ((2 : Nat) = 1) from by decide, if_false]
          rw [HS.out]
          unfold DS.crashF
          rw [HK.out]
          exact h12
        case measure => simp [intOf]
      · have hy : (l1 : Int) - (s1.n1 : Int) ≤ k1 := by omega
        have hw2 : IntKind.i64.wrap ((s1.n1 : Int) + ((l1 : Int) - (s1.n1 : Int))) = (s1.n1 : Int) + ((l1 : Int) - (s1.n1 : Int)) := Go.IntWalk.i64_in _ (by omega)
        have hx0 : 0 ≤ (s1.n1 : Int) + ((l1 : Int) - (s1.n1 : Int)) := by omega
        have hxc : (s1.n1 : Int) + ((l1 : Int) - (s1.n1 : Int)) ≤ (c1 : Int) := by omega
        go_wp2_with fail
        refine mix_begin 19 (Held fun w' => w'.cell? ⟨w.heap.size, 1, none⟩ = some (.int .i64 k1) ∧ w'.cell? ⟨b, 5, none⟩ = some (.slice a1 l1 c1) ∧ w'.cell? ⟨b, 6, none⟩ = some (.int .i64 (s1.n1 : Int)) ∧ Below wr.heap.size wr w') (by kernel_rfl) (by kernel_rfl) (Held.mk ⟨hq1, hd.g5, hd.g6, below_drew _⟩) (fun hS => ?_)
        refine mix_take (v := ?_) 0 rfl (by decide) (by kernel_rfl) (by kernel_rfl) (fun _ _ _ h => h) hS rfl ?_ ?_
        rotate_left
        · (intro w' hw'; first | (go_simp; done) | (go_simp; with_reducible rfl) | (obtain ⟨g1, g2, g3, g4⟩ := hw'.out; first | (go_simp; done) | (go_simp; with_reducible rfl)))
        simp only [Act.put, List.setIfInBounds_toArray, List.set_cons_zero, List.set_cons_succ]
        refine mix_take (v := ?_) 1 rfl (by decide) (by kernel_rfl) (by kernel_rfl) (fun _ _ _ h => h) hS rfl ?_ ?_
        rotate_left
        · (intro w' hw'; first | (go_simp; done) | (go_simp; with_reducible rfl) | (obtain ⟨g1, g2, g3, g4⟩ := hw'.out; first | (go_simp; done) | (go_simp; with_reducible rfl)))
        simp only [Act.put, List.setIfInBounds_toArray, List.set_cons_zero, List.set_cons_succ]
        refine mix_take (v := ?_) 2 rfl (by decide) (by kernel_rfl) (by kernel_rfl) (fun _ _ _ h => h) hS rfl ?_ ?_
        rotate_left
        · (intro w' hw'; first | (go_simp; done) | (go_simp; with_reducible rfl) | (obtain ⟨g1, g2, g3, g4⟩ := hw'.out; first | (go_simp; done) | (go_simp; with_reducible rfl)))
        simp only [Act.put, List.setIfInBounds_toArray, List.set_cons_zero, List.set_cons_succ]
        refine mix_take (v := ?_) 3 rfl (by decide) (by kernel_rfl) (by kernel_rfl) (fun _ _ _ h => h) hS rfl ?_ ?_
        rotate_left
        · (intro w' hw'; first | (go_simp; done) | (go_simp; with_reducible rfl) | (obtain ⟨g1, g2, g3, g4⟩ := hw'.out; first | (go_simp; done) | (go_simp; with_reducible rfl)))
        simp only [Act.put, List.setIfInBounds_toArray, List.set_cons_zero, List.set_cons_succ]
        refine mix_take (v := ?_) 4 rfl (by decide) (by kernel_rfl) (by kernel_rfl) (fun _ _ _ h => h) hS rfl ?_ ?_
        rotate_left
        · (intro w' hw'; first | (go_simp; done) | (go_simp; with_reducible rfl) | (obtain ⟨g1, g2, g3, g4⟩ := hw'.out; first | (go_simp; done) | (go_simp; with_reducible rfl)))
        simp only [Act.put, List.setIfInBounds_toArray, List.set_cons_zero, List.set_cons_succ]
        refine mix_take (v := ?_) 5 rfl (by decide) (by kernel_rfl) (by kernel_rfl) (fun _ _ _ h => h) hS rfl ?_ ?_
        rotate_left
        · (intro w' hw'; first | (go_simp; done) | (go_simp; with_reducible rfl) | (obtain ⟨g1, g2, g3, g4⟩ := hw'.out; first | (go_simp; done) | (go_simp; with_reducible rfl)))
        simp only [Act.put, List.setIfInBounds_toArray, List.set_cons_zero, List.set_cons_succ]
        refine mix_take (v := ?_) 6 rfl (by decide) (by kernel_rfl) (by kernel_rfl) (fun _ _ _ h => h) hS rfl ?_ ?_
        rotate_left
        · (intro w' hw'; first | (go_simp; done) | (go_simp; with_reducible rfl) | (obtain ⟨g1, g2, g3, g4⟩ := hw'.out; first | (go_simp; done) | (go_simp; with_reducible rfl)))
        simp only [Act.put, List.setIfInBounds_toArray, List.set_cons_zero, List.set_cons_succ]
        refine mix_take (v := ?_) 7 rfl (by decide) (by kernel_rfl) (by kernel_rfl) (fun _ _ _ h => h) hS rfl ?_ ?_
        rotate_left
        · (intro w' hw'; first | (go_simp; done) | (go_simp; with_reducible rfl) | (obtain ⟨g1, g2, g3, g4⟩ := hw'.out; first | (go_simp; done) | (go_simp; with_reducible rfl)))
        simp only [Act.put, List.setIfInBounds_toArray, List.set_cons_zero, List.set_cons_succ]
        refine mix_take (v := ?_) 8 rfl (by decide) (by kernel_rfl) (by kernel_rfl) (fun _ _ _ h => h) hS rfl ?_ ?_
        rotate_left
        · (intro w' hw'; first | (go_simp; done) | (go_simp; with_reducible rfl) | (obtain ⟨g1, g2, g3, g4⟩ := hw'.out; first | (go_simp; done) | (go_simp; with_reducible rfl)))
        simp only [Act.put, List.setIfInBounds_toArray, List.set_cons_zero, List.set_cons_succ]
        refine mix_take (v := ?_) 9 rfl (by decide) (by kernel_rfl) (by kernel_rfl) (fun _ _ _ h => h) hS rfl ?_ ?_
        rotate_left
        · (intro w' hw'; first | (go_simp; done) | (go_simp; with_reducible rfl) | (obtain ⟨g1, g2, g3, g4⟩ := hw'.out; first | (go_simp; done) | (go_simp; with_reducible rfl)))
        simp only [Act.put, List.setIfInBounds_toArray, List.set_cons_zero, List.set_cons_succ]
        refine mix_take (v := ?_) 10 rfl (by decide) (by kernel_rfl) (by kernel_rfl) (fun _ _ _ h => h) hS rfl ?_ ?_
        rotate_left
        · (intro w' hw'; first | (go_simp; done) | (go_simp; with_reducible rfl) | (obtain ⟨g1, g2, g3, g4⟩ := hw'.out; first | (go_simp; done) | (go_simp; with_reducible rfl)))
        simp only [Act.put, List.setIfInBounds_toArray, List.set_cons_zero, List.set_cons_succ]
        refine mix_take (v := ?_) 11 rfl (by decide) (by kernel_rfl) (by kernel_rfl) (fun _ _ _ h => h) hS rfl ?_ ?_
        rotate_left
        · (intro w' hw'; first | (go_simp; done) | (go_simp; with_reducible rfl) | (obtain ⟨g1, g2, g3, g4⟩ := hw'.out; first | (go_simp; done) | (go_simp; with_reducible rfl)))
        simp only [Act.put, List.setIfInBounds_toArray, List.set_cons_zero, List.set_cons_succ]
        refine mix_take (v := ?_) 12 rfl (by decide) (by kernel_rfl) (by kernel_rfl) (fun _ _ _ h => h) hS rfl ?_ ?_
        rotate_left
        · (intro w' hw'; first | (go_simp; done) | (go_simp; with_reducible rfl) | (obtain ⟨g1, g2, g3, g4⟩ := hw'.out; first | (go_simp; done) | (go_simp; with_reducible rfl)))
        simp only [Act.put, List.setIfInBounds_toArray, List.set_cons_zero, List.set_cons_succ]
        refine mix_take (v := ?_) 13 rfl (by decide) (by kernel_rfl) (by kernel_rfl) (fun _ _ _ h => h) hS rfl ?_ ?_
        rotate_left
        · (intro w' hw'; first | (go_simp; done) | (go_simp; with_reducible rfl) | (obtain ⟨g1, g2, g3, g4⟩ := hw'.out; first | (go_simp; done) | (go_simp; with_reducible rfl)))
        simp only [Act.put, List.setIfInBounds_toArray, List.set_cons_zero, List.set_cons_succ]
        refine mix_take (v := ?_) 14 rfl (by decide) (by kernel_rfl) (by kernel_rfl) (fun _ _ _ h => h) hS rfl ?_ ?_
        rotate_left
        · (intro w' hw'; first | (go_simp; done) | (go_simp; with_reducible rfl) | (obtain ⟨g1, g2, g3, g4⟩ := hw'.out; first | (go_simp; done) | (go_simp; with_reducible rfl)))
        simp only [Act.put, List.setIfInBounds_toArray, List.set_cons_zero, List.set_cons_succ]
        refine mix_take (v := ?_) 15 rfl (by decide) (by kernel_rfl) (by kernel_rfl) (fun _ _ _ h => h) hS rfl ?_ ?_
        rotate_left
        · (intro w' hw'; first | (go_simp; done) | (go_simp; with_reducible rfl) | (obtain ⟨g1, g2, g3, g4⟩ := hw'.out; first | (go_simp; done) | (go_simp; with_reducible rfl)))
        simp only [Act.put, List.setIfInBounds_toArray, List.set_cons_zero, List.set_cons_succ]
        refine mix_take (v := ?_) 16 rfl (by decide) (by kernel_rfl) (by kernel_rfl) (fun _ _ _ h => h) hS rfl ?_ ?_
        rotate_left
        · (intro w' hw'; first | (go_simp; done) | (go_simp; with_reducible rfl) | (obtain ⟨g1, g2, g3, g4⟩ := hw'.out; first | (go_simp; done) | (go_simp; with_reducible rfl)))
        simp only [Act.put, List.setIfInBounds_toArray, List.set_cons_zero, List.set_cons_succ]
        refine mix_take (v := ?_) 17 rfl (by decide) (by kernel_rfl) (by kernel_rfl) (fun _ _ _ h => h) hS rfl ?_ ?_
        rotate_left
        · (intro w' hw'; first | (go_simp; done) | (go_simp; with_reducible rfl) | (obtain ⟨g1, g2, g3, g4⟩ := hw'.out; first | (go_simp; done) | (go_simp; with_reducible rfl)))
        simp only [Act.put, List.setIfInBounds_toArray, List.set_cons_zero, List.set_cons_succ]
        refine mix_take (v := ?_) 18 rfl (by decide) (by kernel_rfl) (by kernel_rfl) (fun _ _ _ h => h) hS rfl ?_ ?_
        rotate_left
        · (intro w' hw'; first | (go_simp; done) | (go_simp; with_reducible rfl) | (obtain ⟨g1, g2, g3, g4⟩ := hw'.out; first | (go_simp; done) | (go_simp; with_reducible rfl)))
        simp only [Act.put, List.setIfInBounds_toArray, List.set_cons_zero, List.set_cons_succ]
        refine mix_done (by kernel_rfl) ?_
        simp only [List.drop_succ_cons, List.drop_zero]
        have hd8 := hd.later (below_drew wr)
        have hf8 := hd8.fz 6
        have hg8 := hd8.g6
        go_wp2_with fail
        obtain ⟨x, hx⟩ : ∃ x : Nat, (s1.n1 : Int) + ((l1 : Int) - (s1.n1 : Int)) = (x : Int) := ⟨((s1.n1 : Int) + ((l1 : Int) - (s1.n1 : Int))).toNat, by omega⟩
        have hxl : x ≤ l1 := by omega
        have hkept : s1.kept 1 k1 = x := by
          have h1 := HL.out
          show s1.n1 + min k1.toNat (s1.f1.length - s1.n1) = x
          omega
        rw [hx] at hxc ⊢
        have hd9 : DD ((wr.setCell ⟨b, 6, none⟩ (.int .i64 (x : Int))).drew) b _ _ _ _ _ _ _ := hd8.n1 x
        obtain ⟨wx, hwx⟩ : ∃ wx, (wr.setCell ⟨b, 6, none⟩ (.int .i64 (x : Int))).drew = wx := ⟨_, rfl⟩
        have hgx : wr.grownBy wx (some b) := by rw [← hwx]; exact grown_trans (grown_set _ _ _ _) (grown_of_below (below_drew _))
        rw [hwx] at hd9 ⊢
        clear hwx hx hd8 hf8 hg8 hw2 hx0
        have HK := Lib.hid hkept; clear hkept
        have hq9 : wx.cell? ⟨b, 6, none⟩ = some (.int .i64 (x : Int)) := hd9.g6
        have hx0 : (0 : Int) ≤ (x : Int) := by omega
        refine mix_begin 14 (Held fun w' => w'.cell? ⟨b, 5, none⟩ = some (.slice a1 l1 c1) ∧ w'.cell? ⟨b, 6, none⟩ = some (.int .i64 (x : Int)) ∧ Below wx.heap.size wx w') (by kernel_rfl) (by kernel_rfl) (Held.mk ⟨hd9.g5, hq9, below_drew _⟩) (fun hS => ?_)
        refine mix_take (v := ?_) 0 rfl (by decide) (by kernel_rfl) (by kernel_rfl) (fun _ _ _ h => h) hS rfl ?_ ?_
        rotate_left
        · (intro w' hw'; first | (go_simp; done) | (go_simp; with_reducible rfl) | (obtain ⟨g1, g2, g3⟩ := hw'.out; first | (go_simp; done) | (go_simp; with_reducible rfl)))
        simp only [Act.put, List.setIfInBounds_toArray, List.set_cons_zero, List.set_cons_succ]
        refine mix_take (v := ?_) 1 rfl (by decide) (by kernel_rfl) (by kernel_rfl) (fun _ _ _ h => h) hS rfl ?_ ?_
        rotate_left
        · (intro w' hw'; first | (go_simp; done) | (go_simp; with_reducible rfl) | (obtain ⟨g1, g2, g3⟩ := hw'.out; first | (go_simp; done) | (go_simp; with_reducible rfl)))
        simp only [Act.put, List.setIfInBounds_toArray, List.set_cons_zero, List.set_cons_succ]
        refine mix_take (v := ?_) 2 rfl (by decide) (by kernel_rfl) (by kernel_rfl) (fun _ _ _ h => h) hS rfl ?_ ?_
        rotate_left
        · (intro w' hw'; first | (go_simp; done) | (go_simp; with_reducible rfl) | (obtain ⟨g1, g2, g3⟩ := hw'.out; first | (go_simp; done) | (go_simp; with_reducible rfl)))
        simp only [Act.put, List.setIfInBounds_toArray, List.set_cons_zero, List.set_cons_succ]
        refine mix_take (v := ?_) 3 rfl (by decide) (by kernel_rfl) (by kernel_rfl) (fun _ _ _ h => h) hS rfl ?_ ?_
        rotate_left
        · (intro w' hw'; first | (go_simp; done) | (go_simp; with_reducible rfl) | (obtain ⟨g1, g2, g3⟩ := hw'.out; first | (go_simp; done) | (go_simp; with_reducible rfl)))
        simp only [Act.put, List.setIfInBounds_toArray, List.set_cons_zero, List.set_cons_succ]
        refine mix_take (v := ?_) 4 rfl (by decide) (by kernel_rfl) (by kernel_rfl) (fun _ _ _ h => h) hS rfl ?_ ?_
        rotate_left
        · (intro w' hw'; first | (go_simp; done) | (go_simp; with_reducible rfl) | (obtain ⟨g1, g2, g3⟩ := hw'.out; first | (go_simp; done) | (go_simp; with_reducible rfl)))
        simp only [Act.put, List.setIfInBounds_toArray, List.set_cons_zero, List.set_cons_succ]
        refine mix_take (v := ?_) 5 rfl (by decide) (by kernel_rfl) (by kernel_rfl) (fun _ _ _ h => h) hS rfl ?_ ?_
        rotate_left
        · (intro w' hw'; first | (go_simp; done) | (go_simp; with_reducible rfl) | (obtain ⟨g1, g2, g3⟩ := hw'.out; first | (go_simp; done) | (go_simp; with_reducible rfl)))
        simp only [Act.put, List.setIfInBounds_toArray, List.set_cons_zero, List.set_cons_succ]
        refine mix_take (v := ?_) 6 rfl (by decide) (by kernel_rfl) (by kernel_rfl) (fun _ _ _ h => h) hS rfl ?_ ?_
        rotate_left
        · (intro w' hw'; first | (go_simp; done) | (go_simp; with_reducible rfl) | (obtain ⟨g1, g2, g3⟩ := hw'.out; first | (go_simp; done) | (go_simp; with_reducible rfl)))
        simp only [Act.put, List.setIfInBounds_toArray, List.set_cons_zero, List.set_cons_succ]
        refine mix_take (v := ?_) 7 rfl (by decide) (by kernel_rfl) (by kernel_rfl) (fun _ _ _ h => h) hS rfl ?_ ?_
        rotate_left
        · (intro w' hw'; first | (go_simp; done) | (go_simp; with_reducible rfl) | (obtain ⟨g1, g2, g3⟩ := hw'.out; first | (go_simp; done) | (go_simp; with_reducible rfl)))
        simp only [Act.put, List.setIfInBounds_toArray, List.set_cons_zero, List.set_cons_succ]
        refine mix_take (v := ?_) 8 rfl (by decide) (by kernel_rfl) (by kernel_rfl) (fun _ _ _ h => h) hS rfl ?_ ?_
        rotate_left
        · (intro w' hw'; first | (go_simp; done) | (go_simp; with_reducible rfl) | (obtain ⟨g1, g2, g3⟩ := hw'.out; first | (go_simp; done) | (go_simp; with_reducible rfl)))
        simp only [Act.put, List.setIfInBounds_toArray, List.set_cons_zero, List.set_cons_succ]
        refine mix_take (v := ?_) 9 rfl (by decide) (by kernel_rfl) (by kernel_rfl) (fun _ _ _ h => h) hS rfl ?_ ?_
        rotate_left
        · (intro w' hw'; first | (go_simp; done) | (go_simp; with_reducible rfl) | (obtain ⟨g1, g2, g3⟩ := hw'.out; first | (go_simp; done) | (go_simp; with_reducible rfl)))
        simp only [Act.put, List.setIfInBounds_toArray, List.set_cons_zero, List.set_cons_succ]
        refine mix_take (v := ?_) 10 rfl (by decide) (by kernel_rfl) (by kernel_rfl) (fun _ _ _ h => h) hS rfl ?_ ?_
        rotate_left
        · (intro w' hw'; first | (go_simp; done) | (go_simp; with_reducible rfl) | (obtain ⟨g1, g2, g3⟩ := hw'.out; first | (go_simp; done) | (go_simp; with_reducible rfl)))
        simp only [Act.put, List.setIfInBounds_toArray, List.set_cons_zero, List.set_cons_succ]
        refine mix_take (v := ?_) 11 rfl (by decide) (by kernel_rfl) (by kernel_rfl) (fun _ _ _ h => h) hS rfl ?_ ?_
        rotate_left
        · (intro w' hw'; first | (go_simp; done) | (go_simp; with_reducible rfl) | (obtain ⟨g1, g2, g3⟩ := hw'.out; first | (go_simp; done) | (go_simp; with_reducible rfl)))
        simp only [Act.put, List.setIfInBounds_toArray, List.set_cons_zero, List.set_cons_succ]
        refine mix_take (v := ?_) 12 rfl (by decide) (by kernel_rfl) (by kernel_rfl) (fun _ _ _ h => h) hS rfl ?_ ?_
        rotate_left
        · (intro w' hw'; first | (go_simp; done) | (go_simp; with_reducible rfl) | (obtain ⟨g1, g2, g3⟩ := hw'.out; first | (go_simp; done) | (go_simp; with_reducible rfl)))
        simp only [Act.put, List.setIfInBounds_toArray, List.set_cons_zero, List.set_cons_succ]
        refine mix_take (v := ?_) 13 rfl (by decide) (by kernel_rfl) (by kernel_rfl) (fun _ _ _ h => h) hS rfl ?_ ?_
        rotate_left
        · (intro w' hw'; first | (go_simp; done) | (go_simp; with_reducible rfl) | (obtain ⟨g1, g2, g3⟩ := hw'.out; first | (go_simp; done) | (go_simp; with_reducible rfl)))
        simp only [Act.put, List.setIfInBounds_toArray, List.set_cons_zero, List.set_cons_succ]
        refine mix_done (by kernel_rfl) ?_
        simp only [List.drop_succ_cons, List.drop_zero]
        have hd10 := hd9.later (below_drew wx)
        have hf10 := hd10.fz 5
        have hg10 := hd10.g5
        have hpre := IsB_pre hd10.b1 (m := x) (c := x) (by omega) (Nat.le_refl _) (by omega)
        have hd11 : DD ((wx.setCell ⟨b, 5, none⟩ (.slice a1 x x)).drew) b _ _ _ _ _ _ _ := hd10.f1 hpre (fun ad had h0 => hd10.ne1 ad had (by omega))
        have hg11 : wr.grownBy ((wx.setCell ⟨b, 5, none⟩ (.slice a1 x x)).drew) (some b) := grown_trans hgx (grown_trans (grown_set _ _ _ _) (grown_of_below (below_drew _)))
        go_wp2_with fail
        go_roundw
        case rel =>
          refine ⟨2, by omega, rfl, ?_, grown_cell hg11 hq0 (by omega), grown_cell hg11 hq1 (by omega), grown_trans hg hg11⟩
          have h12 := hd11.isD
          simp only [show ¬ ((2 : Nat) = 0) from by decide, show ¬ ((2 : Nat) = 1) from by decide, if_false]
          rw [HS.out]
          unfold DS.crashF
          rw [HK.out]
          exact h12
        case measure => simp [intOf]
    · simp only [show ¬ ((2 : Nat) = 0) from by decide, show ¬ ((2 : Nat) = 1) from by decide, if_false] at hd
      have hcr : s.crash k0 k1 = ({ (s.crashF 0 k0).crashF 1 k1 with left := -1 }, 0) := by
        unfold DS.crash
        rw [if_neg (by omega)]
      have HC := Lib.hid hcr; clear hcr
      obtain ⟨s2, hs2⟩ : ∃ s2, (s.crashF 0 k0).crashF 1 k1 = s2 := ⟨_, rfl⟩
      rw [hs2] at hd
      have HS := Lib.hid hs2; clear hs2
      obtain ⟨a0, l0, c0, a1, l1, c1, hd⟩ := hd
      have hg2 := hd.g2
      have hf2 := hd.fz 2
      go_wp2_with fail
      go_ret
      refine ⟨rfl, ?_, grown_trans hg (grown_set _ _ _ _)⟩
      rw [HC.out, HS.out]
      exact (hd.left (-1)).isD
end Go.Proofs.Ytknndpncdnhnpaa
