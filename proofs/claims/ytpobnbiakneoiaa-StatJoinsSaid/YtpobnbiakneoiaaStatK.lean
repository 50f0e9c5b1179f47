import Derived.Test.YtpobnbiakneoiaaStatJ
namespace Go.Proofs.Ytpobnbiakneoiaa
open Go.RowKit Go.Cas
set_option linter.unusedSimpArgs false
set_option linter.unusedVariables false
attribute [local go_sem] Oper.semAt_some

theorem eqIn_st (a0 a2 a3 : Int) (a1 : Bool) (w : World) : (Op.equalIn 10000 77 (.agg #[.int .i64 a0, .bool a1, .int .i64 a2, .int .i64 a3]) (.agg #[.int .i64 a0, .bool a1, .int .i64 a2, .int .i64 a3])).run Try.prog w = .ok true w := by
  have hp : Try.prog.stoodInHeld 77 = false := by kernel_rfl
  go_simp
set_option maxRecDepth 100000 in
set_option maxHeartbeats 1000000 in
theorem sameSt_c (a a' : Option Addr) (n cap cap' : Nat) (l : List St) (hn : n ≤ 2 ^ 40) (w : World) (h : IsSt w a n cap l) (h' : IsSt w a' n cap' l) :
    Calls Try.prog 9 #[.slice a n cap, .slice a' n cap'] w fun e w' => e = .returned (.bool true) ∧ Below w.heap.size w w' := by
  have HL := Lib.hid h.2
  go_enter Try.func9, Try.ntmps9
  go_wp2_with fail
  go_loopw [5] (fun i wr => ∃ k : Nat, k ≤ n ∧ i = .int .i64 (k : Int) ∧ Below w.heap.size w wr) (fun i _ => n - (intOf i).toNat)
  case atStart => exact ⟨0, by omega, rfl, Below.refl _ _⟩
  case round =>
    obtain ⟨k, hk, rfl, hb⟩ := hrel
    by_cases hlt : k < n
    · have hkl : k < l.length := by have := HL.out; omega
      obtain ⟨b, off, rfl, hbl⟩ := h.1.some_of_lt (by have := h.1.le; omega)
      obtain ⟨b', off', rfl, hbl'⟩ := h'.1.some_of_lt (by have := h'.1.le; omega)
      obtain ⟨c0, c1, c2, c3⟩ := (h.later hb).cells hkl
      obtain ⟨d0, d1, d2, d3⟩ := (h'.later hb).cells hkl
      generalize l[k] = s at *
      have he := eqIn_st s.over s.mode s.prio s.pend
      go_wp2_with fail
      refine mix_begin 9 (Held fun w' => w'.cell? ⟨b, off + k * 4, none⟩ = some (.int .i64 s.over) ∧ w'.cell? ⟨b, off + k * 4 + 1, none⟩ = some (.bool s.pend) ∧ w'.cell? ⟨b, off + k * 4 + 2, none⟩ = some (.int .i64 s.mode) ∧ w'.cell? ⟨b, off + k * 4 + 3, none⟩ = some (.int .i64 s.prio) ∧ w'.cell? ⟨b', off' + k * 4, none⟩ = some (.int .i64 s.over) ∧ w'.cell? ⟨b', off' + k * 4 + 1, none⟩ = some (.bool s.pend) ∧ w'.cell? ⟨b', off' + k * 4 + 2, none⟩ = some (.int .i64 s.mode) ∧ w'.cell? ⟨b', off' + k * 4 + 3, none⟩ = some (.int .i64 s.prio)) (by kernel_rfl) (by kernel_rfl) (Held.mk ⟨c0, c1, c2, c3, d0, d1, d2, d3⟩) (fun hS => ?_)
      refine mix_take (v := ?_) 0 rfl (by decide) (by kernel_rfl) (by kernel_rfl) (fun _ _ _ h => h) hS rfl ?_ ?_
      rotate_left
      · (intro w' hw'; first | (go_simp; done) | (go_simp; with_reducible rfl) | (obtain ⟨g0, g1, g2, g3, g4, g5, g6, g7⟩ := hw'.out; first | (go_simp; done) | (go_simp; with_reducible rfl)))
      simp only [Act.put, List.setIfInBounds_toArray, List.set_cons_zero, List.set_cons_succ]
      refine mix_take (v := ?_) 1 rfl (by decide) (by kernel_rfl) (by kernel_rfl) (fun _ _ _ h => h) hS rfl ?_ ?_
      rotate_left
      · (intro w' hw'; first | (go_simp; done) | (go_simp; with_reducible rfl) | (obtain ⟨g0, g1, g2, g3, g4, g5, g6, g7⟩ := hw'.out; first | (go_simp; done) | (go_simp; with_reducible rfl)))
      simp only [Act.put, List.setIfInBounds_toArray, List.set_cons_zero, List.set_cons_succ]
      refine mix_take (v := ?_) 2 rfl (by decide) (by kernel_rfl) (by kernel_rfl) (fun _ _ _ h => h) hS rfl ?_ ?_
      rotate_left
      · (intro w' hw'; first | (go_simp; done) | (go_simp; with_reducible rfl) | (obtain ⟨g0, g1, g2, g3, g4, g5, g6, g7⟩ := hw'.out; first | (go_simp; done) | (go_simp; with_reducible rfl)))
      simp only [Act.put, List.setIfInBounds_toArray, List.set_cons_zero, List.set_cons_succ]
      refine mix_take (v := ?_) 3 rfl (by decide) (by kernel_rfl) (by kernel_rfl) (fun _ _ _ h => h) hS rfl ?_ ?_
      rotate_left
      · (intro w' hw'; first | (go_simp; done) | (go_simp; with_reducible rfl) | (obtain ⟨g0, g1, g2, g3, g4, g5, g6, g7⟩ := hw'.out; first | (go_simp; done) | (go_simp; with_reducible rfl)))
      simp only [Act.put, List.setIfInBounds_toArray, List.set_cons_zero, List.set_cons_succ]
      refine mix_take (v := ?_) 4 rfl (by decide) (by kernel_rfl) (by kernel_rfl) (fun _ _ _ h => h) hS rfl ?_ ?_
      rotate_left
      · (intro w' hw'; first | (go_simp; done) | (go_simp; with_reducible rfl) | (obtain ⟨g0, g1, g2, g3, g4, g5, g6, g7⟩ := hw'.out; first | (go_simp; done) | (go_simp; with_reducible rfl)))
      simp only [Act.put, List.setIfInBounds_toArray, List.set_cons_zero, List.set_cons_succ]
      refine mix_take (v := ?_) 5 rfl (by decide) (by kernel_rfl) (by kernel_rfl) (fun _ _ _ h => h) hS rfl ?_ ?_
      rotate_left
      · (intro w' hw'; first | (go_simp; done) | (go_simp; with_reducible rfl) | (obtain ⟨g0, g1, g2, g3, g4, g5, g6, g7⟩ := hw'.out; first | (go_simp; done) | (go_simp; with_reducible rfl)))
      simp only [Act.put, List.setIfInBounds_toArray, List.set_cons_zero, List.set_cons_succ]
      refine mix_take (v := ?_) 6 rfl (by decide) (by kernel_rfl) (by kernel_rfl) (fun _ _ _ h => h) hS rfl ?_ ?_
      rotate_left
      · (intro w' hw'; first | (go_simp; done) | (go_simp; with_reducible rfl) | (obtain ⟨g0, g1, g2, g3, g4, g5, g6, g7⟩ := hw'.out; first | (go_simp; done) | (go_simp; with_reducible rfl)))
      simp only [Act.put, List.setIfInBounds_toArray, List.set_cons_zero, List.set_cons_succ]
      refine mix_take (v := ?_) 7 rfl (by decide) (by kernel_rfl) (by kernel_rfl) (fun _ _ _ h => h) hS rfl ?_ ?_
      rotate_left
      · (intro w' hw'; first | (go_simp; done) | (go_simp; with_reducible rfl) | (obtain ⟨g0, g1, g2, g3, g4, g5, g6, g7⟩ := hw'.out; first | (go_simp; done) | (go_simp; with_reducible rfl)))
      simp only [Act.put, List.setIfInBounds_toArray, List.set_cons_zero, List.set_cons_succ]
      refine mix_take (v := ?_) 8 rfl (by decide) (by kernel_rfl) (by kernel_rfl) (fun _ _ _ h => h) hS rfl ?_ ?_
      rotate_left
      · (intro w' hw'; first | (go_simp; done) | (go_simp; with_reducible rfl) | (obtain ⟨g0, g1, g2, g3, g4, g5, g6, g7⟩ := hw'.out; first | (go_simp; done) | (go_simp; with_reducible rfl)))
      simp only [Act.put, List.setIfInBounds_toArray, List.set_cons_zero, List.set_cons_succ]
      refine mix_done (by kernel_rfl) ?_
      simp only [List.drop_succ_cons, List.drop_zero]
      clear hS c0 c1 c2 c3 d0 d1 d2 d3
      go_wp2_with fail
      exact ⟨⟨k + 1, by omega, by go_num, hb.drew⟩, by simp [intOf]; omega⟩
    · obtain rfl : k = n := by omega
      go_wp2_with fail
      go_ret
      exact ⟨rfl, hb⟩
set_option maxRecDepth 100000 in
set_option maxHeartbeats 1000000 in
theorem learn_rng (x y z : Int) (a : Option Addr) (n cap : Nat) (l : List St) (at' : Int) (s : St) (hn : n ≤ 2 ^ 40) (w : World) (h : IsSt w a n cap l) (hok : okList x y z l = true) (hs : okSt s = true) (hat : (n : Int) ≤ at') :
    Calls Try.prog 31 #[.agg #[.int .i64 x, .int .i64 y, .int .i64 z], .slice a n cap, .int .i64 at', .agg #[.int .i64 s.over, .bool s.pend, .int .i64 s.mode, .int .i64 s.prio]] w fun e w' =>
      e = .returned (.tuple #[.slice none 0 0, .bool false, .int .i64 4]) ∧ Below w.heap.size w w' := by
  have hr := fun W hW => right_c x y z a n cap l hn W hW
  rw [hok] at hr
  have hck := check_c s
  rw [show errSt s = 0 from by unfold errSt; rw [hs]; rfl] at hck
  have hbu := build_su
  have hbA := below_alloc w (.cells #[.int .i64 x, .int .i64 y, .int .i64 z] 23)
  have hbB := below_alloc (w.alloc (.cells #[.int .i64 x, .int .i64 y, .int .i64 z] 23)) (.cells #[.int .i64 s.over, .bool s.pend, .int .i64 s.mode, .int .i64 s.prio] 77)
  have hb0 := below_then hbA hbB
  have hnew := heap_alloc_new (w.alloc (.cells #[.int .i64 x, .int .i64 y, .int .i64 z] 23)) (.cells #[.int .i64 s.over, .bool s.pend, .int .i64 s.mode, .int .i64 s.prio] 77)
  have HR := Lib.hid (hr _ (h.later hb0))
  rw [World.size_alloc] at hnew
  clear hr hok hs h hbA hbB
  have HNEW := Lib.hid hnew
  clear hnew
  go_enter Try.func31, Try.ntmps31
  go_wp2_with fail
  refine wp_scope_ahead 0 (fun a1 w1 => ∃ T : Array Value, T.size = 48 ∧ T[10]? = some (.int .i64 4) ∧ a1 = { tmps := T, defers := [] } ∧ Below w.heap.size w w1) rfl ?_ ?_
  · go_wp2_with fail
    refine HR.out.mono ?_
    rintro e w1 ⟨rfl, hb1⟩
    have n0 := below_cell hb1 (row_cell HNEW.out 0 rfl)
    have n1 := below_cell hb1 (row_cell HNEW.out 1 rfl)
    have n2 := below_cell hb1 (row_cell HNEW.out 2 rfl)
    have n3 := below_cell hb1 (row_cell HNEW.out 3 rfl)
    go_wp2_with fail
    refine (hck _).mono ?_
    rintro e w2 ⟨rfl, hb2⟩
    have hlt : ¬ at' < 0 := by omega
    go_wp2_with fail
    go_step3
    simp only [Exit.then]
    exact ⟨rfl, _, by rfl, by rfl, rfl, below_then (below_then hb0 hb1) hb2⟩
  · rintro a1 w1 ⟨T, hT, h4, rfl, hb⟩
    obtain ⟨l⟩ := T
    match l, hT, h4 with
    | t0 :: t1 :: t2 :: t3 :: t4 :: t5 :: t6 :: t7 :: t8 :: t9 :: t10 :: t11 :: t12 :: t13 :: t14 :: t15 :: t16 :: t17 :: t18 :: t19 :: t20 :: t21 :: t22 :: t23 :: t24 :: t25 :: t26 :: t27 :: t28 :: t29 :: t30 :: t31 :: t32 :: t33 :: t34 :: t35 :: t36 :: t37 :: t38 :: t39 :: t40 :: t41 :: t42 :: t43 :: t44 :: t45 :: t46 :: t47 :: [], _, h4 =>
      obtain rfl : t10 = .int .i64 4 := by simpa using h4
      clear h4
      go_wp2_with fail
      simp only [jump_ret]
      go_ret3
      exact ⟨by rfl, hb⟩
end Go.Proofs.Ytpobnbiakneoiaa
