import Derived.Test.YtpobnbiakneoiaaStatK
namespace Go.Proofs.Ytpobnbiakneoiaa
open Go.RowKit Go.Cas
set_option linter.unusedSimpArgs false
set_option linter.unusedVariables false
attribute [local go_sem] Oper.semAt_some

theorem bld_a (w : World) : (Instr.build 77 #[(0, .int .i64 2), (1, .bool true), (2, .int .i64 3)]).run Try.prog w = .ok (.agg #[.int .i64 2, .bool true, .int .i64 3, .int .i64 0]) w := by kernel_rfl
theorem bld_b (w : World) (x : Int) : (Instr.build 77 #[(0, .int .i64 x)]).run Try.prog w = .ok (.agg #[.int .i64 x, .bool false, .int .i64 0, .int .i64 0]) w := by kernel_rfl
theorem bld_c (w : World) : (Instr.build 77 #[(0, .int .i64 2), (2, .int .i64 3)]).run Try.prog w = .ok (.agg #[.int .i64 2, .bool false, .int .i64 3, .int .i64 0]) w := by kernel_rfl
theorem bld_s (w : World) : (Instr.build 23 #[(0, .int .i64 2), (1, .int .i64 1), (2, .int .i64 1)]).run Try.prog w = .ok (.agg #[.int .i64 2, .int .i64 1, .int .i64 1]) w := by kernel_rfl
set_option maxRecDepth 100000 in
set_option maxHeartbeats 2000000 in
theorem works14_c (w : World) : Calls Try.prog 6 #[] w fun e w' => e = .returned (.bool true) ∧ Below w.heap.size w w' := by
  have h1 := bld_a
  have h2 := bld_b
  have h3 := bld_c
  have h4 := bld_s
  have hba := below_alloc w (.cells #[.int .i64 2, .bool true, .int .i64 3, .int .i64 0] 77)
  have hnew := heap_alloc_new w (.cells #[.int .i64 2, .bool true, .int .i64 3, .int .i64 0] 77)
  have HNEW := Lib.hid hnew
  clear hnew
  obtain ⟨w1, hw1⟩ : ∃ w1, w.alloc (.cells #[.int .i64 2, .bool true, .int .i64 3, .int .i64 0] 77) = w1 := ⟨_, rfl⟩
  rw [hw1] at hba HNEW
  have HW := Lib.hid hw1
  clear hw1
  go_enter Try.func6, Try.ntmps6
  go_wp2_with fail
  rw [HW.out]
  refine mix_begin 11 (Held fun w' => w'.heap[w.heap.size]? = some (.cells #[.int .i64 2, .bool true, .int .i64 3, .int .i64 0] 77 (0, 0)) ∧ w'.cell? ⟨w.heap.size, 0, none⟩ = some (.int .i64 2) ∧ w'.cell? ⟨w.heap.size, 1, none⟩ = some (.bool true) ∧ w'.cell? ⟨w.heap.size, 2, none⟩ = some (.int .i64 3) ∧ w'.cell? ⟨w.heap.size, 3, none⟩ = some (.int .i64 0)) (by kernel_rfl) (by kernel_rfl) (Held.mk ⟨HNEW.out, row_cell_drew HNEW.out 0 rfl, row_cell_drew HNEW.out 1 rfl, row_cell_drew HNEW.out 2 rfl, row_cell_drew HNEW.out 3 rfl⟩) (fun hS => ?_)
  refine mix_take (v := ?_) 0 rfl (by decide) (by kernel_rfl) (by kernel_rfl) (fun _ _ _ h => h) hS rfl ?_ ?_
  rotate_left
  · (intro w' hw'; first | (go_simp; done) | (go_simp; with_reducible rfl) | (obtain ⟨gh, g0, g1, g2, g3⟩ := hw'.out; first | (go_simp; done) | (go_simp; with_reducible rfl)))
  simp only [Act.put, List.setIfInBounds_toArray, List.set_cons_zero, List.set_cons_succ]
  refine mix_take (v := ?_) 2 rfl (by decide) (by kernel_rfl) (by kernel_rfl) (fun _ _ _ h => h) hS rfl ?_ ?_
  rotate_left
  · (intro w' hw'; first | (go_simp; done) | (go_simp; with_reducible rfl) | (obtain ⟨gh, g0, g1, g2, g3⟩ := hw'.out; first | (go_simp; done) | (go_simp; with_reducible rfl)))
  simp only [Act.put, List.setIfInBounds_toArray, List.set_cons_zero, List.set_cons_succ]
  refine mix_step 1 rfl (by decide) (by kernel_rfl) ?_
  have hmk := make_st w1 2 rfl (by decide)
  obtain ⟨cs, hmk, hcs⟩ := hmk
  have hmk' : (Instr.makeSlice 25 (.int .i64 2) (.int .i64 2)).run Try.prog w1.drew = .ok (.slice (some ⟨w1.heap.size, 0, none⟩) 2 2) (w1.drew.alloc (.cells cs 77)) := by
    obtain ⟨cs', hmk', hcs'⟩ := make_st w1.drew 2 (x := 2) rfl (by decide)
    have : cs' = cs := Array.toList_inj.1 (hcs'.trans hcs.symm)
    rw [← this]; exact hmk'
  clear hmk
  have hbk := below_alloc w1.drew (.cells cs 77)
  have hown := ownSt_new w1.drew (List.replicate 2 st0) (by decide) hcs
  obtain ⟨ao, co, hvo, hsto⟩ := hown.isSt
  rw [show (List.replicate 2 st0).length = 2 from rfl] at hvo hsto
  simp only [Value.slice.injEq, true_and] at hvo
  obtain ⟨rfl, rfl⟩ := hvo
  have HSTO := Lib.hid hsto
  clear hsto hown
  have hN1 := (hbk.block _ (Array.getElem?_eq_some_iff.1 (show w1.drew.heap[w.heap.size]? = _ from HNEW.out)).1).trans (show w1.drew.heap[w.heap.size]? = _ from HNEW.out)
  go_wp2_with fail
  refine mix_out (Held.mk ⟨(show (w1.alloc (.cells cs 77)).drew.heap[w.heap.size]? = _ from hN1), row_cell (show (w1.alloc (.cells cs 77)).drew.heap[w.heap.size]? = _ from hN1) 0 rfl, row_cell (show (w1.alloc (.cells cs 77)).drew.heap[w.heap.size]? = _ from hN1) 1 rfl, row_cell (show (w1.alloc (.cells cs 77)).drew.heap[w.heap.size]? = _ from hN1) 2 rfl, row_cell (show (w1.alloc (.cells cs 77)).drew.heap[w.heap.size]? = _ from hN1) 3 rfl⟩) (fun hS => ?_)
  refine mix_step 3 rfl (by decide) (by kernel_rfl) ?_
  have hl := learn_rng 2 1 1 (some ⟨w1.heap.size, 0, none⟩) 2 2 (List.replicate 2 st0) 9 ⟨2, true, 3, 0⟩ (by decide) _ (show IsSt (w1.alloc (.cells cs 77)).drew (some ⟨w1.heap.size, 0, none⟩) 2 2 (List.replicate 2 st0) from HSTO.out) (by decide) (by decide) (by decide)
  have HLL := Lib.hid hl
  clear hl hmk'
  go_wp2_with fail
  refine HLL.out.mono ?_
  rintro e w5 ⟨rfl, hb5⟩
  have hbk' : Below w1.heap.size w1 (w1.alloc (.cells cs 77)).drew := (below_alloc _ _).drew
  have hb15 := below_then hbk' hb5
  have hN5 := (hb15.block _ (Array.getElem?_eq_some_iff.1 HNEW.out).1).trans HNEW.out
  have hb05 := below_then hba hb15
  have HN5 := Lib.hid hN5
  go_wp2_with fail
  refine mix_out (Held.mk ⟨hN5, row_cell hN5 0 rfl, row_cell hN5 1 rfl, row_cell hN5 2 rfl, row_cell hN5 3 rfl⟩) (fun hS => ?_)
  refine mix_take (v := ?_) 4 rfl (by decide) (by kernel_rfl) (by kernel_rfl) (fun _ _ _ h => h) hS rfl ?_ ?_
  rotate_left
  · (intro w' hw'; first | (go_simp; done) | (go_simp; with_reducible rfl) | (obtain ⟨gh, g0, g1, g2, g3⟩ := hw'.out; first | (go_simp; done) | (go_simp; with_reducible rfl)))
  simp only [Act.put, List.setIfInBounds_toArray, List.set_cons_zero, List.set_cons_succ]
  refine mix_take (v := ?_) 5 rfl (by decide) (by kernel_rfl) (by kernel_rfl) (fun _ _ _ h => h) hS rfl ?_ ?_
  rotate_left
  · (intro w' hw'; first | (go_simp; done) | (go_simp; with_reducible rfl) | (obtain ⟨gh, g0, g1, g2, g3⟩ := hw'.out; first | (go_simp; done) | (go_simp; with_reducible rfl)))
  simp only [Act.put, List.setIfInBounds_toArray, List.set_cons_zero, List.set_cons_succ]
  refine mix_take (v := ?_) 6 rfl (by decide) (by kernel_rfl) (by kernel_rfl) (fun _ _ _ h => h) hS rfl ?_ ?_
  rotate_left
  · (intro w' hw'; first | (go_simp; done) | (go_simp; with_reducible rfl) | (obtain ⟨gh, g0, g1, g2, g3⟩ := hw'.out; first | (go_simp; done) | (go_simp; with_reducible rfl)))
  simp only [Act.put, List.setIfInBounds_toArray, List.set_cons_zero, List.set_cons_succ]
  refine mix_take (v := ?_) 7 rfl (by decide) (by kernel_rfl) (by kernel_rfl) (fun _ _ _ h => h) hS rfl ?_ ?_
  rotate_left
  · (intro w' hw'; first | (go_simp; done) | (go_simp; with_reducible rfl) | (obtain ⟨gh, g0, g1, g2, g3⟩ := hw'.out; first | (go_simp; done) | (go_simp; with_reducible rfl)))
  simp only [Act.put, List.setIfInBounds_toArray, List.set_cons_zero, List.set_cons_succ]
  refine mix_take (v := ?_) 8 rfl (by decide) (by kernel_rfl) (by kernel_rfl) (fun _ _ _ h => h) hS rfl ?_ ?_
  rotate_left
  · (intro w' hw'; first | (go_simp; done) | (go_simp; with_reducible rfl) | (obtain ⟨gh, g0, g1, g2, g3⟩ := hw'.out; first | (go_simp; done) | (go_simp; with_reducible rfl)))
  simp only [Act.put, List.setIfInBounds_toArray, List.set_cons_zero, List.set_cons_succ]
  refine mix_take (v := ?_) 9 rfl (by decide) (by kernel_rfl) (by kernel_rfl) (fun _ _ _ h => h) hS rfl ?_ ?_
  rotate_left
  · (intro w' hw'; first | (go_simp; done) | (go_simp; with_reducible rfl) | (obtain ⟨gh, g0, g1, g2, g3⟩ := hw'.out; first | (go_simp; done) | (go_simp; with_reducible rfl)))
  simp only [Act.put, List.setIfInBounds_toArray, List.set_cons_zero, List.set_cons_succ]
  refine mix_take (v := ?_) 10 rfl (by decide) (by kernel_rfl) (by kernel_rfl) (fun _ _ _ h => h) hS rfl ?_ ?_
  rotate_left
  · (intro w' hw'; first | (go_simp; done) | (go_simp; with_reducible rfl) | (obtain ⟨gh, g0, g1, g2, g3⟩ := hw'.out; first | (go_simp; done) | (go_simp; with_reducible rfl)))
  simp only [Act.put, List.setIfInBounds_toArray, List.set_cons_zero, List.set_cons_succ]
  refine mix_done (by kernel_rfl) ?_
  simp only [List.drop_succ_cons, List.drop_zero]
  clear hS
  have n0 := row_cell HN5.out 0 rfl
  have n1 := row_cell HN5.out 1 rfl
  have n2 := row_cell HN5.out 2 rfl
  have n3 := row_cell HN5.out 3 rfl
  go_wp2_with fail
  refine (more_c ⟨3, false, 0, 0⟩ ⟨2, true, 3, 0⟩ _).mono ?_
  rintro e w6 ⟨rfl, hb6⟩
  rw [show moreSt ⟨3, false, 0, 0⟩ ⟨2, true, 3, 0⟩ = true from by decide]
  replace n0 := below_cell hb6 n0
  replace n1 := below_cell hb6 n1
  replace n2 := below_cell hb6 n2
  replace n3 := below_cell hb6 n3
  go_wp2_with fail
  refine (more_c ⟨2, true, 3, 0⟩ ⟨2, false, 0, 0⟩ _).mono ?_
  rintro e w7 ⟨rfl, hb7⟩
  rw [show moreSt ⟨2, true, 3, 0⟩ ⟨2, false, 0, 0⟩ = true from by decide]
  replace n0 := below_cell hb7 n0
  replace n1 := below_cell hb7 n1
  replace n2 := below_cell hb7 n2
  replace n3 := below_cell hb7 n3
  go_wp2_with fail
  refine (more_c ⟨2, true, 3, 0⟩ ⟨2, true, 3, 0⟩ _).mono ?_
  rintro e w8 ⟨rfl, hb8⟩
  rw [show moreSt ⟨2, true, 3, 0⟩ ⟨2, true, 3, 0⟩ = false from by decide]
  go_wp2_with fail
  refine (check_c ⟨2, false, 3, 0⟩ _).mono ?_
  rintro e w9 ⟨rfl, hb9⟩
  rw [show errSt ⟨2, false, 3, 0⟩ = 2 from by decide]
  go_wp2_with fail
  refine (num14_c _ _).mono ?_
  rintro e wn ⟨rfl, rfl⟩
  go_wp2_with fail
  refine (num14_c _ _).mono ?_
  rintro e wn ⟨rfl, rfl⟩
  go_wp2_with fail
  go_ret
  exact ⟨rfl, below_then (below_then (below_then (below_then hb05 hb6) hb7) hb8) hb9⟩
def IsL0 (w : World) (a : Option Addr) (n cap : Nat) (ls : List SL) : Prop := Sl w 1 a n cap (slV ls) ∧ ls.length = n ∧ ∀ s ∈ ls, IsSt w s.sa s.sn s.sc s.st
theorem IsL0.later {w w' : World} {a : Option Addr} {n cap : Nat} {ls : List SL} (h : IsL0 w a n cap ls) (hb : Below w.heap.size w w') : IsL0 w' a n cap ls := ⟨h.1.later hb, h.2.1, fun s hs => (h.2.2 s hs).later hb⟩
theorem below_nil (w w' : World) (h : w = w') : Below w.heap.size w w' := by subst h; exact Below.refl _ _
set_option maxRecDepth 100000 in
set_option maxHeartbeats 4000000 in
theorem statJoins_c (x y z : Int) (a : Option Addr) (n cap : Nat) (ls : List SL) (w : World) (h : IsL0 w a n cap ls) (hnb : n ≤ 2 ^ 47) :
    Calls Try.prog 3 #[.agg #[.int .i64 x, .int .i64 y, .int .i64 z], .slice a n cap] w fun e w' => e = .returned (.bool true) ∧ Below w.heap.size w w' := by
  have hba := below_alloc w (.cells #[.int .i64 x, .int .i64 y, .int .i64 z] 23)
  have hc0 := Cell3.new w x y z 23
  obtain ⟨w1, hw1⟩ : ∃ w1, w.alloc (.cells #[.int .i64 x, .int .i64 y, .int .i64 z] 23) = w1 := ⟨_, rfl⟩
  rw [hw1] at hba hc0
  have HW := Lib.hid hw1
  have H1 := Lib.hid (h.later hba)
  clear hw1 h
  go_enter Try.func3, Try.ntmps3
  go_wp2_with fail
  rw [HW.out]
  go_loop [5] (fun i => ∃ k : Nat, k ≤ n ∧ k ≤ 7 ∧ i = .int .i64 (k : Int) ∧ Hid (∀ s ∈ ls.take k, s.sn ≤ 300)) (fun i => n - (intOf i).toNat)
  case atStart => exact ⟨0, by omega, by omega, rfl, Lib.hid (by simp)⟩
  case round =>
    obtain ⟨k, hk, hk7, rfl, HF⟩ := hrel
    by_cases hlt : k < n
    · have hkl : k < ls.length := by have := H1.out.2.1; omega
      by_cases h6 : k ≤ 6
      · obtain ⟨b, off, rfl, hbl⟩ := H1.out.1.some_of_lt (by have := H1.out.1.le; omega)
        have hc : w1.cell? ⟨b, off + k, none⟩ = some (.slice ls[k].sa ls[k].sn ls[k].sc) := by
          rw [H1.out.1.cell (by omega)]; simp [slV, hkl]
        have htk : ls.take (k + 1) = ls.take k ++ [ls[k]] := List.take_succ_eq_append_getElem hkl
        generalize ls[k] = s at *
        have HTK := Lib.hid htk
        clear htk
        by_cases hs : s.sn ≤ 300
        · go_wp2_with fail
          refine ⟨⟨k + 1, by omega, by omega, by go_num, Lib.hid ?_⟩, by simp [intOf]; omega⟩
          intro v hv
          rw [HTK.out] at hv
          rcases List.mem_append.1 hv with hv | hv
          · exact HF.out v hv
          · obtain rfl := List.mem_singleton.1 hv; exact hs
        · go_wp2_with fail
          refine (works14_c _).mono ?_
          rintro e w2 ⟨rfl, hb2⟩
          go_wp2_with fail
          go_ret
          exact ⟨rfl, below_then hba hb2⟩
      · have hn6 : ¬ n ≤ 6 := by omega
        go_wp2_with fail
        refine (works14_c _).mono ?_
        rintro e w2 ⟨rfl, hb2⟩
        go_wp2_with fail
        go_ret
        exact ⟨rfl, below_then hba hb2⟩
    · obtain rfl : k = n := by omega
      by_cases hk6 : k ≤ 6
      · have hil : IsL w1 a k cap ls := ⟨H1.out.1, H1.out.2.1, fun s hs => ⟨H1.out.2.2 s hs, HF.out s (by rw [List.take_of_length_le (by have := H1.out.2.1; omega)]; exact hs)⟩⟩
        have HIL := Lib.hid hil
        clear hil
        obtain ⟨q0, q1, q2⟩ := id hc0
        go_wp2_with fail
        refine (join_c x y z a k cap ls (by omega) w1 HIL.out).mono ?_
        rintro e w2 (⟨hok, v, rfl, ho, hb2⟩ | ⟨hok, rfl, hb2⟩)
        · obtain ⟨va, vc, rfl, hsv⟩ := ho.isSt
          obtain ⟨p0, p1, p2⟩ := hc0.later hb2
          clear q0 q1 q2
          go_wp2_with fail
          refine (rjoin_c x y z a k cap ls (by omega) w2 (HIL.out.later hb2)).mono ?_
          rintro e w3 (⟨hok', v', rfl, ho', hb3⟩ | ⟨hok', rfl, hb3⟩)
          · obtain ⟨va', vc', rfl, hsv'⟩ := ho'.isSt
            have hlen : (joinRes x y z ls).length ≤ 2 ^ 40 := by unfold joinRes; rw [joinAll_len, List.length_replicate]; have := sites_le x y z; omega
            have hsame := sameSt_c va va' _ vc vc' _ hlen w3 (hsv.later hb3) hsv'
            generalize joinRes x y z ls = R at *
            have HS := Lib.hid hsame
            clear hsame hsv hsv' ho ho' p0 p1 p2
            go_wp2_with fail
            refine HS.out.mono ?_
            rintro e w4 ⟨rfl, hb4⟩
            go_wp2_with fail
            refine (num14_c _ _).mono ?_
            rintro e wn ⟨rfl, rfl⟩
            go_wp2_with fail
            refine (works14_c _).mono ?_
            rintro e w5 ⟨rfl, hb5⟩
            go_wp2_with fail
            go_ret
            exact ⟨rfl, below_then (below_then (below_then (below_then hba hb2) hb3) hb4) hb5⟩
          · rw [hok] at hok'; cases hok'
        · obtain ⟨p0, p1, p2⟩ := hc0.later hb2
          clear q0 q1 q2
          go_wp2_with fail
          refine (rjoin_c x y z a k cap ls (by omega) w2 (HIL.out.later hb2)).mono ?_
          rintro e w3 (⟨hok', v', rfl, ho', hb3⟩ | ⟨hok', rfl, hb3⟩)
          · rw [hok] at hok'; cases hok'
          · have hsame := sameSt_c none none 0 0 0 [] (by decide) w3 ⟨Sl.nil _ _, rfl⟩ ⟨Sl.nil _ _, rfl⟩
            have HS := Lib.hid hsame
            clear hsame p0 p1 p2
            go_wp2_with fail
            refine HS.out.mono ?_
            rintro e w4 ⟨rfl, hb4⟩
            go_wp2_with fail
            refine (num14_c _ _).mono ?_
            rintro e wn ⟨rfl, rfl⟩
            go_wp2_with fail
            refine (works14_c _).mono ?_
            rintro e w5 ⟨rfl, hb5⟩
            go_wp2_with fail
            go_ret
            exact ⟨rfl, below_then (below_then (below_then (below_then hba hb2) hb3) hb4) hb5⟩
      · go_wp2_with fail
        refine (works14_c _).mono ?_
        rintro e w2 ⟨rfl, hb2⟩
        go_wp2_with fail
        go_ret
        exact ⟨rfl, below_then hba hb2⟩
end Go.Proofs.Ytpobnbiakneoiaa
