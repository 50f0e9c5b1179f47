import Derived.Test.YtpobnbiakneoiaaDiskAF
namespace Go.Proofs.Ytpobnbiakneoiaa
open Go.RowKit Go.Cas
set_option linter.unusedSimpArgs false
set_option linter.unusedVariables false
attribute [local go_sem] Oper.semAt_some

set_option maxRecDepth 100000 in
set_option maxHeartbeats 4000000 in
theorem diskSame_c (a : Option Addr) (n cap : Nat) (l : List AV) (x : AV) (w : World) (h : IsActs w a n cap l) (hx : x.at w) (hsz : n * 56 ≤ 140737488351232) :
    Calls Try.prog 4 #[.slice a n cap, .agg #[.int .i64 x.what, .int .i64 x.file, .int .i64 x.n, .int .i64 x.more, .slice x.sa x.sn x.sc]] w fun e w' => e = .returned (.bool true) ∧ Below w.heap.size w w' := by
  have HA := Lib.hid h
  have HX := Lib.hid hx
  clear h hx
  go_enter Try.func4, Try.ntmps4
  go_wp2_with fail
  obtain ⟨w1, hw1⟩ : ∃ w1, w.alloc (.cells #[.int .i64 x.what, .int .i64 x.file, .int .i64 x.n, .int .i64 x.more, .slice x.sa x.sn x.sc] 38) = w1 := ⟨_, rfl⟩
  have hN : w1.heap[w.heap.size]? = some (.cells #[.int .i64 x.what, .int .i64 x.file, .int .i64 x.n, .int .i64 x.more, .slice x.sa x.sn x.sc] 38 (0, 0)) := by rw [← hw1]; exact heap_alloc_new _ _
  have hb1 : Below w.heap.size w w1 := by rw [← hw1]; exact below_alloc _ _
  rw [hw1]
  clear hw1
  have HN := Lib.hid hN
  have hNlt : w.heap.size < w1.heap.size := (Array.getElem?_eq_some_iff.1 hN).1
  clear hN
  have mkS : ∀ w', Below w1.heap.size w1 w' → Held (fun w' => Below w1.heap.size w1 w' ∧ w'.cell? ⟨w.heap.size, 0, none⟩ = some (.int .i64 x.what) ∧ w'.cell? ⟨w.heap.size, 1, none⟩ = some (.int .i64 x.file) ∧ w'.cell? ⟨w.heap.size, 2, none⟩ = some (.int .i64 x.n) ∧ w'.cell? ⟨w.heap.size, 3, none⟩ = some (.int .i64 x.more) ∧ w'.cell? ⟨w.heap.size, 4, none⟩ = some (.slice x.sa x.sn x.sc)) w' := fun w' hb => Held.mk ⟨hb, (hb.cell hNlt).trans (row_cell HN.out 0 rfl), (hb.cell hNlt).trans (row_cell HN.out 1 rfl), (hb.cell hNlt).trans (row_cell HN.out 2 rfl), (hb.cell hNlt).trans (row_cell HN.out 3 rfl), (hb.cell hNlt).trans (row_cell HN.out 4 rfl)⟩
  refine mix_begin 7 (Held fun w' => Below w1.heap.size w1 w' ∧ w'.cell? ⟨w.heap.size, 0, none⟩ = some (.int .i64 x.what) ∧ w'.cell? ⟨w.heap.size, 1, none⟩ = some (.int .i64 x.file) ∧ w'.cell? ⟨w.heap.size, 2, none⟩ = some (.int .i64 x.n) ∧ w'.cell? ⟨w.heap.size, 3, none⟩ = some (.int .i64 x.more) ∧ w'.cell? ⟨w.heap.size, 4, none⟩ = some (.slice x.sa x.sn x.sc)) (by kernel_rfl) (by kernel_rfl) (mkS _ (below_drew _)) (fun hS => ?_)
  refine mix_take (v := ?_) 1 rfl (by decide) (by kernel_rfl) (by kernel_rfl) (fun _ _ _ h => h) hS rfl ?_ ?_
  rotate_left
  · (intro w' hw'; first | (go_simp; done) | (go_simp; with_reducible rfl) | (obtain ⟨g0, g1, g2, g3, g4, g5⟩ := hw'.out; first | (go_simp; done) | (go_simp; with_reducible rfl)))
  simp only [Act.put, List.setIfInBounds_toArray, List.set_cons_zero, List.set_cons_succ]
  refine mix_take (v := ?_) 3 rfl (by decide) (by kernel_rfl) (by kernel_rfl) (fun _ _ _ h => h) hS rfl ?_ ?_
  rotate_left
  · (intro w' hw'; first | (go_simp; done) | (go_simp; with_reducible rfl) | (obtain ⟨g0, g1, g2, g3, g4, g5⟩ := hw'.out; first | (go_simp; done) | (go_simp; with_reducible rfl)))
  simp only [Act.put, List.setIfInBounds_toArray, List.set_cons_zero, List.set_cons_succ]
  refine mix_two 0 4 rfl rfl (by decide) (by decide) (by kernel_rfl) ?_ ?_
  · have g := hS.out
    have hownZ := own_none w1
    try simp only [World.size_alloc] at hownZ
    have hbZ := below_alloc w1.drew (.cells #[] 38)
    go_wp2_with fail
    refine mix_out (mkS _ (below_then g.1 hbZ)) (fun hS => ?_)
    refine mix_two 2 4 rfl rfl (by decide) (by decide) (by kernel_rfl) ?_ ?_
    · clear g
      have g := hS.out
      refine wpList_append_act rfl _ _ rfl w1.heap.size _ 0 0 [] rfl (hownZ.later (below_drew _)) a n cap l rfl (HA.out.1.later (hb1.trans (g.1.mono hb1.size))) rfl HA.out.2.1.symm (by omega) (by simp <;> omega) ?_
      intro a5 c5 w5 ho5 hb5 hg5
      simp only [Nat.zero_add, List.nil_append] at ho5 ⊢
      go_wp2_with fail
      refine mix_out (mkS _ (g.1.trans hb5)) (fun hS => ?_)
      refine mix_step 4 rfl (by decide) (by kernel_rfl) ?_
      clear g
      have g := hS.out
      have hX := one_act w5 x
      try simp only [World.size_alloc] at hX
      have hbX := below_alloc w5 (.cells #[.int .i64 x.what, .int .i64 x.file, .int .i64 x.n, .int .i64 x.more, .slice x.sa x.sn x.sc] 38)
      go_wp2_with fail
      refine mix_out (mkS _ (below_then g.1 hbX)) (fun hS => ?_)
      refine mix_step 5 rfl (by decide) (by kernel_rfl) ?_
      clear g
      have g := hS.out
      refine wpList_append_act rfl _ _ rfl w1.heap.size a5 n c5 l rfl (ho5.later (below_alloc w5 (.cells #[.int .i64 x.what, .int .i64 x.file, .int .i64 x.n, .int .i64 x.more, .slice x.sa x.sn x.sc] 38))) _ 1 1 [x] rfl hX HA.out.2.1.symm rfl (by omega) g.1.size ?_
      intro a6 c6 w6 ho6 hb6 _
      go_wp2_with fail
      refine mix_out (mkS _ (g.1.trans hb6)) (fun hS => ?_)
      refine mix_step 6 rfl (by decide) (by kernel_rfl) ?_
      clear g
      have g := hS.out
      have hbw6 := hb1.trans (g.1.mono hb1.size)
      have hfew := few_c a6 (n + 1) c6 (l ++ [x]) 21 (by omega) (by decide) w6 ⟨ho6.sl.1, ho6.sl.2, fun y hy => by
        rcases List.mem_append.1 hy with hy | hy
        · exact (HA.out.2.2 y hy).later hbw6
        · obtain rfl := List.mem_singleton.1 hy; exact HX.out.later hbw6⟩
      rw [show (((21 : Nat)) : Int) = 21 from rfl] at hfew
      go_wp2_with fail
      refine hfew.mono ?_
      rintro e wn ⟨r, rfl, hfw, rfl⟩
      clear hfew
      have HFW := Lib.hid hfw
      clear hfw
      go_wp2_with fail
      refine mix_out (hS) (fun hS => ?_)
      refine mix_done (by kernel_rfl) ?_
      simp only [List.drop_succ_cons, List.drop_zero]
      have hb6 := hS.out.1
      clear g hS mkS
      clear hownZ hbZ ho5 hb5 hg5 hX hbX ho6
      cases r with
      | false =>
        go_wp2_with fail
        refine (works07_c _).mono ?_
        rintro e w7 ⟨rfl, hb7⟩
        go_wp2_with fail
        go_ret
        exact ⟨rfl, hbw6.trans (hb7.mono hbw6.size)⟩
      | true =>
        have hn21 : n + 1 ≤ 21 := (HFW.out rfl).1
        have HFX := Lib.hid (HFW.out rfl).2
        clear HFW
        have hrn := rnew_c 100
        have hg0 := ds0_good
        have hnc := new_c 100 w6 (by decide) (by decide)
        obtain ⟨s0, hs0⟩ : ∃ s0, ds0 100 = s0 := ⟨_, rfl⟩
        rw [hs0] at hrn hg0 hnc
        clear hs0
        have HNC := Lib.hid hnc
        have HRN := Lib.hid hrn
        clear hnc hrn
        unfold RV at HRN
        go_wp2_with fail
        refine HNC.out.mono ?_
        rintro e w7 ⟨rfl, hD7, hb7⟩
        go_wp2_with fail
        refine (HRN.out _).mono ?_
        rintro e w8 ⟨rfl, hb8⟩
        go_wp2_with fail
        refine (num7_c _ _).mono ?_
        rintro e wn ⟨rfl, rfl⟩
        go_wp2_with fail
        have hLP : LP w6 (w8.alloc (.cells #[.int .i64 s0.room, .string (strOf s0.f0), .string (strOf s0.f1), .int .i64 (s0.n0 : Int), .int .i64 (s0.n1 : Int), .int .i64 s0.now, .int .i64 s0.left] 46)) w8.heap.size := ⟨s0, hg0, (hD7.later hb8).later (below_alloc _ _), heap_alloc_new _ _, below_then hb7 (below_then hb8 (below_alloc _ _))⟩
        have hMlt : w6.heap.size < w8.heap.size := Nat.lt_of_lt_of_le hD7.lt hb8.size
        obtain ⟨M, hM⟩ : ∃ M, w8.heap.size = M := ⟨_, rfl⟩
        rw [hM] at hLP hMlt
        simp only [hM]
        clear hM hD7 hb7 hb8 HNC HRN hg0
        go_loopw [8] (fun i wr => ∃ k : Nat, k ≤ n ∧ i = .int .i64 (k : Int) ∧ LP w6 wr M) (fun i _ => n - (intOf i).toNat)
        case atStart => exact ⟨0, by omega, rfl, hLP⟩
        case round =>
          clear hLP
          obtain ⟨k, hk, rfl, s, hgs, hDs, hMs, hbr⟩ := hrel
          have hbw := hbw6.trans (hbr.mono hbw6.size)
          have HM := Lib.hid hMs
          clear hMs
          by_cases hlt : k < n
          · have hkl : k < l.length := by have := HA.out.2.1; omega
            obtain ⟨b, off, rfl, hbl⟩ := HA.out.1.some_of_lt (by have := HA.out.1.le; omega)
            have hsl := HA.out.1.later hbw
            have hyat := (HA.out.2.2 _ (List.getElem_mem hkl)).later hbw
            have hyb := HFX.out _ (List.mem_append_left [x] (List.getElem_mem hkl))
            have hg := actV_get l hkl
            obtain ⟨y, hy⟩ : ∃ y, l[k] = y := ⟨_, rfl⟩
            rw [hy] at hyat hyb hg
            clear hy
            have hkn : k * 5 + 4 < n * 5 := by omega
            have hc0 := (hsl.cell (i := k * 5) (by omega)).trans hg.1
            have hc1 := (hsl.cell (i := k * 5 + 1) (by omega)).trans hg.2.1
            have hc2 := (hsl.cell (i := k * 5 + 2) (by omega)).trans hg.2.2.1
            have hc3 := (hsl.cell (i := k * 5 + 3) (by omega)).trans hg.2.2.2.1
            have hc4 := (hsl.cell (i := k * 5 + 4) (by omega)).trans hg.2.2.2.2
            rw [← Nat.add_assoc] at hc1 hc2 hc3 hc4
            clear hg hsl
            have hbD : b < w6.heap.size := Nat.lt_of_lt_of_le hbl hbw6.size
            have HC := Lib.hid (And.intro hc0 (And.intro hc1 (And.intro hc2 (And.intro hc3 hc4))))
            clear hc0 hc1 hc2 hc3 hc4
            have hact := act_all w6.heap.size s y _ (hDs.later (below_drew wr)) hgs (hyat.later (below_drew wr)) hyb
            unfold RV at hact
            have hgd := does_good hgs y hyat.2
            obtain ⟨o, ho⟩ : ∃ o, (s.does y).1 = o := ⟨_, rfl⟩
            rw [ho] at hact hgd
            clear ho
            have HACT := Lib.hid hact
            clear hact
            go_wp2_with fail
            refine mix_begin 11 (Held fun w' => w'.cell? ⟨b, off + k * 5, none⟩ = some (.int .i64 y.what) ∧ w'.cell? ⟨b, off + k * 5 + 1, none⟩ = some (.int .i64 y.file) ∧ w'.cell? ⟨b, off + k * 5 + 2, none⟩ = some (.int .i64 y.n) ∧ w'.cell? ⟨b, off + k * 5 + 3, none⟩ = some (.int .i64 y.more) ∧ w'.cell? ⟨b, off + k * 5 + 4, none⟩ = some (.slice y.sa y.sn y.sc)) (by kernel_rfl) (by kernel_rfl) (Held.mk HC.out) (fun hS => ?_)
            refine mix_take (v := ?_) 0 rfl (by decide) (by kernel_rfl) (by kernel_rfl) (fun _ _ _ h => h) hS rfl ?_ ?_
            rotate_left
            · (intro w' hw'; first | (go_simp; done) | (go_simp; with_reducible rfl) | (obtain ⟨g0, g1, g2, g3, g4⟩ := hw'.out; first | (go_simp; done) | (go_simp; with_reducible rfl)))
            simp only [Act.put, List.setIfInBounds_toArray, List.set_cons_zero, List.set_cons_succ]
            refine mix_take (v := ?_) 2 rfl (by decide) (by kernel_rfl) (by kernel_rfl) (fun _ _ _ h => h) hS rfl ?_ ?_
            rotate_left
            · (intro w' hw'; first | (go_simp; done) | (go_simp; with_reducible rfl) | (obtain ⟨g0, g1, g2, g3, g4⟩ := hw'.out; first | (go_simp; done) | (go_simp; with_reducible rfl)))
            simp only [Act.put, List.setIfInBounds_toArray, List.set_cons_zero, List.set_cons_succ]
            refine mix_take (v := ?_) 3 rfl (by decide) (by kernel_rfl) (by kernel_rfl) (fun _ _ _ h => h) hS rfl ?_ ?_
            rotate_left
            · (intro w' hw'; first | (go_simp; done) | (go_simp; with_reducible rfl) | (obtain ⟨g0, g1, g2, g3, g4⟩ := hw'.out; first | (go_simp; done) | (go_simp; with_reducible rfl)))
            simp only [Act.put, List.setIfInBounds_toArray, List.set_cons_zero, List.set_cons_succ]
            refine mix_take (v := ?_) 4 rfl (by decide) (by kernel_rfl) (by kernel_rfl) (fun _ _ _ h => h) hS rfl ?_ ?_
            rotate_left
            · (intro w' hw'; first | (go_simp; done) | (go_simp; with_reducible rfl) | (obtain ⟨g0, g1, g2, g3, g4⟩ := hw'.out; first | (go_simp; done) | (go_simp; with_reducible rfl)))
            simp only [Act.put, List.setIfInBounds_toArray, List.set_cons_zero, List.set_cons_succ]
            refine mix_take (v := ?_) 5 rfl (by decide) (by kernel_rfl) (by kernel_rfl) (fun _ _ _ h => h) hS rfl ?_ ?_
            rotate_left
            · (intro w' hw'; first | (go_simp; done) | (go_simp; with_reducible rfl) | (obtain ⟨g0, g1, g2, g3, g4⟩ := hw'.out; first | (go_simp; done) | (go_simp; with_reducible rfl)))
            simp only [Act.put, List.setIfInBounds_toArray, List.set_cons_zero, List.set_cons_succ]
            refine mix_step 1 rfl (by decide) (by kernel_rfl) ?_
            have y0 := row_cell HM.out 0 rfl
            have y1 := row_cell HM.out 1 rfl
            have y2 := row_cell HM.out 2 rfl
            have y3 := row_cell HM.out 3 rfl
            have y4 := row_cell HM.out 4 rfl
            have y5 := row_cell HM.out 5 rfl
            have y6 := row_cell HM.out 6 rfl
            go_wp2_with fail
            clear y0 y1 y2 y3 y4 y5 y6
            refine mix_out (hS) (fun hS => ?_)
            refine mix_step 6 rfl (by decide) (by kernel_rfl) ?_
            go_wp2_with fail
            refine HACT.out.mono ?_
            rintro e w9 ⟨rfl, hD9, hg9⟩
            clear HACT
            have hM9 := (hg9.block _ (Array.getElem?_eq_some_iff.1 HM.out).1 (by intro e; have := Option.some.inj e; omega)).trans HM.out
            go_wp2_with fail
            refine mix_out (Held.mk ⟨grown_cell hg9 HC.out.1 (by omega), grown_cell hg9 HC.out.2.1 (by omega), grown_cell hg9 HC.out.2.2.1 (by omega), grown_cell hg9 HC.out.2.2.2.1 (by omega), grown_cell hg9 HC.out.2.2.2.2 (by omega)⟩) (fun hS => ?_)
            refine mix_take (v := ?_) 7 rfl (by decide) (by kernel_rfl) (by kernel_rfl) (fun _ _ _ h => h) hS rfl ?_ ?_
            rotate_left
            · (intro w' hw'; first | (go_simp; done) | (go_simp; with_reducible rfl) | (obtain ⟨g0, g1, g2, g3, g4⟩ := hw'.out; first | (go_simp; done) | (go_simp; with_reducible rfl)))
            simp only [Act.put, List.setIfInBounds_toArray, List.set_cons_zero, List.set_cons_succ]
            refine mix_take (v := ?_) 8 rfl (by decide) (by kernel_rfl) (by kernel_rfl) (fun _ _ _ h => h) hS rfl ?_ ?_
            rotate_left
            · (intro w' hw'; first | (go_simp; done) | (go_simp; with_reducible rfl) | (obtain ⟨g0, g1, g2, g3, g4⟩ := hw'.out; first | (go_simp; done) | (go_simp; with_reducible rfl)))
            simp only [Act.put, List.setIfInBounds_toArray, List.set_cons_zero, List.set_cons_succ]
            refine mix_take (v := ?_) 9 rfl (by decide) (by kernel_rfl) (by kernel_rfl) (fun _ _ _ h => h) hS rfl ?_ ?_
            rotate_left
            · (intro w' hw'; first | (go_simp; done) | (go_simp; with_reducible rfl) | (obtain ⟨g0, g1, g2, g3, g4⟩ := hw'.out; first | (go_simp; done) | (go_simp; with_reducible rfl)))
            simp only [Act.put, List.setIfInBounds_toArray, List.set_cons_zero, List.set_cons_succ]
            refine mix_step 10 rfl (by decide) (by kernel_rfl) ?_
            have y0 := row_cell hM9 0 rfl
            have y1 := row_cell hM9 1 rfl
            have y2 := row_cell hM9 2 rfl
            have y3 := row_cell hM9 3 rfl
            have y4 := row_cell hM9 4 rfl
            have y5 := row_cell hM9 5 rfl
            have y6 := row_cell hM9 6 rfl
            have z0 := row_fz hM9
            clear hS
            go_wp2_with fail
            clear y0 y1 y2 y3 y4 y5 y6 z0
            have hq := store7 hM9 (.int .i64 o.room) (.string (strOf o.f0)) (.string (strOf o.f1)) (.int .i64 (o.n0 : Int)) (.int .i64 (o.n1 : Int)) (.int .i64 o.now) (.int .i64 o.left)
            have hg7 := grown7 w9 M (.int .i64 o.room) (.string (strOf o.f0)) (.string (strOf o.f1)) (.int .i64 (o.n0 : Int)) (.int .i64 (o.n1 : Int)) (.int .i64 o.now) (.int .i64 o.left)
            have hb9 := below_grown hbr.drew hg9 (Nat.le_refl _) (Nat.le_refl _)
            have hD10 := hD9.past hg7 (by omega) hM9 hq (Nat.le_refl _) row7_no
            have hb10 := below_grown hb9 hg7 (by omega) (Nat.le_refl _)
            have HQ := Lib.hid hq
            clear hq
            refine mix_out (Held.mk ⟨grown_cell hg7 (grown_cell hg9 HC.out.1 (by omega)) (by omega), grown_cell hg7 (grown_cell hg9 HC.out.2.1 (by omega)) (by omega), grown_cell hg7 (grown_cell hg9 HC.out.2.2.1 (by omega)) (by omega), grown_cell hg7 (grown_cell hg9 HC.out.2.2.2.1 (by omega)) (by omega), grown_cell hg7 (grown_cell hg9 HC.out.2.2.2.2 (by omega)) (by omega)⟩) (fun hS => ?_)
            refine mix_done (by kernel_rfl) ?_
            simp only [List.drop_succ_cons, List.drop_zero]
            clear hS
            go_wp2_with fail
            exact ⟨⟨k + 1, by omega, by go_num, o, hgd, hD10, HQ.out, hb10⟩, by simp [intOf]; omega⟩
          · obtain rfl : k = n := by omega
            have hxb := HFX.out x (List.mem_append_right l (List.mem_singleton.2 rfl))
            have hM1 := HM.out
            have hMr := (Array.getElem?_eq_some_iff.1 hM1).1
            have hcp := copy_c w6.heap.size s wr hDs hgs.1
            have HCP := Lib.hid hcp
            clear hcp
            go_wp2_with fail
            refine HCP.out.mono ?_
            rintro e w9 ⟨rfl, hC9, hb9⟩
            clear HCP
            have hsm := same_c wr.heap.size w6.heap.size s s w9 hC9 (hDs.later hb9) hgs.1 hgs.1
            rw [same_refl] at hsm
            have HSM := Lib.hid hsm
            clear hsm
            go_wp2_with fail
            refine HSM.out.mono ?_
            rintro e w10 ⟨rfl, hb10⟩
            clear HSM
            have hb910 := below_then hb9 hb10
            have hM10 := (hb910.block _ hMr).trans hM1
            have hN10 := (hb910.block _ (by have := hbr.size; have := hb6.size; omega)).trans ((hbr.block _ (by have := hb6.size; omega)).trans ((hb6.block _ hNlt).trans HN.out))
            have q0 := row_cell hM10 0 rfl
            have q1 := row_cell hM10 1 rfl
            have q2 := row_cell hM10 2 rfl
            have q3 := row_cell hM10 3 rfl
            have q4 := row_cell hM10 4 rfl
            have q5 := row_cell hM10 5 rfl
            have q6 := row_cell hM10 6 rfl
            have p0 := row_cell hN10 0 rfl
            have p1 := row_cell hN10 1 rfl
            have p2 := row_cell hN10 2 rfl
            have p3 := row_cell hN10 3 rfl
            have p4 := row_cell hN10 4 rfl
            have hat := HX.out.later (hbw.trans (hb910.mono hbw.size))
            have hact := act_all wr.heap.size s x w10 (hC9.later hb10) hgs hat hxb
            unfold RV at hact
            have hgd := does_good hgs x hat.2
            obtain ⟨o, ho⟩ : ∃ o, (s.does x).1 = o := ⟨_, rfl⟩
            rw [ho] at hact hgd
            clear ho hat
            have HACT := Lib.hid hact
            clear hact
            go_wp2_with fail
            refine HACT.out.mono ?_
            rintro e w11 ⟨rfl, hC11, hg11⟩
            clear HACT q0 q1 q2 q3 q4 q5 q6 p0 p1 p2 p3 p4
            have hD11 := hDs.apart (grown_trans (grown_of_below hb910) hg11)
            have hM11 := (hg11.block _ (Nat.lt_of_lt_of_le hMr hb910.size) (by intro e; have := Option.some.inj e; omega)).trans hM10
            have hB11 := below_grown (hbw.trans (hb910.mono hbw.size)) hg11 (by have := hbw.size; omega) (Nat.le_refl _)
            clear hM10 hN10 hM1
            go_wp2_with fail
            have hQ := heap_alloc_new w11 (.cells #[.int .i64 o.room, .string (strOf o.f0), .string (strOf o.f1), .int .i64 (o.n0 : Int), .int .i64 (o.n1 : Int), .int .i64 o.now, .int .i64 o.left] 46)
            have hbq := below_alloc w11 (.cells #[.int .i64 o.room, .string (strOf o.f0), .string (strOf o.f1), .int .i64 (o.n0 : Int), .int .i64 (o.n1 : Int), .int .i64 o.now, .int .i64 o.left] 46)
            have hM12 := (hbq.block _ (Array.getElem?_eq_some_iff.1 hM11).1).trans hM11
            have hC12 := hC11.later hbq
            have hD12 := hD11.later hbq
            have hB12 := hB11.trans (hbq.mono hB11.size)
            obtain ⟨w12, hw12⟩ : ∃ w12, w11.alloc (.cells #[.int .i64 o.room, .string (strOf o.f0), .string (strOf o.f1), .int .i64 (o.n0 : Int), .int .i64 (o.n1 : Int), .int .i64 o.now, .int .i64 o.left] 46) = w12 := ⟨_, rfl⟩
            rw [hw12] at hQ hbq hM12 hC12 hD12 hB12 ⊢
            clear hw12 hC11 hD11 hM11 hB11 hbq hg11 hb910 hb10 hC9 hb9
            have hMl := (Array.getElem?_eq_some_iff.1 hM12).1
            have hQl := (Array.getElem?_eq_some_iff.1 hQ).1
            obtain ⟨Qb, hQb⟩ : ∃ Qb, w11.heap.size = Qb := ⟨_, rfl⟩
            obtain ⟨C, hC⟩ : ∃ C, wr.heap.size = C := ⟨_, rfl⟩
            rw [hQb] at hQ hQl
            rw [hC] at hC12
            simp only [hQb, hC]
            clear hQb hC hMr
            have HM12 := Lib.hid hM12
            have HQ := Lib.hid hQ
            clear hM12 hQ
            have mkS2 : ∀ w', Below w12.heap.size w12 w' → Held (fun w' => Below w12.heap.size w12 w' ∧ w'.cell? ⟨M, 0, none⟩ = some (.int .i64 s.room) ∧ w'.cell? ⟨M, 1, none⟩ = some (.string (strOf s.f0)) ∧ w'.cell? ⟨M, 2, none⟩ = some (.string (strOf s.f1)) ∧ w'.cell? ⟨M, 3, none⟩ = some (.int .i64 (s.n0 : Int)) ∧ w'.cell? ⟨M, 4, none⟩ = some (.int .i64 (s.n1 : Int)) ∧ w'.cell? ⟨M, 5, none⟩ = some (.int .i64 s.now) ∧ w'.cell? ⟨M, 6, none⟩ = some (.int .i64 s.left) ∧ w'.cell? ⟨Qb, 0, none⟩ = some (.int .i64 o.room) ∧ w'.cell? ⟨Qb, 1, none⟩ = some (.string (strOf o.f0)) ∧ w'.cell? ⟨Qb, 2, none⟩ = some (.string (strOf o.f1)) ∧ w'.cell? ⟨Qb, 3, none⟩ = some (.int .i64 (o.n0 : Int)) ∧ w'.cell? ⟨Qb, 4, none⟩ = some (.int .i64 (o.n1 : Int)) ∧ w'.cell? ⟨Qb, 5, none⟩ = some (.int .i64 o.now) ∧ w'.cell? ⟨Qb, 6, none⟩ = some (.int .i64 o.left)) w' := fun w' hb => Held.mk ⟨hb, (hb.cell hMl).trans (row_cell HM12.out 0 rfl), (hb.cell hMl).trans (row_cell HM12.out 1 rfl), (hb.cell hMl).trans (row_cell HM12.out 2 rfl), (hb.cell hMl).trans (row_cell HM12.out 3 rfl), (hb.cell hMl).trans (row_cell HM12.out 4 rfl), (hb.cell hMl).trans (row_cell HM12.out 5 rfl), (hb.cell hMl).trans (row_cell HM12.out 6 rfl), (hb.cell hQl).trans (row_cell HQ.out 0 rfl), (hb.cell hQl).trans (row_cell HQ.out 1 rfl), (hb.cell hQl).trans (row_cell HQ.out 2 rfl), (hb.cell hQl).trans (row_cell HQ.out 3 rfl), (hb.cell hQl).trans (row_cell HQ.out 4 rfl), (hb.cell hQl).trans (row_cell HQ.out 5 rfl), (hb.cell hQl).trans (row_cell HQ.out 6 rfl)⟩
            have he := eqIn_RV o s
            unfold RV at he
            have hs1 := fun W (hb : Below w12.heap.size w12 W) => same_c C w6.heap.size o s W (hC12.later hb) (hD12.later hb) hgd.1 hgs.1
            have hs2 := fun W (hb : Below w12.heap.size w12 W) => same_c w6.heap.size C s o W (hD12.later hb) (hC12.later hb) hgs.1 hgd.1
            rw [same_symm s o] at hs2
            obtain ⟨z, hz⟩ : ∃ z, o.same s = z := ⟨_, rfl⟩
            rw [hz] at he hs1 hs2
            clear hz
            have i1 := fun W (hb : Below w12.heap.size w12 W) => is_c w6.heap.size s W (hD12.later hb) hgs.1
            have i2 := fun W (hb : Below w12.heap.size w12 W) => is_c C o W (hC12.later hb) hgd.1
            unfold RV at i1 i2
            have HS1 := Lib.hid hs1
            have HS2 := Lib.hid hs2
            have HI1 := Lib.hid i1
            have HI2 := Lib.hid i2
            clear hs1 hs2 i1 i2
            refine mix_begin 32 (Held fun w' => Below w12.heap.size w12 w' ∧ w'.cell? ⟨M, 0, none⟩ = some (.int .i64 s.room) ∧ w'.cell? ⟨M, 1, none⟩ = some (.string (strOf s.f0)) ∧ w'.cell? ⟨M, 2, none⟩ = some (.string (strOf s.f1)) ∧ w'.cell? ⟨M, 3, none⟩ = some (.int .i64 (s.n0 : Int)) ∧ w'.cell? ⟨M, 4, none⟩ = some (.int .i64 (s.n1 : Int)) ∧ w'.cell? ⟨M, 5, none⟩ = some (.int .i64 s.now) ∧ w'.cell? ⟨M, 6, none⟩ = some (.int .i64 s.left) ∧ w'.cell? ⟨Qb, 0, none⟩ = some (.int .i64 o.room) ∧ w'.cell? ⟨Qb, 1, none⟩ = some (.string (strOf o.f0)) ∧ w'.cell? ⟨Qb, 2, none⟩ = some (.string (strOf o.f1)) ∧ w'.cell? ⟨Qb, 3, none⟩ = some (.int .i64 (o.n0 : Int)) ∧ w'.cell? ⟨Qb, 4, none⟩ = some (.int .i64 (o.n1 : Int)) ∧ w'.cell? ⟨Qb, 5, none⟩ = some (.int .i64 o.now) ∧ w'.cell? ⟨Qb, 6, none⟩ = some (.int .i64 o.left)) (by kernel_rfl) (by kernel_rfl) (mkS2 _ (below_drew _)) (fun hS => ?_)
            refine mix_take (v := ?_) 0 rfl (by decide) (by kernel_rfl) (by kernel_rfl) (fun _ _ _ h => h) hS rfl ?_ ?_
            rotate_left
            · (intro w' hw'; first | (go_simp; done) | (go_simp; with_reducible rfl) | (obtain ⟨g0, g1, g2, g3, g4, g5, g6, g7, g8, g9, g10, g11, g12, g13, g14⟩ := hw'.out; first | (go_simp; done) | (go_simp; with_reducible rfl)))
            simp only [Act.put, List.setIfInBounds_toArray, List.set_cons_zero, List.set_cons_succ]
            refine mix_take (v := ?_) 1 rfl (by decide) (by kernel_rfl) (by kernel_rfl) (fun _ _ _ h => h) hS rfl ?_ ?_
            rotate_left
            · (intro w' hw'; first | (go_simp; done) | (go_simp; with_reducible rfl) | (obtain ⟨g0, g1, g2, g3, g4, g5, g6, g7, g8, g9, g10, g11, g12, g13, g14⟩ := hw'.out; first | (go_simp; done) | (go_simp; with_reducible rfl)))
            simp only [Act.put, List.setIfInBounds_toArray, List.set_cons_zero, List.set_cons_succ]
            refine mix_take (v := ?_) 2 rfl (by decide) (by kernel_rfl) (by kernel_rfl) (fun _ _ _ h => h) hS rfl ?_ ?_
            rotate_left
            · (intro w' hw'; first | (go_simp; done) | (go_simp; with_reducible rfl) | (obtain ⟨g0, g1, g2, g3, g4, g5, g6, g7, g8, g9, g10, g11, g12, g13, g14⟩ := hw'.out; first | (go_simp; done) | (go_simp; with_reducible rfl)))
            simp only [Act.put, List.setIfInBounds_toArray, List.set_cons_zero, List.set_cons_succ]
            refine mix_take (v := ?_) 3 rfl (by decide) (by kernel_rfl) (by kernel_rfl) (fun _ _ _ h => h) hS rfl ?_ ?_
            rotate_left
            · (intro w' hw'; first | (go_simp; done) | (go_simp; with_reducible rfl) | (obtain ⟨g0, g1, g2, g3, g4, g5, g6, g7, g8, g9, g10, g11, g12, g13, g14⟩ := hw'.out; first | (go_simp; done) | (go_simp; with_reducible rfl)))
            simp only [Act.put, List.setIfInBounds_toArray, List.set_cons_zero, List.set_cons_succ]
            refine mix_step 4 rfl (by decide) (by kernel_rfl) ?_
            have g := hS.out
            go_wp2_with fail
            refine (HI1.out _ g.1).mono ?_
            rintro e wn ⟨rfl, hbn⟩
            go_wp2_with fail
            refine mix_out (mkS2 _ (below_then g.1 hbn)) (fun hS => ?_)
            refine mix_take (v := ?_) 5 rfl (by decide) (by kernel_rfl) (by kernel_rfl) (fun _ _ _ h => h) hS rfl ?_ ?_
            rotate_left
            · (intro w' hw'; first | (go_simp; done) | (go_simp; with_reducible rfl) | (obtain ⟨g0, g1, g2, g3, g4, g5, g6, g7, g8, g9, g10, g11, g12, g13, g14⟩ := hw'.out; first | (go_simp; done) | (go_simp; with_reducible rfl)))
            simp only [Act.put, List.setIfInBounds_toArray, List.set_cons_zero, List.set_cons_succ]
            refine mix_take (v := ?_) 6 rfl (by decide) (by kernel_rfl) (by kernel_rfl) (fun _ _ _ h => h) hS rfl ?_ ?_
            rotate_left
            · (intro w' hw'; first | (go_simp; done) | (go_simp; with_reducible rfl) | (obtain ⟨g0, g1, g2, g3, g4, g5, g6, g7, g8, g9, g10, g11, g12, g13, g14⟩ := hw'.out; first | (go_simp; done) | (go_simp; with_reducible rfl)))
            simp only [Act.put, List.setIfInBounds_toArray, List.set_cons_zero, List.set_cons_succ]
            refine mix_take (v := ?_) 7 rfl (by decide) (by kernel_rfl) (by kernel_rfl) (fun _ _ _ h => h) hS rfl ?_ ?_
            rotate_left
            · (intro w' hw'; first | (go_simp; done) | (go_simp; with_reducible rfl) | (obtain ⟨g0, g1, g2, g3, g4, g5, g6, g7, g8, g9, g10, g11, g12, g13, g14⟩ := hw'.out; first | (go_simp; done) | (go_simp; with_reducible rfl)))
            simp only [Act.put, List.setIfInBounds_toArray, List.set_cons_zero, List.set_cons_succ]
            refine mix_take (v := ?_) 8 rfl (by decide) (by kernel_rfl) (by kernel_rfl) (fun _ _ _ h => h) hS rfl ?_ ?_
            rotate_left
            · (intro w' hw'; first | (go_simp; done) | (go_simp; with_reducible rfl) | (obtain ⟨g0, g1, g2, g3, g4, g5, g6, g7, g8, g9, g10, g11, g12, g13, g14⟩ := hw'.out; first | (go_simp; done) | (go_simp; with_reducible rfl)))
            simp only [Act.put, List.setIfInBounds_toArray, List.set_cons_zero, List.set_cons_succ]
            refine mix_step 9 rfl (by decide) (by kernel_rfl) ?_
            have g := hS.out
            go_wp2_with fail
            refine (HI2.out _ g.1).mono ?_
            rintro e wn ⟨rfl, hbn⟩
            go_wp2_with fail
            refine mix_out (mkS2 _ (below_then g.1 hbn)) (fun hS => ?_)
            refine mix_take (v := ?_) 10 rfl (by decide) (by kernel_rfl) (by kernel_rfl) (fun _ _ _ h => h) hS rfl ?_ ?_
            rotate_left
            · (intro w' hw'; first | (go_simp; done) | (go_simp; with_reducible rfl) | (obtain ⟨g0, g1, g2, g3, g4, g5, g6, g7, g8, g9, g10, g11, g12, g13, g14⟩ := hw'.out; first | (go_simp; done) | (go_simp; with_reducible rfl)))
            simp only [Act.put, List.setIfInBounds_toArray, List.set_cons_zero, List.set_cons_succ]
            refine mix_take (v := ?_) 11 rfl (by decide) (by kernel_rfl) (by kernel_rfl) (fun _ _ _ h => h) hS rfl ?_ ?_
            rotate_left
            · (intro w' hw'; first | (go_simp; done) | (go_simp; with_reducible rfl) | (obtain ⟨g0, g1, g2, g3, g4, g5, g6, g7, g8, g9, g10, g11, g12, g13, g14⟩ := hw'.out; first | (go_simp; done) | (go_simp; with_reducible rfl)))
            simp only [Act.put, List.setIfInBounds_toArray, List.set_cons_zero, List.set_cons_succ]
            refine mix_take (v := ?_) 12 rfl (by decide) (by kernel_rfl) (by kernel_rfl) (fun _ _ _ h => h) hS rfl ?_ ?_
            rotate_left
            · (intro w' hw'; first | (go_simp; done) | (go_simp; with_reducible rfl) | (obtain ⟨g0, g1, g2, g3, g4, g5, g6, g7, g8, g9, g10, g11, g12, g13, g14⟩ := hw'.out; first | (go_simp; done) | (go_simp; with_reducible rfl)))
            simp only [Act.put, List.setIfInBounds_toArray, List.set_cons_zero, List.set_cons_succ]
            refine mix_take (v := ?_) 13 rfl (by decide) (by kernel_rfl) (by kernel_rfl) (fun _ _ _ h => h) hS rfl ?_ ?_
            rotate_left
            · (intro w' hw'; first | (go_simp; done) | (go_simp; with_reducible rfl) | (obtain ⟨g0, g1, g2, g3, g4, g5, g6, g7, g8, g9, g10, g11, g12, g13, g14⟩ := hw'.out; first | (go_simp; done) | (go_simp; with_reducible rfl)))
            simp only [Act.put, List.setIfInBounds_toArray, List.set_cons_zero, List.set_cons_succ]
            refine mix_take (v := ?_) 15 rfl (by decide) (by kernel_rfl) (by kernel_rfl) (fun _ _ _ h => h) hS rfl ?_ ?_
            rotate_left
            · (intro w' hw'; first | (go_simp; done) | (go_simp; with_reducible rfl) | (obtain ⟨g0, g1, g2, g3, g4, g5, g6, g7, g8, g9, g10, g11, g12, g13, g14⟩ := hw'.out; first | (go_simp; done) | (go_simp; with_reducible rfl)))
            simp only [Act.put, List.setIfInBounds_toArray, List.set_cons_zero, List.set_cons_succ]
            refine mix_take (v := ?_) 16 rfl (by decide) (by kernel_rfl) (by kernel_rfl) (fun _ _ _ h => h) hS rfl ?_ ?_
            rotate_left
            · (intro w' hw'; first | (go_simp; done) | (go_simp; with_reducible rfl) | (obtain ⟨g0, g1, g2, g3, g4, g5, g6, g7, g8, g9, g10, g11, g12, g13, g14⟩ := hw'.out; first | (go_simp; done) | (go_simp; with_reducible rfl)))
            simp only [Act.put, List.setIfInBounds_toArray, List.set_cons_zero, List.set_cons_succ]
            refine mix_take (v := ?_) 17 rfl (by decide) (by kernel_rfl) (by kernel_rfl) (fun _ _ _ h => h) hS rfl ?_ ?_
            rotate_left
            · (intro w' hw'; first | (go_simp; done) | (go_simp; with_reducible rfl) | (obtain ⟨g0, g1, g2, g3, g4, g5, g6, g7, g8, g9, g10, g11, g12, g13, g14⟩ := hw'.out; first | (go_simp; done) | (go_simp; with_reducible rfl)))
            simp only [Act.put, List.setIfInBounds_toArray, List.set_cons_zero, List.set_cons_succ]
            refine mix_step 14 rfl (by decide) (by kernel_rfl) ?_
            have g := hS.out
            go_wp2_with fail
            refine (HS1.out _ g.1).mono ?_
            rintro e wn ⟨rfl, hbn⟩
            go_wp2_with fail
            refine mix_out (mkS2 _ (below_then g.1 hbn)) (fun hS => ?_)
            refine mix_take (v := ?_) 18 rfl (by decide) (by kernel_rfl) (by kernel_rfl) (fun _ _ _ h => h) hS rfl ?_ ?_
            rotate_left
            · (intro w' hw'; first | (go_simp; done) | (go_simp; with_reducible rfl) | (obtain ⟨g0, g1, g2, g3, g4, g5, g6, g7, g8, g9, g10, g11, g12, g13, g14⟩ := hw'.out; first | (go_simp; done) | (go_simp; with_reducible rfl)))
            simp only [Act.put, List.setIfInBounds_toArray, List.set_cons_zero, List.set_cons_succ]
            refine mix_take (v := ?_) 19 rfl (by decide) (by kernel_rfl) (by kernel_rfl) (fun _ _ _ h => h) hS rfl ?_ ?_
            rotate_left
            · (intro w' hw'; first | (go_simp; done) | (go_simp; with_reducible rfl) | (obtain ⟨g0, g1, g2, g3, g4, g5, g6, g7, g8, g9, g10, g11, g12, g13, g14⟩ := hw'.out; first | (go_simp; done) | (go_simp; with_reducible rfl)))
            simp only [Act.put, List.setIfInBounds_toArray, List.set_cons_zero, List.set_cons_succ]
            refine mix_take (v := ?_) 20 rfl (by decide) (by kernel_rfl) (by kernel_rfl) (fun _ _ _ h => h) hS rfl ?_ ?_
            rotate_left
            · (intro w' hw'; first | (go_simp; done) | (go_simp; with_reducible rfl) | (obtain ⟨g0, g1, g2, g3, g4, g5, g6, g7, g8, g9, g10, g11, g12, g13, g14⟩ := hw'.out; first | (go_simp; done) | (go_simp; with_reducible rfl)))
            simp only [Act.put, List.setIfInBounds_toArray, List.set_cons_zero, List.set_cons_succ]
            refine mix_take (v := ?_) 21 rfl (by decide) (by kernel_rfl) (by kernel_rfl) (fun _ _ _ h => h) hS rfl ?_ ?_
            rotate_left
            · (intro w' hw'; first | (go_simp; done) | (go_simp; with_reducible rfl) | (obtain ⟨g0, g1, g2, g3, g4, g5, g6, g7, g8, g9, g10, g11, g12, g13, g14⟩ := hw'.out; first | (go_simp; done) | (go_simp; with_reducible rfl)))
            simp only [Act.put, List.setIfInBounds_toArray, List.set_cons_zero, List.set_cons_succ]
            refine mix_take (v := ?_) 22 rfl (by decide) (by kernel_rfl) (by kernel_rfl) (fun _ _ _ h => h) hS rfl ?_ ?_
            rotate_left
            · (intro w' hw'; first | (go_simp; done) | (go_simp; with_reducible rfl) | (obtain ⟨g0, g1, g2, g3, g4, g5, g6, g7, g8, g9, g10, g11, g12, g13, g14⟩ := hw'.out; first | (go_simp; done) | (go_simp; with_reducible rfl)))
            simp only [Act.put, List.setIfInBounds_toArray, List.set_cons_zero, List.set_cons_succ]
            refine mix_take (v := ?_) 24 rfl (by decide) (by kernel_rfl) (by kernel_rfl) (fun _ _ _ h => h) hS rfl ?_ ?_
            rotate_left
            · (intro w' hw'; first | (go_simp; done) | (go_simp; with_reducible rfl) | (obtain ⟨g0, g1, g2, g3, g4, g5, g6, g7, g8, g9, g10, g11, g12, g13, g14⟩ := hw'.out; first | (go_simp; done) | (go_simp; with_reducible rfl)))
            simp only [Act.put, List.setIfInBounds_toArray, List.set_cons_zero, List.set_cons_succ]
            refine mix_take (v := ?_) 25 rfl (by decide) (by kernel_rfl) (by kernel_rfl) (fun _ _ _ h => h) hS rfl ?_ ?_
            rotate_left
            · (intro w' hw'; first | (go_simp; done) | (go_simp; with_reducible rfl) | (obtain ⟨g0, g1, g2, g3, g4, g5, g6, g7, g8, g9, g10, g11, g12, g13, g14⟩ := hw'.out; first | (go_simp; done) | (go_simp; with_reducible rfl)))
            simp only [Act.put, List.setIfInBounds_toArray, List.set_cons_zero, List.set_cons_succ]
            refine mix_take (v := ?_) 26 rfl (by decide) (by kernel_rfl) (by kernel_rfl) (fun _ _ _ h => h) hS rfl ?_ ?_
            rotate_left
            · (intro w' hw'; first | (go_simp; done) | (go_simp; with_reducible rfl) | (obtain ⟨g0, g1, g2, g3, g4, g5, g6, g7, g8, g9, g10, g11, g12, g13, g14⟩ := hw'.out; first | (go_simp; done) | (go_simp; with_reducible rfl)))
            simp only [Act.put, List.setIfInBounds_toArray, List.set_cons_zero, List.set_cons_succ]
            refine mix_step 23 rfl (by decide) (by kernel_rfl) ?_
            have g := hS.out
            go_wp2_with fail
            refine (HS2.out _ g.1).mono ?_
            rintro e wn ⟨rfl, hbn⟩
            go_wp2_with fail
            refine mix_out (mkS2 _ (below_then g.1 hbn)) (fun hS => ?_)
            refine mix_take (v := ?_) 27 rfl (by decide) (by kernel_rfl) (by kernel_rfl) (fun _ _ _ h => h) hS rfl ?_ ?_
            rotate_left
            · (intro w' hw'; first | (go_simp; done) | (go_simp; with_reducible rfl) | (obtain ⟨g0, g1, g2, g3, g4, g5, g6, g7, g8, g9, g10, g11, g12, g13, g14⟩ := hw'.out; first | (go_simp; done) | (go_simp; with_reducible rfl)))
            simp only [Act.put, List.setIfInBounds_toArray, List.set_cons_zero, List.set_cons_succ]
            refine mix_take (v := ?_) 28 rfl (by decide) (by kernel_rfl) (by kernel_rfl) (fun _ _ _ h => h) hS rfl ?_ ?_
            rotate_left
            · (intro w' hw'; first | (go_simp; done) | (go_simp; with_reducible rfl) | (obtain ⟨g0, g1, g2, g3, g4, g5, g6, g7, g8, g9, g10, g11, g12, g13, g14⟩ := hw'.out; first | (go_simp; done) | (go_simp; with_reducible rfl)))
            simp only [Act.put, List.setIfInBounds_toArray, List.set_cons_zero, List.set_cons_succ]
            refine mix_take (v := ?_) 29 rfl (by decide) (by kernel_rfl) (by kernel_rfl) (fun _ _ _ h => h) hS rfl ?_ ?_
            rotate_left
            · (intro w' hw'; first | (go_simp; done) | (go_simp; with_reducible rfl) | (obtain ⟨g0, g1, g2, g3, g4, g5, g6, g7, g8, g9, g10, g11, g12, g13, g14⟩ := hw'.out; first | (go_simp; done) | (go_simp; with_reducible rfl)))
            simp only [Act.put, List.setIfInBounds_toArray, List.set_cons_zero, List.set_cons_succ]
            refine mix_step 30 rfl (by decide) (by kernel_rfl) ?_
            have g := hS.out
            go_wp2_with fail
            refine (works07_c _).mono ?_
            rintro e wn ⟨rfl, hbn⟩
            go_wp2_with fail
            refine mix_out (mkS2 _ (below_then g.1 hbn)) (fun hS => ?_)
            refine mix_take (v := ?_) 31 rfl (by decide) (by kernel_rfl) (by kernel_rfl) (fun _ _ _ h => h) hS rfl ?_ ?_
            rotate_left
            · (intro w' hw'; first | (go_simp; done) | (go_simp; with_reducible rfl) | (obtain ⟨g0, g1, g2, g3, g4, g5, g6, g7, g8, g9, g10, g11, g12, g13, g14⟩ := hw'.out; first | (go_simp; done) | (go_simp; with_reducible rfl)))
            simp only [Act.put, List.setIfInBounds_toArray, List.set_cons_zero, List.set_cons_succ]
            refine mix_done (by kernel_rfl) ?_
            simp only [List.drop_succ_cons, List.drop_zero]
            have hbf := hS.out.1
            clear hS
            go_wp2_with fail
            go_ret
            exact ⟨by go_simp, hB12.trans (hbf.mono hB12.size)⟩
    · clear g
      have g := hS.out
      have hX := one_act (w1.alloc (.cells #[] 38)) x
      try simp only [World.size_alloc] at hX
      have hbX := below_alloc (w1.alloc (.cells #[] 38)).drew (.cells #[.int .i64 x.what, .int .i64 x.file, .int .i64 x.n, .int .i64 x.more, .slice x.sa x.sn x.sc] 38)
      go_wp2_with fail
      refine mix_out (mkS _ (below_then g.1 hbX)) (fun hS => ?_)
      refine mix_step 2 rfl (by decide) (by kernel_rfl) ?_
      clear g
      have g := hS.out
      refine wpList_append_act rfl _ _ rfl w1.heap.size _ 0 0 [] rfl (hownZ.later (Below.drew (below_alloc _ _))) a n cap l rfl (HA.out.1.later (hb1.trans (g.1.mono hb1.size))) rfl HA.out.2.1.symm (by omega) (by simp <;> omega) ?_
      intro a5 c5 w5 ho5 hb5 hg5
      have hX5 := hX.drew.grown hg5 (fun ad had e => by obtain rfl := Option.some.inj had; have := Option.some.inj e; simp at this)
      simp only [Nat.zero_add, List.nil_append] at ho5 ⊢
      go_wp2_with fail
      refine mix_out (mkS _ (g.1.trans hb5)) (fun hS => ?_)
      refine mix_step 5 rfl (by decide) (by kernel_rfl) ?_
      clear g
      have g := hS.out
      refine wpList_append_act rfl _ _ rfl w1.heap.size a5 n c5 l rfl ho5 _ 1 1 [x] rfl hX5 HA.out.2.1.symm rfl (by omega) g.1.size ?_
      intro a6 c6 w6 ho6 hb6 _
      go_wp2_with fail
      refine mix_out (mkS _ (g.1.trans hb6)) (fun hS => ?_)
      refine mix_step 6 rfl (by decide) (by kernel_rfl) ?_
      clear g
      have g := hS.out
      have hbw6 := hb1.trans (g.1.mono hb1.size)
      have hfew := few_c a6 (n + 1) c6 (l ++ [x]) 21 (by omega) (by decide) w6 ⟨ho6.sl.1, ho6.sl.2, fun y hy => by
        rcases List.mem_append.1 hy with hy | hy
        · exact (HA.out.2.2 y hy).later hbw6
        · obtain rfl := List.mem_singleton.1 hy; exact HX.out.later hbw6⟩
      rw [show (((21 : Nat)) : Int) = 21 from rfl] at hfew
      go_wp2_with fail
      refine hfew.mono ?_
      rintro e wn ⟨r, rfl, hfw, rfl⟩
      clear hfew
      have HFW := Lib.hid hfw
      clear hfw
      go_wp2_with fail
      refine mix_out (hS) (fun hS => ?_)
      refine mix_done (by kernel_rfl) ?_
      simp only [List.drop_succ_cons, List.drop_zero]
      have hb6 := hS.out.1
      clear g hS mkS
      clear hownZ hbZ ho5 hb5 hg5 hX hbX hX5 ho6
      cases r with
      | false =>
        go_wp2_with fail
        refine (works07_c _).mono ?_
        rintro e w7 ⟨rfl, hb7⟩
        go_wp2_with fail
        go_ret
        exact ⟨rfl, hbw6.trans (hb7.mono hbw6.size)⟩
      | true =>
        have hn21 : n + 1 ≤ 21 := (HFW.out rfl).1
        have HFX := Lib.hid (HFW.out rfl).2
        clear HFW
        have hrn := rnew_c 100
        have hg0 := ds0_good
        have hnc := new_c 100 w6 (by decide) (by decide)
        obtain ⟨s0, hs0⟩ : ∃ s0, ds0 100 = s0 := ⟨_, rfl⟩
        rw [hs0] at hrn hg0 hnc
        clear hs0
        have HNC := Lib.hid hnc
        have HRN := Lib.hid hrn
        clear hnc hrn
        unfold RV at HRN
        go_wp2_with fail
        refine HNC.out.mono ?_
        rintro e w7 ⟨rfl, hD7, hb7⟩
        go_wp2_with fail
        refine (HRN.out _).mono ?_
        rintro e w8 ⟨rfl, hb8⟩
        go_wp2_with fail
        refine (num7_c _ _).mono ?_
        rintro e wn ⟨rfl, rfl⟩
        go_wp2_with fail
        have hLP : LP w6 (w8.alloc (.cells #[.int .i64 s0.room, .string (strOf s0.f0), .string (strOf s0.f1), .int .i64 (s0.n0 : Int), .int .i64 (s0.n1 : Int), .int .i64 s0.now, .int .i64 s0.left] 46)) w8.heap.size := ⟨s0, hg0, (hD7.later hb8).later (below_alloc _ _), heap_alloc_new _ _, below_then hb7 (below_then hb8 (below_alloc _ _))⟩
        have hMlt : w6.heap.size < w8.heap.size := Nat.lt_of_lt_of_le hD7.lt hb8.size
        obtain ⟨M, hM⟩ : ∃ M, w8.heap.size = M := ⟨_, rfl⟩
        rw [hM] at hLP hMlt
        simp only [hM]
        clear hM hD7 hb7 hb8 HNC HRN hg0
        go_loopw [8] (fun i wr => ∃ k : Nat, k ≤ n ∧ i = .int .i64 (k : Int) ∧ LP w6 wr M) (fun i _ => n - (intOf i).toNat)
        case atStart => exact ⟨0, by omega, rfl, hLP⟩
        case round =>
          clear hLP
          obtain ⟨k, hk, rfl, s, hgs, hDs, hMs, hbr⟩ := hrel
          have hbw := hbw6.trans (hbr.mono hbw6.size)
          have HM := Lib.hid hMs
          clear hMs
          by_cases hlt : k < n
          · have hkl : k < l.length := by have := HA.out.2.1; omega
            obtain ⟨b, off, rfl, hbl⟩ := HA.out.1.some_of_lt (by have := HA.out.1.le; omega)
            have hsl := HA.out.1.later hbw
            have hyat := (HA.out.2.2 _ (List.getElem_mem hkl)).later hbw
            have hyb := HFX.out _ (List.mem_append_left [x] (List.getElem_mem hkl))
            have hg := actV_get l hkl
            obtain ⟨y, hy⟩ : ∃ y, l[k] = y := ⟨_, rfl⟩
            rw [hy] at hyat hyb hg
            clear hy
            have hkn : k * 5 + 4 < n * 5 := by omega
            have hc0 := (hsl.cell (i := k * 5) (by omega)).trans hg.1
            have hc1 := (hsl.cell (i := k * 5 + 1) (by omega)).trans hg.2.1
            have hc2 := (hsl.cell (i := k * 5 + 2) (by omega)).trans hg.2.2.1
            have hc3 := (hsl.cell (i := k * 5 + 3) (by omega)).trans hg.2.2.2.1
            have hc4 := (hsl.cell (i := k * 5 + 4) (by omega)).trans hg.2.2.2.2
            rw [← Nat.add_assoc] at hc1 hc2 hc3 hc4
            clear hg hsl
            have hbD : b < w6.heap.size := Nat.lt_of_lt_of_le hbl hbw6.size
            have HC := Lib.hid (And.intro hc0 (And.intro hc1 (And.intro hc2 (And.intro hc3 hc4))))
            clear hc0 hc1 hc2 hc3 hc4
            have hact := act_all w6.heap.size s y _ (hDs.later (below_drew wr)) hgs (hyat.later (below_drew wr)) hyb
            unfold RV at hact
            have hgd := does_good hgs y hyat.2
            obtain ⟨o, ho⟩ : ∃ o, (s.does y).1 = o := ⟨_, rfl⟩
            rw [ho] at hact hgd
            clear ho
            have HACT := Lib.hid hact
            clear hact
            go_wp2_with fail
            refine mix_begin 11 (Held fun w' => w'.cell? ⟨b, off + k * 5, none⟩ = some (.int .i64 y.what) ∧ w'.cell? ⟨b, off + k * 5 + 1, none⟩ = some (.int .i64 y.file) ∧ w'.cell? ⟨b, off + k * 5 + 2, none⟩ = some (.int .i64 y.n) ∧ w'.cell? ⟨b, off + k * 5 + 3, none⟩ = some (.int .i64 y.more) ∧ w'.cell? ⟨b, off + k * 5 + 4, none⟩ = some (.slice y.sa y.sn y.sc)) (by kernel_rfl) (by kernel_rfl) (Held.mk HC.out) (fun hS => ?_)
            refine mix_take (v := ?_) 0 rfl (by decide) (by kernel_rfl) (by kernel_rfl) (fun _ _ _ h => h) hS rfl ?_ ?_
            rotate_left
            · (intro w' hw'; first | (go_simp; done) | (go_simp; with_reducible rfl) | (obtain ⟨g0, g1, g2, g3, g4⟩ := hw'.out; first | (go_simp; done) | (go_simp; with_reducible rfl)))
            simp only [Act.put, List.setIfInBounds_toArray, List.set_cons_zero, List.set_cons_succ]
            refine mix_take (v := ?_) 2 rfl (by decide) (by kernel_rfl) (by kernel_rfl) (fun _ _ _ h => h) hS rfl ?_ ?_
            rotate_left
            · (intro w' hw'; first | (go_simp; done) | (go_simp; with_reducible rfl) | (obtain ⟨g0, g1, g2, g3, g4⟩ := hw'.out; first | (go_simp; done) | (go_simp; with_reducible rfl)))
            simp only [Act.put, List.setIfInBounds_toArray, List.set_cons_zero, List.set_cons_succ]
            refine mix_take (v := ?_) 3 rfl (by decide) (by kernel_rfl) (by kernel_rfl) (fun _ _ _ h => h) hS rfl ?_ ?_
            rotate_left
            · (intro w' hw'; first | (go_simp; done) | (go_simp; with_reducible rfl) | (obtain ⟨g0, g1, g2, g3, g4⟩ := hw'.out; first | (go_simp; done) | (go_simp; with_reducible rfl)))
            simp only [Act.put, List.setIfInBounds_toArray, List.set_cons_zero, List.set_cons_succ]
            refine mix_take (v := ?_) 4 rfl (by decide) (by kernel_rfl) (by kernel_rfl) (fun _ _ _ h => h) hS rfl ?_ ?_
            rotate_left
            · (intro w' hw'; first | (go_simp; done) | (go_simp; with_reducible rfl) | (obtain ⟨g0, g1, g2, g3, g4⟩ := hw'.out; first | (go_simp; done) | (go_simp; with_reducible rfl)))
            simp only [Act.put, List.setIfInBounds_toArray, List.set_cons_zero, List.set_cons_succ]
            refine mix_take (v := ?_) 5 rfl (by decide) (by kernel_rfl) (by kernel_rfl) (fun _ _ _ h => h) hS rfl ?_ ?_
            rotate_left
            · (intro w' hw'; first | (go_simp; done) | (go_simp; with_reducible rfl) | (obtain ⟨g0, g1, g2, g3, g4⟩ := hw'.out; first | (go_simp; done) | (go_simp; with_reducible rfl)))
            simp only [Act.put, List.setIfInBounds_toArray, List.set_cons_zero, List.set_cons_succ]
            refine mix_step 1 rfl (by decide) (by kernel_rfl) ?_
            have y0 := row_cell HM.out 0 rfl
            have y1 := row_cell HM.out 1 rfl
            have y2 := row_cell HM.out 2 rfl
            have y3 := row_cell HM.out 3 rfl
            have y4 := row_cell HM.out 4 rfl
            have y5 := row_cell HM.out 5 rfl
            have y6 := row_cell HM.out 6 rfl
            go_wp2_with fail
            clear y0 y1 y2 y3 y4 y5 y6
            refine mix_out (hS) (fun hS => ?_)
            refine mix_step 6 rfl (by decide) (by kernel_rfl) ?_
            go_wp2_with fail
            refine HACT.out.mono ?_
            rintro e w9 ⟨rfl, hD9, hg9⟩
            clear HACT
            have hM9 := (hg9.block _ (Array.getElem?_eq_some_iff.1 HM.out).1 (by intro e; have := Option.some.inj e; omega)).trans HM.out
            go_wp2_with fail
            refine mix_out (Held.mk ⟨grown_cell hg9 HC.out.1 (by omega), grown_cell hg9 HC.out.2.1 (by omega), grown_cell hg9 HC.out.2.2.1 (by omega), grown_cell hg9 HC.out.2.2.2.1 (by omega), grown_cell hg9 HC.out.2.2.2.2 (by omega)⟩) (fun hS => ?_)
            refine mix_take (v := ?_) 7 rfl (by decide) (by kernel_rfl) (by kernel_rfl) (fun _ _ _ h => h) hS rfl ?_ ?_
            rotate_left
            · (intro w' hw'; first | (go_simp; done) | (go_simp; with_reducible rfl) | (obtain ⟨g0, g1, g2, g3, g4⟩ := hw'.out; first | (go_simp; done) | (go_simp; with_reducible rfl)))
            simp only [Act.put, List.setIfInBounds_toArray, List.set_cons_zero, List.set_cons_succ]
            refine mix_take (v := ?_) 8 rfl (by decide) (by kernel_rfl) (by kernel_rfl) (fun _ _ _ h => h) hS rfl ?_ ?_
            rotate_left
            · (intro w' hw'; first | (go_simp; done) | (go_simp; with_reducible rfl) | (obtain ⟨g0, g1, g2, g3, g4⟩ := hw'.out; first | (go_simp; done) | (go_simp; with_reducible rfl)))
            simp only [Act.put, List.setIfInBounds_toArray, List.set_cons_zero, List.set_cons_succ]
            refine mix_take (v := ?_) 9 rfl (by decide) (by kernel_rfl) (by kernel_rfl) (fun _ _ _ h => h) hS rfl ?_ ?_
            rotate_left
            · (intro w' hw'; first | (go_simp; done) | (go_simp; with_reducible rfl) | (obtain ⟨g0, g1, g2, g3, g4⟩ := hw'.out; first | (go_simp; done) | (go_simp; with_reducible rfl)))
            simp only [Act.put, List.setIfInBounds_toArray, List.set_cons_zero, List.set_cons_succ]
            refine mix_step 10 rfl (by decide) (by kernel_rfl) ?_
            have y0 := row_cell hM9 0 rfl
            have y1 := row_cell hM9 1 rfl
            have y2 := row_cell hM9 2 rfl
            have y3 := row_cell hM9 3 rfl
            have y4 := row_cell hM9 4 rfl
            have y5 := row_cell hM9 5 rfl
            have y6 := row_cell hM9 6 rfl
            have z0 := row_fz hM9
            clear hS
            go_wp2_with fail
            clear y0 y1 y2 y3 y4 y5 y6 z0
            have hq := store7 hM9 (.int .i64 o.room) (.string (strOf o.f0)) (.string (strOf o.f1)) (.int .i64 (o.n0 : Int)) (.int .i64 (o.n1 : Int)) (.int .i64 o.now) (.int .i64 o.left)
            have hg7 := grown7 w9 M (.int .i64 o.room) (.string (strOf o.f0)) (.string (strOf o.f1)) (.int .i64 (o.n0 : Int)) (.int .i64 (o.n1 : Int)) (.int .i64 o.now) (.int .i64 o.left)
            have hb9 := below_grown hbr.drew hg9 (Nat.le_refl _) (Nat.le_refl _)
            have hD10 := hD9.past hg7 (by omega) hM9 hq (Nat.le_refl _) row7_no
            have hb10 := below_grown hb9 hg7 (by omega) (Nat.le_refl _)
            have HQ := Lib.hid hq
            clear hq
            refine mix_out (Held.mk ⟨grown_cell hg7 (grown_cell hg9 HC.out.1 (by omega)) (by omega), grown_cell hg7 (grown_cell hg9 HC.out.2.1 (by omega)) (by omega), grown_cell hg7 (grown_cell hg9 HC.out.2.2.1 (by omega)) (by omega), grown_cell hg7 (grown_cell hg9 HC.out.2.2.2.1 (by omega)) (by omega), grown_cell hg7 (grown_cell hg9 HC.out.2.2.2.2 (by omega)) (by omega)⟩) (fun hS => ?_)
            refine mix_done (by kernel_rfl) ?_
            simp only [List.drop_succ_cons, List.drop_zero]
            clear hS
            go_wp2_with fail
            exact ⟨⟨k + 1, by omega, by go_num, o, hgd, hD10, HQ.out, hb10⟩, by simp [intOf]; omega⟩
          · obtain rfl : k = n := by omega
            have hxb := HFX.out x (List.mem_append_right l (List.mem_singleton.2 rfl))
            have hM1 := HM.out
            have hMr := (Array.getElem?_eq_some_iff.1 hM1).1
            have hcp := copy_c w6.heap.size s wr hDs hgs.1
            have HCP := Lib.hid hcp
            clear hcp
            go_wp2_with fail
            refine HCP.out.mono ?_
            rintro e w9 ⟨rfl, hC9, hb9⟩
            clear HCP
            have hsm := same_c wr.heap.size w6.heap.size s s w9 hC9 (hDs.later hb9) hgs.1 hgs.1
            rw [same_refl] at hsm
            have HSM := Lib.hid hsm
            clear hsm
            go_wp2_with fail
            refine HSM.out.mono ?_
            rintro e w10 ⟨rfl, hb10⟩
            clear HSM
            have hb910 := below_then hb9 hb10
            have hM10 := (hb910.block _ hMr).trans hM1
            have hN10 := (hb910.block _ (by have := hbr.size; have := hb6.size; omega)).trans ((hbr.block _ (by have := hb6.size; omega)).trans ((hb6.block _ hNlt).trans HN.out))
            have q0 := row_cell hM10 0 rfl
            have q1 := row_cell hM10 1 rfl
            have q2 := row_cell hM10 2 rfl
            have q3 := row_cell hM10 3 rfl
            have q4 := row_cell hM10 4 rfl
            have q5 := row_cell hM10 5 rfl
            have q6 := row_cell hM10 6 rfl
            have p0 := row_cell hN10 0 rfl
            have p1 := row_cell hN10 1 rfl
            have p2 := row_cell hN10 2 rfl
            have p3 := row_cell hN10 3 rfl
            have p4 := row_cell hN10 4 rfl
            have hat := HX.out.later (hbw.trans (hb910.mono hbw.size))
            have hact := act_all wr.heap.size s x w10 (hC9.later hb10) hgs hat hxb
            unfold RV at hact
            have hgd := does_good hgs x hat.2
            obtain ⟨o, ho⟩ : ∃ o, (s.does x).1 = o := ⟨_, rfl⟩
            rw [ho] at hact hgd
            clear ho hat
            have HACT := Lib.hid hact
            clear hact
            go_wp2_with fail
            refine HACT.out.mono ?_
            rintro e w11 ⟨rfl, hC11, hg11⟩
            clear HACT q0 q1 q2 q3 q4 q5 q6 p0 p1 p2 p3 p4
            have hD11 := hDs.apart (grown_trans (grown_of_below hb910) hg11)
            have hM11 := (hg11.block _ (Nat.lt_of_lt_of_le hMr hb910.size) (by intro e; have := Option.some.inj e; omega)).trans hM10
            have hB11 := below_grown (hbw.trans (hb910.mono hbw.size)) hg11 (by have := hbw.size; omega) (Nat.le_refl _)
            clear hM10 hN10 hM1
            go_wp2_with fail
            have hQ := heap_alloc_new w11 (.cells #[.int .i64 o.room, .string (strOf o.f0), .string (strOf o.f1), .int .i64 (o.n0 : Int), .int .i64 (o.n1 : Int), .int .i64 o.now, .int .i64 o.left] 46)
            have hbq := below_alloc w11 (.cells #[.int .i64 o.room, .string (strOf o.f0), .string (strOf o.f1), .int .i64 (o.n0 : Int), .int .i64 (o.n1 : Int), .int .i64 o.now, .int .i64 o.left] 46)
            have hM12 := (hbq.block _ (Array.getElem?_eq_some_iff.1 hM11).1).trans hM11
            have hC12 := hC11.later hbq
            have hD12 := hD11.later hbq
            have hB12 := hB11.trans (hbq.mono hB11.size)
            obtain ⟨w12, hw12⟩ : ∃ w12, w11.alloc (.cells #[.int .i64 o.room, .string (strOf o.f0), .string (strOf o.f1), .int .i64 (o.n0 : Int), .int .i64 (o.n1 : Int), .int .i64 o.now, .int .i64 o.left] 46) = w12 := ⟨_, rfl⟩
            rw [hw12] at hQ hbq hM12 hC12 hD12 hB12 ⊢
            clear hw12 hC11 hD11 hM11 hB11 hbq hg11 hb910 hb10 hC9 hb9
            have hMl := (Array.getElem?_eq_some_iff.1 hM12).1
            have hQl := (Array.getElem?_eq_some_iff.1 hQ).1
            obtain ⟨Qb, hQb⟩ : ∃ Qb, w11.heap.size = Qb := ⟨_, rfl⟩
            obtain ⟨C, hC⟩ : ∃ C, wr.heap.size = C := ⟨_, rfl⟩
            rw [hQb] at hQ hQl
            rw [hC] at hC12
            simp only [hQb, hC]
            clear hQb hC hMr
            have HM12 := Lib.hid hM12
            have HQ := Lib.hid hQ
            clear hM12 hQ
            have mkS2 : ∀ w', Below w12.heap.size w12 w' → Held (fun w' => Below w12.heap.size w12 w' ∧ w'.cell? ⟨M, 0, none⟩ = some (.int .i64 s.room) ∧ w'.cell? ⟨M, 1, none⟩ = some (.string (strOf s.f0)) ∧ w'.cell? ⟨M, 2, none⟩ = some (.string (strOf s.f1)) ∧ w'.cell? ⟨M, 3, none⟩ = some (.int .i64 (s.n0 : Int)) ∧ w'.cell? ⟨M, 4, none⟩ = some (.int .i64 (s.n1 : Int)) ∧ w'.cell? ⟨M, 5, none⟩ = some (.int .i64 s.now) ∧ w'.cell? ⟨M, 6, none⟩ = some (.int .i64 s.left) ∧ w'.cell? ⟨Qb, 0, none⟩ = some (.int .i64 o.room) ∧ w'.cell? ⟨Qb, 1, none⟩ = some (.string (strOf o.f0)) ∧ w'.cell? ⟨Qb, 2, none⟩ = some (.string (strOf o.f1)) ∧ w'.cell? ⟨Qb, 3, none⟩ = some (.int .i64 (o.n0 : Int)) ∧ w'.cell? ⟨Qb, 4, none⟩ = some (.int .i64 (o.n1 : Int)) ∧ w'.cell? ⟨Qb, 5, none⟩ = some (.int .i64 o.now) ∧ w'.cell? ⟨Qb, 6, none⟩ = some (.int .i64 o.left)) w' := fun w' hb => Held.mk ⟨hb, (hb.cell hMl).trans (row_cell HM12.out 0 rfl), (hb.cell hMl).trans (row_cell HM12.out 1 rfl), (hb.cell hMl).trans (row_cell HM12.out 2 rfl), (hb.cell hMl).trans (row_cell HM12.out 3 rfl), (hb.cell hMl).trans (row_cell HM12.out 4 rfl), (hb.cell hMl).trans (row_cell HM12.out 5 rfl), (hb.cell hMl).trans (row_cell HM12.out 6 rfl), (hb.cell hQl).trans (row_cell HQ.out 0 rfl), (hb.cell hQl).trans (row_cell HQ.out 1 rfl), (hb.cell hQl).trans (row_cell HQ.out 2 rfl), (hb.cell hQl).trans (row_cell HQ.out 3 rfl), (hb.cell hQl).trans (row_cell HQ.out 4 rfl), (hb.cell hQl).trans (row_cell HQ.out 5 rfl), (hb.cell hQl).trans (row_cell HQ.out 6 rfl)⟩
            have he := eqIn_RV o s
            unfold RV at he
            have hs1 := fun W (hb : Below w12.heap.size w12 W) => same_c C w6.heap.size o s W (hC12.later hb) (hD12.later hb) hgd.1 hgs.1
            have hs2 := fun W (hb : Below w12.heap.size w12 W) => same_c w6.heap.size C s o W (hD12.later hb) (hC12.later hb) hgs.1 hgd.1
            rw [same_symm s o] at hs2
            obtain ⟨z, hz⟩ : ∃ z, o.same s = z := ⟨_, rfl⟩
            rw [hz] at he hs1 hs2
            clear hz
            have i1 := fun W (hb : Below w12.heap.size w12 W) => is_c w6.heap.size s W (hD12.later hb) hgs.1
            have i2 := fun W (hb : Below w12.heap.size w12 W) => is_c C o W (hC12.later hb) hgd.1
            unfold RV at i1 i2
            have HS1 := Lib.hid hs1
            have HS2 := Lib.hid hs2
            have HI1 := Lib.hid i1
            have HI2 := Lib.hid i2
            clear hs1 hs2 i1 i2
            refine mix_begin 32 (Held fun w' => Below w12.heap.size w12 w' ∧ w'.cell? ⟨M, 0, none⟩ = some (.int .i64 s.room) ∧ w'.cell? ⟨M, 1, none⟩ = some (.string (strOf s.f0)) ∧ w'.cell? ⟨M, 2, none⟩ = some (.string (strOf s.f1)) ∧ w'.cell? ⟨M, 3, none⟩ = some (.int .i64 (s.n0 : Int)) ∧ w'.cell? ⟨M, 4, none⟩ = some (.int .i64 (s.n1 : Int)) ∧ w'.cell? ⟨M, 5, none⟩ = some (.int .i64 s.now) ∧ w'.cell? ⟨M, 6, none⟩ = some (.int .i64 s.left) ∧ w'.cell? ⟨Qb, 0, none⟩ = some (.int .i64 o.room) ∧ w'.cell? ⟨Qb, 1, none⟩ = some (.string (strOf o.f0)) ∧ w'.cell? ⟨Qb, 2, none⟩ = some (.string (strOf o.f1)) ∧ w'.cell? ⟨Qb, 3, none⟩ = some (.int .i64 (o.n0 : Int)) ∧ w'.cell? ⟨Qb, 4, none⟩ = some (.int .i64 (o.n1 : Int)) ∧ w'.cell? ⟨Qb, 5, none⟩ = some (.int .i64 o.now) ∧ w'.cell? ⟨Qb, 6, none⟩ = some (.int .i64 o.left)) (by kernel_rfl) (by kernel_rfl) (mkS2 _ (below_drew _)) (fun hS => ?_)
            refine mix_take (v := ?_) 0 rfl (by decide) (by kernel_rfl) (by kernel_rfl) (fun _ _ _ h => h) hS rfl ?_ ?_
            rotate_left
            · (intro w' hw'; first | (go_simp; done) | (go_simp; with_reducible rfl) | (obtain ⟨g0, g1, g2, g3, g4, g5, g6, g7, g8, g9, g10, g11, g12, g13, g14⟩ := hw'.out; first | (go_simp; done) | (go_simp; with_reducible rfl)))
            simp only [Act.put, List.setIfInBounds_toArray, List.set_cons_zero, List.set_cons_succ]
            refine mix_take (v := ?_) 1 rfl (by decide) (by kernel_rfl) (by kernel_rfl) (fun _ _ _ h => h) hS rfl ?_ ?_
            rotate_left
            · (intro w' hw'; first | (go_simp; done) | (go_simp; with_reducible rfl) | (obtain ⟨g0, g1, g2, g3, g4, g5, g6, g7, g8, g9, g10, g11, g12, g13, g14⟩ := hw'.out; first | (go_simp; done) | (go_simp; with_reducible rfl)))
            simp only [Act.put, List.setIfInBounds_toArray, List.set_cons_zero, List.set_cons_succ]
            refine mix_take (v := ?_) 2 rfl (by decide) (by kernel_rfl) (by kernel_rfl) (fun _ _ _ h => h) hS rfl ?_ ?_
            rotate_left
            · (intro w' hw'; first | (go_simp; done) | (go_simp; with_reducible rfl) | (obtain ⟨g0, g1, g2, g3, g4, g5, g6, g7, g8, g9, g10, g11, g12, g13, g14⟩ := hw'.out; first | (go_simp; done) | (go_simp; with_reducible rfl)))
            simp only [Act.put, List.setIfInBounds_toArray, List.set_cons_zero, List.set_cons_succ]
            refine mix_take (v := ?_) 3 rfl (by decide) (by kernel_rfl) (by kernel_rfl) (fun _ _ _ h => h) hS rfl ?_ ?_
            rotate_left
            · (intro w' hw'; first | (go_simp; done) | (go_simp; with_reducible rfl) | (obtain ⟨g0, g1, g2, g3, g4, g5, g6, g7, g8, g9, g10, g11, g12, g13, g14⟩ := hw'.out; first | (go_simp; done) | (go_simp; with_reducible rfl)))
            simp only [Act.put, List.setIfInBounds_toArray, List.set_cons_zero, List.set_cons_succ]
            refine mix_step 4 rfl (by decide) (by kernel_rfl) ?_
            have g := hS.out
            go_wp2_with fail
            refine (HI1.out _ g.1).mono ?_
            rintro e wn ⟨rfl, hbn⟩
            go_wp2_with fail
            refine mix_out (mkS2 _ (below_then g.1 hbn)) (fun hS => ?_)
            refine mix_take (v := ?_) 5 rfl (by decide) (by kernel_rfl) (by kernel_rfl) (fun _ _ _ h => h) hS rfl ?_ ?_
            rotate_left
            · (intro w' hw'; first | (go_simp; done) | (go_simp; with_reducible rfl) | (obtain ⟨g0, g1, g2, g3, g4, g5, g6, g7, g8, g9, g10, g11, g12, g13, g14⟩ := hw'.out; first | (go_simp; done) | (go_simp; with_reducible rfl)))
            simp only [Act.put, List.setIfInBounds_toArray, List.set_cons_zero, List.set_cons_succ]
            refine mix_take (v := ?_) 6 rfl (by decide) (by kernel_rfl) (by kernel_rfl) (fun _ _ _ h => h) hS rfl ?_ ?_
            rotate_left
            · (intro w' hw'; first | (go_simp; done) | (go_simp; with_reducible rfl) | (obtain ⟨g0, g1, g2, g3, g4, g5, g6, g7, g8, g9, g10, g11, g12, g13, g14⟩ := hw'.out; first | (go_simp; done) | (go_simp; with_reducible rfl)))
            simp only [Act.put, List.setIfInBounds_toArray, List.set_cons_zero, List.set_cons_succ]
            refine mix_take (v := ?_) 7 rfl (by decide) (by kernel_rfl) (by kernel_rfl) (fun _ _ _ h => h) hS rfl ?_ ?_
            rotate_left
            · (intro w' hw'; first | (go_simp; done) | (go_simp; with_reducible rfl) | (obtain ⟨g0, g1, g2, g3, g4, g5, g6, g7, g8, g9, g10, g11, g12, g13, g14⟩ := hw'.out; first | (go_simp; done) | (go_simp; with_reducible rfl)))
            simp only [Act.put, List.setIfInBounds_toArray, List.set_cons_zero, List.set_cons_succ]
            refine mix_take (v := ?_) 8 rfl (by decide) (by kernel_rfl) (by kernel_rfl) (fun _ _ _ h => h) hS rfl ?_ ?_
            rotate_left
            · (intro w' hw'; first | (go_simp; done) | (go_simp; with_reducible rfl) | (obtain ⟨g0, g1, g2, g3, g4, g5, g6, g7, g8, g9, g10, g11, g12, g13, g14⟩ := hw'.out; first | (go_simp; done) | (go_simp; with_reducible rfl)))
            simp only [Act.put, List.setIfInBounds_toArray, List.set_cons_zero, List.set_cons_succ]
            refine mix_step 9 rfl (by decide) (by kernel_rfl) ?_
            have g := hS.out
            go_wp2_with fail
            refine (HI2.out _ g.1).mono ?_
            rintro e wn ⟨rfl, hbn⟩
            go_wp2_with fail
            refine mix_out (mkS2 _ (below_then g.1 hbn)) (fun hS => ?_)
            refine mix_take (v := ?_) 10 rfl (by decide) (by kernel_rfl) (by kernel_rfl) (fun _ _ _ h => h) hS rfl ?_ ?_
            rotate_left
            · (intro w' hw'; first | (go_simp; done) | (go_simp; with_reducible rfl) | (obtain ⟨g0, g1, g2, g3, g4, g5, g6, g7, g8, g9, g10, g11, g12, g13, g14⟩ := hw'.out; first | (go_simp; done) | (go_simp; with_reducible rfl)))
            simp only [Act.put, List.setIfInBounds_toArray, List.set_cons_zero, List.set_cons_succ]
            refine mix_take (v := ?_) 11 rfl (by decide) (by kernel_rfl) (by kernel_rfl) (fun _ _ _ h => h) hS rfl ?_ ?_
            rotate_left
            · (intro w' hw'; first | (go_simp; done) | (go_simp; with_reducible rfl) | (obtain ⟨g0, g1, g2, g3, g4, g5, g6, g7, g8, g9, g10, g11, g12, g13, g14⟩ := hw'.out; first | (go_simp; done) | (go_simp; with_reducible rfl)))
            simp only [Act.put, List.setIfInBounds_toArray, List.set_cons_zero, List.set_cons_succ]
            refine mix_take (v := ?_) 12 rfl (by decide) (by kernel_rfl) (by kernel_rfl) (fun _ _ _ h => h) hS rfl ?_ ?_
            rotate_left
            · (intro w' hw'; first | (go_simp; done) | (go_simp; with_reducible rfl) | (obtain ⟨g0, g1, g2, g3, g4, g5, g6, g7, g8, g9, g10, g11, g12, g13, g14⟩ := hw'.out; first | (go_simp; done) | (go_simp; with_reducible rfl)))
            simp only [Act.put, List.setIfInBounds_toArray, List.set_cons_zero, List.set_cons_succ]
            refine mix_take (v := ?_) 13 rfl (by decide) (by kernel_rfl) (by kernel_rfl) (fun _ _ _ h => h) hS rfl ?_ ?_
            rotate_left
            · (intro w' hw'; first | (go_simp; done) | (go_simp; with_reducible rfl) | (obtain ⟨g0, g1, g2, g3, g4, g5, g6, g7, g8, g9, g10, g11, g12, g13, g14⟩ := hw'.out; first | (go_simp; done) | (go_simp; with_reducible rfl)))
            simp only [Act.put, List.setIfInBounds_toArray, List.set_cons_zero, List.set_cons_succ]
            refine mix_take (v := ?_) 15 rfl (by decide) (by kernel_rfl) (by kernel_rfl) (fun _ _ _ h => h) hS rfl ?_ ?_
            rotate_left
            · (intro w' hw'; first | (go_simp; done) | (go_simp; with_reducible rfl) | (obtain ⟨g0, g1, g2, g3, g4, g5, g6, g7, g8, g9, g10, g11, g12, g13, g14⟩ := hw'.out; first | (go_simp; done) | (go_simp; with_reducible rfl)))
            simp only [Act.put, List.setIfInBounds_toArray, List.set_cons_zero, List.set_cons_succ]
            refine mix_take (v := ?_) 16 rfl (by decide) (by kernel_rfl) (by kernel_rfl) (fun _ _ _ h => h) hS rfl ?_ ?_
            rotate_left
            · (intro w' hw'; first | (go_simp; done) | (go_simp; with_reducible rfl) | (obtain ⟨g0, g1, g2, g3, g4, g5, g6, g7, g8, g9, g10, g11, g12, g13, g14⟩ := hw'.out; first | (go_simp; done) | (go_simp; with_reducible rfl)))
            simp only [Act.put, List.setIfInBounds_toArray, List.set_cons_zero, List.set_cons_succ]
            refine mix_take (v := ?_) 17 rfl (by decide) (by kernel_rfl) (by kernel_rfl) (fun _ _ _ h => h) hS rfl ?_ ?_
            rotate_left
            · (intro w' hw'; first | (go_simp; done) | (go_simp; with_reducible rfl) | (obtain ⟨g0, g1, g2, g3, g4, g5, g6, g7, g8, g9, g10, g11, g12, g13, g14⟩ := hw'.out; first | (go_simp; done) | (go_simp; with_reducible rfl)))
            simp only [Act.put, List.setIfInBounds_toArray, List.set_cons_zero, List.set_cons_succ]
            refine mix_step 14 rfl (by decide) (by kernel_rfl) ?_
            have g := hS.out
            go_wp2_with fail
            refine (HS1.out _ g.1).mono ?_
            rintro e wn ⟨rfl, hbn⟩
            go_wp2_with fail
            refine mix_out (mkS2 _ (below_then g.1 hbn)) (fun hS => ?_)
            refine mix_take (v := ?_) 18 rfl (by decide) (by kernel_rfl) (by kernel_rfl) (fun _ _ _ h => h) hS rfl ?_ ?_
            rotate_left
            · (intro w' hw'; first | (go_simp; done) | (go_simp; with_reducible rfl) | (obtain ⟨g0, g1, g2, g3, g4, g5, g6, g7, g8, g9, g10, g11, g12, g13, g14⟩ := hw'.out; first | (go_simp; done) | (go_simp; with_reducible rfl)))
            simp only [Act.put, List.setIfInBounds_toArray, List.set_cons_zero, List.set_cons_succ]
            refine mix_take (v := ?_) 19 rfl (by decide) (by kernel_rfl) (by kernel_rfl) (fun _ _ _ h => h) hS rfl ?_ ?_
            rotate_left
            · (intro w' hw'; first | (go_simp; done) | (go_simp; with_reducible rfl) | (obtain ⟨g0, g1, g2, g3, g4, g5, g6, g7, g8, g9, g10, g11, g12, g13, g14⟩ := hw'.out; first | (go_simp; done) | (go_simp; with_reducible rfl)))
            simp only [Act.put, List.setIfInBounds_toArray, List.set_cons_zero, List.set_cons_succ]
            refine mix_take (v := ?_) 20 rfl (by decide) (by kernel_rfl) (by kernel_rfl) (fun _ _ _ h => h) hS rfl ?_ ?_
            rotate_left
            · (intro w' hw'; first | (go_simp; done) | (go_simp; with_reducible rfl) | (obtain ⟨g0, g1, g2, g3, g4, g5, g6, g7, g8, g9, g10, g11, g12, g13, g14⟩ := hw'.out; first | (go_simp; done) | (go_simp; with_reducible rfl)))
            simp only [Act.put, List.setIfInBounds_toArray, List.set_cons_zero, List.set_cons_succ]
            refine mix_take (v := ?_) 21 rfl (by decide) (by kernel_rfl) (by kernel_rfl) (fun _ _ _ h => h) hS rfl ?_ ?_
            rotate_left
            · (intro w' hw'; first | (go_simp; done) | (go_simp; with_reducible rfl) | (obtain ⟨g0, g1, g2, g3, g4, g5, g6, g7, g8, g9, g10, g11, g12, g13, g14⟩ := hw'.out; first | (go_simp; done) | (go_simp; with_reducible rfl)))
            simp only [Act.put, List.setIfInBounds_toArray, List.set_cons_zero, List.set_cons_succ]
            refine mix_take (v := ?_) 22 rfl (by decide) (by kernel_rfl) (by kernel_rfl) (fun _ _ _ h => h) hS rfl ?_ ?_
            rotate_left
            · (intro w' hw'; first | (go_simp; done) | (go_simp; with_reducible rfl) | (obtain ⟨g0, g1, g2, g3, g4, g5, g6, g7, g8, g9, g10, g11, g12, g13, g14⟩ := hw'.out; first | (go_simp; done) | (go_simp; with_reducible rfl)))
            simp only [Act.put, List.setIfInBounds_toArray, List.set_cons_zero, List.set_cons_succ]
            refine mix_take (v := ?_) 24 rfl (by decide) (by kernel_rfl) (by kernel_rfl) (fun _ _ _ h => h) hS rfl ?_ ?_
            rotate_left
            · (intro w' hw'; first | (go_simp; done) | (go_simp; with_reducible rfl) | (obtain ⟨g0, g1, g2, g3, g4, g5, g6, g7, g8, g9, g10, g11, g12, g13, g14⟩ := hw'.out; first | (go_simp; done) | (go_simp; with_reducible rfl)))
            simp only [Act.put, List.setIfInBounds_toArray, List.set_cons_zero, List.set_cons_succ]
            refine mix_take (v := ?_) 25 rfl (by decide) (by kernel_rfl) (by kernel_rfl) (fun _ _ _ h => h) hS rfl ?_ ?_
            rotate_left
            · (intro w' hw'; first | (go_simp; done) | (go_simp; with_reducible rfl) | (obtain ⟨g0, g1, g2, g3, g4, g5, g6, g7, g8, g9, g10, g11, g12, g13, g14⟩ := hw'.out; first | (go_simp; done) | (go_simp; with_reducible rfl)))
            simp only [Act.put, List.setIfInBounds_toArray, List.set_cons_zero, List.set_cons_succ]
            refine mix_take (v := ?_) 26 rfl (by decide) (by kernel_rfl) (by kernel_rfl) (fun _ _ _ h => h) hS rfl ?_ ?_
            rotate_left
            · (intro w' hw'; first | (go_simp; done) | (go_simp; with_reducible rfl) | (obtain ⟨g0, g1, g2, g3, g4, g5, g6, g7, g8, g9, g10, g11, g12, g13, g14⟩ := hw'.out; first | (go_simp; done) | (go_simp; with_reducible rfl)))
            simp only [Act.put, List.setIfInBounds_toArray, List.set_cons_zero, List.set_cons_succ]
            refine mix_step 23 rfl (by decide) (by kernel_rfl) ?_
            have g := hS.out
            go_wp2_with fail
            refine (HS2.out _ g.1).mono ?_
            rintro e wn ⟨rfl, hbn⟩
            go_wp2_with fail
            refine mix_out (mkS2 _ (below_then g.1 hbn)) (fun hS => ?_)
            refine mix_take (v := ?_) 27 rfl (by decide) (by kernel_rfl) (by kernel_rfl) (fun _ _ _ h => h) hS rfl ?_ ?_
            rotate_left
            · (intro w' hw'; first | (go_simp; done) | (go_simp; with_reducible rfl) | (obtain ⟨g0, g1, g2, g3, g4, g5, g6, g7, g8, g9, g10, g11, g12, g13, g14⟩ := hw'.out; first | (go_simp; done) | (go_simp; with_reducible rfl)))
            simp only [Act.put, List.setIfInBounds_toArray, List.set_cons_zero, List.set_cons_succ]
            refine mix_take (v := ?_) 28 rfl (by decide) (by kernel_rfl) (by kernel_rfl) (fun _ _ _ h => h) hS rfl ?_ ?_
            rotate_left
            · (intro w' hw'; first | (go_simp; done) | (go_simp; with_reducible rfl) | (obtain ⟨g0, g1, g2, g3, g4, g5, g6, g7, g8, g9, g10, g11, g12, g13, g14⟩ := hw'.out; first | (go_simp; done) | (go_simp; with_reducible rfl)))
            simp only [Act.put, List.setIfInBounds_toArray, List.set_cons_zero, List.set_cons_succ]
            refine mix_take (v := ?_) 29 rfl (by decide) (by kernel_rfl) (by kernel_rfl) (fun _ _ _ h => h) hS rfl ?_ ?_
            rotate_left
            · (intro w' hw'; first | (go_simp; done) | (go_simp; with_reducible rfl) | (obtain ⟨g0, g1, g2, g3, g4, g5, g6, g7, g8, g9, g10, g11, g12, g13, g14⟩ := hw'.out; first | (go_simp; done) | (go_simp; with_reducible rfl)))
            simp only [Act.put, List.setIfInBounds_toArray, List.set_cons_zero, List.set_cons_succ]
            refine mix_step 30 rfl (by decide) (by kernel_rfl) ?_
            have g := hS.out
            go_wp2_with fail
            refine (works07_c _).mono ?_
            rintro e wn ⟨rfl, hbn⟩
            go_wp2_with fail
            refine mix_out (mkS2 _ (below_then g.1 hbn)) (fun hS => ?_)
            refine mix_take (v := ?_) 31 rfl (by decide) (by kernel_rfl) (by kernel_rfl) (fun _ _ _ h => h) hS rfl ?_ ?_
            rotate_left
            · (intro w' hw'; first | (go_simp; done) | (go_simp; with_reducible rfl) | (obtain ⟨g0, g1, g2, g3, g4, g5, g6, g7, g8, g9, g10, g11, g12, g13, g14⟩ := hw'.out; first | (go_simp; done) | (go_simp; with_reducible rfl)))
            simp only [Act.put, List.setIfInBounds_toArray, List.set_cons_zero, List.set_cons_succ]
            refine mix_done (by kernel_rfl) ?_
            simp only [List.drop_succ_cons, List.drop_zero]
            have hbf := hS.out.1
            clear hS
            go_wp2_with fail
            go_ret
            exact ⟨by go_simp, hB12.trans (hbf.mono hB12.size)⟩
  · have g := hS.out
    have hX := one_act w1 x
    try simp only [World.size_alloc] at hX
    have hbX := below_alloc w1.drew (.cells #[.int .i64 x.what, .int .i64 x.file, .int .i64 x.n, .int .i64 x.more, .slice x.sa x.sn x.sc] 38)
    go_wp2_with fail
    refine mix_out (mkS _ (below_then g.1 hbX)) (fun hS => ?_)
    refine mix_step 0 rfl (by decide) (by kernel_rfl) ?_
    clear g
    have g := hS.out
    have hownZ := own_none (w1.alloc (.cells #[.int .i64 x.what, .int .i64 x.file, .int .i64 x.n, .int .i64 x.more, .slice x.sa x.sn x.sc] 38))
    try simp only [World.size_alloc] at hownZ
    have hbZ := below_alloc (w1.alloc (.cells #[.int .i64 x.what, .int .i64 x.file, .int .i64 x.n, .int .i64 x.more, .slice x.sa x.sn x.sc] 38)).drew (.cells #[] 38)
    go_wp2_with fail
    refine mix_out (mkS _ (below_then g.1 hbZ)) (fun hS => ?_)
    refine mix_step 2 rfl (by decide) (by kernel_rfl) ?_
    clear g
    have g := hS.out
    refine wpList_append_act rfl _ _ rfl w1.heap.size _ 0 0 [] rfl ((hownZ.later (below_drew _)).mono (Nat.le_succ _)) a n cap l rfl (HA.out.1.later (hb1.trans (g.1.mono hb1.size))) rfl HA.out.2.1.symm (by omega) (by simp <;> omega) ?_
    intro a5 c5 w5 ho5 hb5 hg5
    have hX5 := (hX.alloc (.cells #[] 38)).drew.grown hg5 (fun ad had e => by obtain rfl := Option.some.inj had; have := Option.some.inj e; simp at this)
    simp only [Nat.zero_add, List.nil_append] at ho5 ⊢
    go_wp2_with fail
    refine mix_out (mkS _ (g.1.trans hb5)) (fun hS => ?_)
    refine mix_step 5 rfl (by decide) (by kernel_rfl) ?_
    clear g
    have g := hS.out
    refine wpList_append_act rfl _ _ rfl w1.heap.size a5 n c5 l rfl ho5 _ 1 1 [x] rfl hX5 HA.out.2.1.symm rfl (by omega) g.1.size ?_
    intro a6 c6 w6 ho6 hb6 _
    go_wp2_with fail
    refine mix_out (mkS _ (g.1.trans hb6)) (fun hS => ?_)
    refine mix_step 6 rfl (by decide) (by kernel_rfl) ?_
    clear g
    have g := hS.out
    have hbw6 := hb1.trans (g.1.mono hb1.size)
    have hfew := few_c a6 (n + 1) c6 (l ++ [x]) 21 (by omega) (by decide) w6 ⟨ho6.sl.1, ho6.sl.2, fun y hy => by
      rcases List.mem_append.1 hy with hy | hy
      · exact (HA.out.2.2 y hy).later hbw6
      · obtain rfl := List.mem_singleton.1 hy; exact HX.out.later hbw6⟩
    rw [show (((21 : Nat)) : Int) = 21 from rfl] at hfew
    go_wp2_with fail
    refine hfew.mono ?_
    rintro e wn ⟨r, rfl, hfw, rfl⟩
    clear hfew
    have HFW := Lib.hid hfw
    clear hfw
    go_wp2_with fail
    refine mix_out (hS) (fun hS => ?_)
    refine mix_done (by kernel_rfl) ?_
    simp only [List.drop_succ_cons, List.drop_zero]
    have hb6 := hS.out.1
    clear g hS mkS
    clear hownZ hbZ ho5 hb5 hg5 hX hbX hX5 ho6
    cases r with
    | false =>
      go_wp2_with fail
      refine (works07_c _).mono ?_
      rintro e w7 ⟨rfl, hb7⟩
      go_wp2_with fail
      go_ret
      exact ⟨rfl, hbw6.trans (hb7.mono hbw6.size)⟩
    | true =>
      have hn21 : n + 1 ≤ 21 := (HFW.out rfl).1
      have HFX := Lib.hid (HFW.out rfl).2
      clear HFW
      have hrn := rnew_c 100
      have hg0 := ds0_good
      have hnc := new_c 100 w6 (by decide) (by decide)
      obtain ⟨s0, hs0⟩ : ∃ s0, ds0 100 = s0 := ⟨_, rfl⟩
      rw [hs0] at hrn hg0 hnc
      clear hs0
      have HNC := Lib.hid hnc
      have HRN := Lib.hid hrn
      clear hnc hrn
      unfold RV at HRN
      go_wp2_with fail
      refine HNC.out.mono ?_
      rintro e w7 ⟨rfl, hD7, hb7⟩
      go_wp2_with fail
      refine (HRN.out _).mono ?_
      rintro e w8 ⟨rfl, hb8⟩
      go_wp2_with fail
      refine (num7_c _ _).mono ?_
      rintro e wn ⟨rfl, rfl⟩
      go_wp2_with fail
      have hLP : LP w6 (w8.alloc (.cells #[.int .i64 s0.room, .string (strOf s0.f0), .string (strOf s0.f1), .int .i64 (s0.n0 : Int), .int .i64 (s0.n1 : Int), .int .i64 s0.now, .int .i64 s0.left] 46)) w8.heap.size := ⟨s0, hg0, (hD7.later hb8).later (below_alloc _ _), heap_alloc_new _ _, below_then hb7 (below_then hb8 (below_alloc _ _))⟩
      have hMlt : w6.heap.size < w8.heap.size := Nat.lt_of_lt_of_le hD7.lt hb8.size
      obtain ⟨M, hM⟩ : ∃ M, w8.heap.size = M := ⟨_, rfl⟩
      rw [hM] at hLP hMlt
      simp only [hM]
      clear hM hD7 hb7 hb8 HNC HRN hg0
      go_loopw [8] (fun i wr => ∃ k : Nat, k ≤ n ∧ i = .int .i64 (k : Int) ∧ LP w6 wr M) (fun i _ => n - (intOf i).toNat)
      case atStart => exact ⟨0, by omega, rfl, hLP⟩
      case round =>
        clear hLP
        obtain ⟨k, hk, rfl, s, hgs, hDs, hMs, hbr⟩ := hrel
        have hbw := hbw6.trans (hbr.mono hbw6.size)
        have HM := Lib.hid hMs
        clear hMs
        by_cases hlt : k < n
        · have hkl : k < l.length := by have := HA.out.2.1; omega
          obtain ⟨b, off, rfl, hbl⟩ := HA.out.1.some_of_lt (by have := HA.out.1.le; omega)
          have hsl := HA.out.1.later hbw
          have hyat := (HA.out.2.2 _ (List.getElem_mem hkl)).later hbw
          have hyb := HFX.out _ (List.mem_append_left [x] (List.getElem_mem hkl))
          have hg := actV_get l hkl
          obtain ⟨y, hy⟩ : ∃ y, l[k] = y := ⟨_, rfl⟩
          rw [hy] at hyat hyb hg
          clear hy
          have hkn : k * 5 + 4 < n * 5 := by omega
          have hc0 := (hsl.cell (i := k * 5) (by omega)).trans hg.1
          have hc1 := (hsl.cell (i := k * 5 + 1) (by omega)).trans hg.2.1
          have hc2 := (hsl.cell (i := k * 5 + 2) (by omega)).trans hg.2.2.1
          have hc3 := (hsl.cell (i := k * 5 + 3) (by omega)).trans hg.2.2.2.1
          have hc4 := (hsl.cell (i := k * 5 + 4) (by omega)).trans hg.2.2.2.2
          rw [← Nat.add_assoc] at hc1 hc2 hc3 hc4
          clear hg hsl
          have hbD : b < w6.heap.size := Nat.lt_of_lt_of_le hbl hbw6.size
          have HC := Lib.hid (And.intro hc0 (And.intro hc1 (And.intro hc2 (And.intro hc3 hc4))))
          clear hc0 hc1 hc2 hc3 hc4
          have hact := act_all w6.heap.size s y _ (hDs.later (below_drew wr)) hgs (hyat.later (below_drew wr)) hyb
          unfold RV at hact
          have hgd := does_good hgs y hyat.2
          obtain ⟨o, ho⟩ : ∃ o, (s.does y).1 = o := ⟨_, rfl⟩
          rw [ho] at hact hgd
          clear ho
          have HACT := Lib.hid hact
          clear hact
          go_wp2_with fail
          refine mix_begin 11 (Held fun w' => w'.cell? ⟨b, off + k * 5, none⟩ = some (.int .i64 y.what) ∧ w'.cell? ⟨b, off + k * 5 + 1, none⟩ = some (.int .i64 y.file) ∧ w'.cell? ⟨b, off + k * 5 + 2, none⟩ = some (.int .i64 y.n) ∧ w'.cell? ⟨b, off + k * 5 + 3, none⟩ = some (.int .i64 y.more) ∧ w'.cell? ⟨b, off + k * 5 + 4, none⟩ = some (.slice y.sa y.sn y.sc)) (by kernel_rfl) (by kernel_rfl) (Held.mk HC.out) (fun hS => ?_)
          refine mix_take (v := ?_) 0 rfl (by decide) (by kernel_rfl) (by kernel_rfl) (fun _ _ _ h => h) hS rfl ?_ ?_
          rotate_left
          · (intro w' hw'; first | (go_simp; done) | (go_simp; with_reducible rfl) | (obtain ⟨g0, g1, g2, g3, g4⟩ := hw'.out; first | (go_simp; done) | (go_simp; with_reducible rfl)))
          simp only [Act.put, List.setIfInBounds_toArray, List.set_cons_zero, List.set_cons_succ]
          refine mix_take (v := ?_) 2 rfl (by decide) (by kernel_rfl) (by kernel_rfl) (fun _ _ _ h => h) hS rfl ?_ ?_
          rotate_left
          · (intro w' hw'; first | (go_simp; done) | (go_simp; with_reducible rfl) | (obtain ⟨g0, g1, g2, g3, g4⟩ := hw'.out; first | (go_simp; done) | (go_simp; with_reducible rfl)))
          simp only [Act.put, List.setIfInBounds_toArray, List.set_cons_zero, List.set_cons_succ]
          refine mix_take (v := ?_) 3 rfl (by decide) (by kernel_rfl) (by kernel_rfl) (fun _ _ _ h => h) hS rfl ?_ ?_
          rotate_left
          · (intro w' hw'; first | (go_simp; done) | (go_simp; with_reducible rfl) | (obtain ⟨g0, g1, g2, g3, g4⟩ := hw'.out; first | (go_simp; done) | (go_simp; with_reducible rfl)))
          simp only [Act.put, List.setIfInBounds_toArray, List.set_cons_zero, List.set_cons_succ]
          refine mix_take (v := ?_) 4 rfl (by decide) (by kernel_rfl) (by kernel_rfl) (fun _ _ _ h => h) hS rfl ?_ ?_
          rotate_left
          · (intro w' hw'; first | (go_simp; done) | (go_simp; with_reducible rfl) | (obtain ⟨g0, g1, g2, g3, g4⟩ := hw'.out; first | (go_simp; done) | (go_simp; with_reducible rfl)))
          simp only [Act.put, List.setIfInBounds_toArray, List.set_cons_zero, List.set_cons_succ]
          refine mix_take (v := ?_) 5 rfl (by decide) (by kernel_rfl) (by kernel_rfl) (fun _ _ _ h => h) hS rfl ?_ ?_
          rotate_left
          · (intro w' hw'; first | (go_simp; done) | (go_simp; with_reducible rfl) | (obtain ⟨g0, g1, g2, g3, g4⟩ := hw'.out; first | (go_simp; done) | (go_simp; with_reducible rfl)))
          simp only [Act.put, List.setIfInBounds_toArray, List.set_cons_zero, List.set_cons_succ]
          refine mix_step 1 rfl (by decide) (by kernel_rfl) ?_
          have y0 := row_cell HM.out 0 rfl
          have y1 := row_cell HM.out 1 rfl
          have y2 := row_cell HM.out 2 rfl
          have y3 := row_cell HM.out 3 rfl
          have y4 := row_cell HM.out 4 rfl
          have y5 := row_cell HM.out 5 rfl
          have y6 := row_cell HM.out 6 rfl
          go_wp2_with fail
          clear y0 y1 y2 y3 y4 y5 y6
          refine mix_out (hS) (fun hS => ?_)
          refine mix_step 6 rfl (by decide) (by kernel_rfl) ?_
          go_wp2_with fail
          refine HACT.out.mono ?_
          rintro e w9 ⟨rfl, hD9, hg9⟩
          clear HACT
          have hM9 := (hg9.block _ (Array.getElem?_eq_some_iff.1 HM.out).1 (by intro e; have := Option.some.inj e; omega)).trans HM.out
          go_wp2_with fail
          refine mix_out (Held.mk ⟨grown_cell hg9 HC.out.1 (by omega), grown_cell hg9 HC.out.2.1 (by omega), grown_cell hg9 HC.out.2.2.1 (by omega), grown_cell hg9 HC.out.2.2.2.1 (by omega), grown_cell hg9 HC.out.2.2.2.2 (by omega)⟩) (fun hS => ?_)
          refine mix_take (v := ?_) 7 rfl (by decide) (by kernel_rfl) (by kernel_rfl) (fun _ _ _ h => h) hS rfl ?_ ?_
          rotate_left
          · (intro w' hw'; first | (go_simp; done) | (go_simp; with_reducible rfl) | (obtain ⟨g0, g1, g2, g3, g4⟩ := hw'.out; first | (go_simp; done) | (go_simp; with_reducible rfl)))
          simp only [Act.put, List.setIfInBounds_toArray, List.set_cons_zero, List.set_cons_succ]
          refine mix_take (v := ?_) 8 rfl (by decide) (by kernel_rfl) (by kernel_rfl) (fun _ _ _ h => h) hS rfl ?_ ?_
          rotate_left
          · (intro w' hw'; first | (go_simp; done) | (go_simp; with_reducible rfl) | (obtain ⟨g0, g1, g2, g3, g4⟩ := hw'.out; first | (go_simp; done) | (go_simp; with_reducible rfl)))
          simp only [Act.put, List.setIfInBounds_toArray, List.set_cons_zero, List.set_cons_succ]
          refine mix_take (v := ?_) 9 rfl (by decide) (by kernel_rfl) (by kernel_rfl) (fun _ _ _ h => h) hS rfl ?_ ?_
          rotate_left
          · (intro w' hw'; first | (go_simp; done) | (go_simp; with_reducible rfl) | (obtain ⟨g0, g1, g2, g3, g4⟩ := hw'.out; first | (go_simp; done) | (go_simp; with_reducible rfl)))
          simp only [Act.put, List.setIfInBounds_toArray, List.set_cons_zero, List.set_cons_succ]
          refine mix_step 10 rfl (by decide) (by kernel_rfl) ?_
          have y0 := row_cell hM9 0 rfl
          have y1 := row_cell hM9 1 rfl
          have y2 := row_cell hM9 2 rfl
          have y3 := row_cell hM9 3 rfl
          have y4 := row_cell hM9 4 rfl
          have y5 := row_cell hM9 5 rfl
          have y6 := row_cell hM9 6 rfl
          have z0 := row_fz hM9
          clear hS
          go_wp2_with fail
          clear y0 y1 y2 y3 y4 y5 y6 z0
          have hq := store7 hM9 (.int .i64 o.room) (.string (strOf o.f0)) (.string (strOf o.f1)) (.int .i64 (o.n0 : Int)) (.int .i64 (o.n1 : Int)) (.int .i64 o.now) (.int .i64 o.left)
          have hg7 := grown7 w9 M (.int .i64 o.room) (.string (strOf o.f0)) (.string (strOf o.f1)) (.int .i64 (o.n0 : Int)) (.int .i64 (o.n1 : Int)) (.int .i64 o.now) (.int .i64 o.left)
          have hb9 := below_grown hbr.drew hg9 (Nat.le_refl _) (Nat.le_refl _)
          have hD10 := hD9.past hg7 (by omega) hM9 hq (Nat.le_refl _) row7_no
          have hb10 := below_grown hb9 hg7 (by omega) (Nat.le_refl _)
          have HQ := Lib.hid hq
          clear hq
          refine mix_out (Held.mk ⟨grown_cell hg7 (grown_cell hg9 HC.out.1 (by omega)) (by omega), grown_cell hg7 (grown_cell hg9 HC.out.2.1 (by omega)) (by omega), grown_cell hg7 (grown_cell hg9 HC.out.2.2.1 (by omega)) (by omega), grown_cell hg7 (grown_cell hg9 HC.out.2.2.2.1 (by omega)) (by omega), grown_cell hg7 (grown_cell hg9 HC.out.2.2.2.2 (by omega)) (by omega)⟩) (fun hS => ?_)
          refine mix_done (by kernel_rfl) ?_
          simp only [List.drop_succ_cons, List.drop_zero]
          clear hS
          go_wp2_with fail
          exact ⟨⟨k + 1, by omega, by go_num, o, hgd, hD10, HQ.out, hb10⟩, by simp [intOf]; omega⟩
        · obtain rfl : k = n := by omega
          have hxb := HFX.out x (List.mem_append_right l (List.mem_singleton.2 rfl))
          have hM1 := HM.out
          have hMr := (Array.getElem?_eq_some_iff.1 hM1).1
          have hcp := copy_c w6.heap.size s wr hDs hgs.1
          have HCP := Lib.hid hcp
          clear hcp
          go_wp2_with fail
          refine HCP.out.mono ?_
          rintro e w9 ⟨rfl, hC9, hb9⟩
          clear HCP
          have hsm := same_c wr.heap.size w6.heap.size s s w9 hC9 (hDs.later hb9) hgs.1 hgs.1
          rw [same_refl] at hsm
          have HSM := Lib.hid hsm
          clear hsm
          go_wp2_with fail
          refine HSM.out.mono ?_
          rintro e w10 ⟨rfl, hb10⟩
          clear HSM
          have hb910 := below_then hb9 hb10
          have hM10 := (hb910.block _ hMr).trans hM1
          have hN10 := (hb910.block _ (by have := hbr.size; have := hb6.size; omega)).trans ((hbr.block _ (by have := hb6.size; omega)).trans ((hb6.block _ hNlt).trans HN.out))
          have q0 := row_cell hM10 0 rfl
          have q1 := row_cell hM10 1 rfl
          have q2 := row_cell hM10 2 rfl
          have q3 := row_cell hM10 3 rfl
          have q4 := row_cell hM10 4 rfl
          have q5 := row_cell hM10 5 rfl
          have q6 := row_cell hM10 6 rfl
          have p0 := row_cell hN10 0 rfl
          have p1 := row_cell hN10 1 rfl
          have p2 := row_cell hN10 2 rfl
          have p3 := row_cell hN10 3 rfl
          have p4 := row_cell hN10 4 rfl
          have hat := HX.out.later (hbw.trans (hb910.mono hbw.size))
          have hact := act_all wr.heap.size s x w10 (hC9.later hb10) hgs hat hxb
          unfold RV at hact
          have hgd := does_good hgs x hat.2
          obtain ⟨o, ho⟩ : ∃ o, (s.does x).1 = o := ⟨_, rfl⟩
          rw [ho] at hact hgd
          clear ho hat
          have HACT := Lib.hid hact
          clear hact
          go_wp2_with fail
          refine HACT.out.mono ?_
          rintro e w11 ⟨rfl, hC11, hg11⟩
          clear HACT q0 q1 q2 q3 q4 q5 q6 p0 p1 p2 p3 p4
          have hD11 := hDs.apart (grown_trans (grown_of_below hb910) hg11)
          have hM11 := (hg11.block _ (Nat.lt_of_lt_of_le hMr hb910.size) (by intro e; have := Option.some.inj e; omega)).trans hM10
          have hB11 := below_grown (hbw.trans (hb910.mono hbw.size)) hg11 (by have := hbw.size; omega) (Nat.le_refl _)
          clear hM10 hN10 hM1
          go_wp2_with fail
          have hQ := heap_alloc_new w11 (.cells #[.int .i64 o.room, .string (strOf o.f0), .string (strOf o.f1), .int .i64 (o.n0 : Int), .int .i64 (o.n1 : Int), .int .i64 o.now, .int .i64 o.left] 46)
          have hbq := below_alloc w11 (.cells #[.int .i64 o.room, .string (strOf o.f0), .string (strOf o.f1), .int .i64 (o.n0 : Int), .int .i64 (o.n1 : Int), .int .i64 o.now, .int .i64 o.left] 46)
          have hM12 := (hbq.block _ (Array.getElem?_eq_some_iff.1 hM11).1).trans hM11
          have hC12 := hC11.later hbq
          have hD12 := hD11.later hbq
          have hB12 := hB11.trans (hbq.mono hB11.size)
          obtain ⟨w12, hw12⟩ : ∃ w12, w11.alloc (.cells #[.int .i64 o.room, .string (strOf o.f0), .string (strOf o.f1), .int .i64 (o.n0 : Int), .int .i64 (o.n1 : Int), .int .i64 o.now, .int .i64 o.left] 46) = w12 := ⟨_, rfl⟩
          rw [hw12] at hQ hbq hM12 hC12 hD12 hB12 ⊢
          clear hw12 hC11 hD11 hM11 hB11 hbq hg11 hb910 hb10 hC9 hb9
          have hMl := (Array.getElem?_eq_some_iff.1 hM12).1
          have hQl := (Array.getElem?_eq_some_iff.1 hQ).1
          obtain ⟨Qb, hQb⟩ : ∃ Qb, w11.heap.size = Qb := ⟨_, rfl⟩
          obtain ⟨C, hC⟩ : ∃ C, wr.heap.size = C := ⟨_, rfl⟩
          rw [hQb] at hQ hQl
          rw [hC] at hC12
          simp only [hQb, hC]
          clear hQb hC hMr
          have HM12 := Lib.hid hM12
          have HQ := Lib.hid hQ
          clear hM12 hQ
          have mkS2 : ∀ w', Below w12.heap.size w12 w' → Held (fun w' => Below w12.heap.size w12 w' ∧ w'.cell? ⟨M, 0, none⟩ = some (.int .i64 s.room) ∧ w'.cell? ⟨M, 1, none⟩ = some (.string (strOf s.f0)) ∧ w'.cell? ⟨M, 2, none⟩ = some (.string (strOf s.f1)) ∧ w'.cell? ⟨M, 3, none⟩ = some (.int .i64 (s.n0 : Int)) ∧ w'.cell? ⟨M, 4, none⟩ = some (.int .i64 (s.n1 : Int)) ∧ w'.cell? ⟨M, 5, none⟩ = some (.int .i64 s.now) ∧ w'.cell? ⟨M, 6, none⟩ = some (.int .i64 s.left) ∧ w'.cell? ⟨Qb, 0, none⟩ = some (.int .i64 o.room) ∧ w'.cell? ⟨Qb, 1, none⟩ = some (.string (strOf o.f0)) ∧ w'.cell? ⟨Qb, 2, none⟩ = some (.string (strOf o.f1)) ∧ w'.cell? ⟨Qb, 3, none⟩ = some (.int .i64 (o.n0 : Int)) ∧ w'.cell? ⟨Qb, 4, none⟩ = some (.int .i64 (o.n1 : Int)) ∧ w'.cell? ⟨Qb, 5, none⟩ = some (.int .i64 o.now) ∧ w'.cell? ⟨Qb, 6, none⟩ = some (.int .i64 o.left)) w' := fun w' hb => Held.mk ⟨hb, (hb.cell hMl).trans (row_cell HM12.out 0 rfl), (hb.cell hMl).trans (row_cell HM12.out 1 rfl), (hb.cell hMl).trans (row_cell HM12.out 2 rfl), (hb.cell hMl).trans (row_cell HM12.out 3 rfl), (hb.cell hMl).trans (row_cell HM12.out 4 rfl), (hb.cell hMl).trans (row_cell HM12.out 5 rfl), (hb.cell hMl).trans (row_cell HM12.out 6 rfl), (hb.cell hQl).trans (row_cell HQ.out 0 rfl), (hb.cell hQl).trans (row_cell HQ.out 1 rfl), (hb.cell hQl).trans (row_cell HQ.out 2 rfl), (hb.cell hQl).trans (row_cell HQ.out 3 rfl), (hb.cell hQl).trans (row_cell HQ.out 4 rfl), (hb.cell hQl).trans (row_cell HQ.out 5 rfl), (hb.cell hQl).trans (row_cell HQ.out 6 rfl)⟩
          have he := eqIn_RV o s
          unfold RV at he
          have hs1 := fun W (hb : Below w12.heap.size w12 W) => same_c C w6.heap.size o s W (hC12.later hb) (hD12.later hb) hgd.1 hgs.1
          have hs2 := fun W (hb : Below w12.heap.size w12 W) => same_c w6.heap.size C s o W (hD12.later hb) (hC12.later hb) hgs.1 hgd.1
          rw [same_symm s o] at hs2
          obtain ⟨z, hz⟩ : ∃ z, o.same s = z := ⟨_, rfl⟩
          rw [hz] at he hs1 hs2
          clear hz
          have i1 := fun W (hb : Below w12.heap.size w12 W) => is_c w6.heap.size s W (hD12.later hb) hgs.1
          have i2 := fun W (hb : Below w12.heap.size w12 W) => is_c C o W (hC12.later hb) hgd.1
          unfold RV at i1 i2
          have HS1 := Lib.hid hs1
          have HS2 := Lib.hid hs2
          have HI1 := Lib.hid i1
          have HI2 := Lib.hid i2
          clear hs1 hs2 i1 i2
          refine mix_begin 32 (Held fun w' => Below w12.heap.size w12 w' ∧ w'.cell? ⟨M, 0, none⟩ = some (.int .i64 s.room) ∧ w'.cell? ⟨M, 1, none⟩ = some (.string (strOf s.f0)) ∧ w'.cell? ⟨M, 2, none⟩ = some (.string (strOf s.f1)) ∧ w'.cell? ⟨M, 3, none⟩ = some (.int .i64 (s.n0 : Int)) ∧ w'.cell? ⟨M, 4, none⟩ = some (.int .i64 (s.n1 : Int)) ∧ w'.cell? ⟨M, 5, none⟩ = some (.int .i64 s.now) ∧ w'.cell? ⟨M, 6, none⟩ = some (.int .i64 s.left) ∧ w'.cell? ⟨Qb, 0, none⟩ = some (.int .i64 o.room) ∧ w'.cell? ⟨Qb, 1, none⟩ = some (.string (strOf o.f0)) ∧ w'.cell? ⟨Qb, 2, none⟩ = some (.string (strOf o.f1)) ∧ w'.cell? ⟨Qb, 3, none⟩ = some (.int .i64 (o.n0 : Int)) ∧ w'.cell? ⟨Qb, 4, none⟩ = some (.int .i64 (o.n1 : Int)) ∧ w'.cell? ⟨Qb, 5, none⟩ = some (.int .i64 o.now) ∧ w'.cell? ⟨Qb, 6, none⟩ = some (.int .i64 o.left)) (by kernel_rfl) (by kernel_rfl) (mkS2 _ (below_drew _)) (fun hS => ?_)
          refine mix_take (v := ?_) 0 rfl (by decide) (by kernel_rfl) (by kernel_rfl) (fun _ _ _ h => h) hS rfl ?_ ?_
          rotate_left
          · (intro w' hw'; first | (go_simp; done) | (go_simp; with_reducible rfl) | (obtain ⟨g0, g1, g2, g3, g4, g5, g6, g7, g8, g9, g10, g11, g12, g13, g14⟩ := hw'.out; first | (go_simp; done) | (go_simp; with_reducible rfl)))
          simp only [Act.put, List.setIfInBounds_toArray, List.set_cons_zero, List.set_cons_succ]
          refine mix_take (v := ?_) 1 rfl (by decide) (by kernel_rfl) (by kernel_rfl) (fun _ _ _ h => h) hS rfl ?_ ?_
          rotate_left
          · (intro w' hw'; first | (go_simp; done) | (go_simp; with_reducible rfl) | (obtain ⟨g0, g1, g2, g3, g4, g5, g6, g7, g8, g9, g10, g11, g12, g13, g14⟩ := hw'.out; first | (go_simp; done) | (go_simp; with_reducible rfl)))
          simp only [Act.put, List.setIfInBounds_toArray, List.set_cons_zero, List.set_cons_succ]
          refine mix_take (v := ?_) 2 rfl (by decide) (by kernel_rfl) (by kernel_rfl) (fun _ _ _ h => h) hS rfl ?_ ?_
          rotate_left
          · (intro w' hw'; first | (go_simp; done) | (go_simp; with_reducible rfl) | (obtain ⟨g0, g1, g2, g3, g4, g5, g6, g7, g8, g9, g10, g11, g12, g13, g14⟩ := hw'.out; first | (go_simp; done) | (go_simp; with_reducible rfl)))
          simp only [Act.put, List.setIfInBounds_toArray, List.set_cons_zero, List.set_cons_succ]
          refine mix_take (v := ?_) 3 rfl (by decide) (by kernel_rfl) (by kernel_rfl) (fun _ _ _ h => h) hS rfl ?_ ?_
          rotate_left
          · (intro w' hw'; first | (go_simp; done) | (go_simp; with_reducible rfl) | (obtain ⟨g0, g1, g2, g3, g4, g5, g6, g7, g8, g9, g10, g11, g12, g13, g14⟩ := hw'.out; first | (go_simp; done) | (go_simp; with_reducible rfl)))
          simp only [Act.put, List.setIfInBounds_toArray, List.set_cons_zero, List.set_cons_succ]
          refine mix_step 4 rfl (by decide) (by kernel_rfl) ?_
          have g := hS.out
          go_wp2_with fail
          refine (HI1.out _ g.1).mono ?_
          rintro e wn ⟨rfl, hbn⟩
          go_wp2_with fail
          refine mix_out (mkS2 _ (below_then g.1 hbn)) (fun hS => ?_)
          refine mix_take (v := ?_) 5 rfl (by decide) (by kernel_rfl) (by kernel_rfl) (fun _ _ _ h => h) hS rfl ?_ ?_
          rotate_left
          · (intro w' hw'; first | (go_simp; done) | (go_simp; with_reducible rfl) | (obtain ⟨g0, g1, g2, g3, g4, g5, g6, g7, g8, g9, g10, g11, g12, g13, g14⟩ := hw'.out; first | (go_simp; done) | (go_simp; with_reducible rfl)))
          simp only [Act.put, List.setIfInBounds_toArray, List.set_cons_zero, List.set_cons_succ]
          refine mix_take (v := ?_) 6 rfl (by decide) (by kernel_rfl) (by kernel_rfl) (fun _ _ _ h => h) hS rfl ?_ ?_
          rotate_left
          · (intro w' hw'; first | (go_simp; done) | (go_simp; with_reducible rfl) | (obtain ⟨g0, g1, g2, g3, g4, g5, g6, g7, g8, g9, g10, g11, g12, g13, g14⟩ := hw'.out; first | (go_simp; done) | (go_simp; with_reducible rfl)))
          simp only [Act.put, List.setIfInBounds_toArray, List.set_cons_zero, List.set_cons_succ]
          refine mix_take (v := ?_) 7 rfl (by decide) (by kernel_rfl) (by kernel_rfl) (fun _ _ _ h => h) hS rfl ?_ ?_
          rotate_left
          · (intro w' hw'; first | (go_simp; done) | (go_simp; with_reducible rfl) | (obtain ⟨g0, g1, g2, g3, g4, g5, g6, g7, g8, g9, g10, g11, g12, g13, g14⟩ := hw'.out; first | (go_simp; done) | (go_simp; with_reducible rfl)))
          simp only [Act.put, List.setIfInBounds_toArray, List.set_cons_zero, List.set_cons_succ]
          refine mix_take (v := ?_) 8 rfl (by decide) (by kernel_rfl) (by kernel_rfl) (fun _ _ _ h => h) hS rfl ?_ ?_
          rotate_left
          · (intro w' hw'; first | (go_simp; done) | (go_simp; with_reducible rfl) | (obtain ⟨g0, g1, g2, g3, g4, g5, g6, g7, g8, g9, g10, g11, g12, g13, g14⟩ := hw'.out; first | (go_simp; done) | (go_simp; with_reducible rfl)))
          simp only [Act.put, List.setIfInBounds_toArray, List.set_cons_zero, List.set_cons_succ]
          refine mix_step 9 rfl (by decide) (by kernel_rfl) ?_
          have g := hS.out
          go_wp2_with fail
          refine (HI2.out _ g.1).mono ?_
          rintro e wn ⟨rfl, hbn⟩
          go_wp2_with fail
          refine mix_out (mkS2 _ (below_then g.1 hbn)) (fun hS => ?_)
          refine mix_take (v := ?_) 10 rfl (by decide) (by kernel_rfl) (by kernel_rfl) (fun _ _ _ h => h) hS rfl ?_ ?_
          rotate_left
          · (intro w' hw'; first | (go_simp; done) | (go_simp; with_reducible rfl) | (obtain ⟨g0, g1, g2, g3, g4, g5, g6, g7, g8, g9, g10, g11, g12, g13, g14⟩ := hw'.out; first | (go_simp; done) | (go_simp; with_reducible rfl)))
          simp only [Act.put, List.setIfInBounds_toArray, List.set_cons_zero, List.set_cons_succ]
          refine mix_take (v := ?_) 11 rfl (by decide) (by kernel_rfl) (by kernel_rfl) (fun _ _ _ h => h) hS rfl ?_ ?_
          rotate_left
          · (intro w' hw'; first | (go_simp; done) | (go_simp; with_reducible rfl) | (obtain ⟨g0, g1, g2, g3, g4, g5, g6, g7, g8, g9, g10, g11, g12, g13, g14⟩ := hw'.out; first | (go_simp; done) | (go_simp; with_reducible rfl)))
          simp only [Act.put, List.setIfInBounds_toArray, List.set_cons_zero, List.set_cons_succ]
          refine mix_take (v := ?_) 12 rfl (by decide) (by kernel_rfl) (by kernel_rfl) (fun _ _ _ h => h) hS rfl ?_ ?_
          rotate_left
          · (intro w' hw'; first | (go_simp; done) | (go_simp; with_reducible rfl) | (obtain ⟨g0, g1, g2, g3, g4, g5, g6, g7, g8, g9, g10, g11, g12, g13, g14⟩ := hw'.out; first | (go_simp; done) | (go_simp; with_reducible rfl)))
          simp only [Act.put, List.setIfInBounds_toArray, List.set_cons_zero, List.set_cons_succ]
          refine mix_take (v := ?_) 13 rfl (by decide) (by kernel_rfl) (by kernel_rfl) (fun _ _ _ h => h) hS rfl ?_ ?_
          rotate_left
          · (intro w' hw'; first | (go_simp; done) | (go_simp; with_reducible rfl) | (obtain ⟨g0, g1, g2, g3, g4, g5, g6, g7, g8, g9, g10, g11, g12, g13, g14⟩ := hw'.out; first | (go_simp; done) | (go_simp; with_reducible rfl)))
          simp only [Act.put, List.setIfInBounds_toArray, List.set_cons_zero, List.set_cons_succ]
          refine mix_take (v := ?_) 15 rfl (by decide) (by kernel_rfl) (by kernel_rfl) (fun _ _ _ h => h) hS rfl ?_ ?_
          rotate_left
          · (intro w' hw'; first | (go_simp; done) | (go_simp; with_reducible rfl) | (obtain ⟨g0, g1, g2, g3, g4, g5, g6, g7, g8, g9, g10, g11, g12, g13, g14⟩ := hw'.out; first | (go_simp; done) | (go_simp; with_reducible rfl)))
          simp only [Act.put, List.setIfInBounds_toArray, List.set_cons_zero, List.set_cons_succ]
          refine mix_take (v := ?_) 16 rfl (by decide) (by kernel_rfl) (by kernel_rfl) (fun _ _ _ h => h) hS rfl ?_ ?_
          rotate_left
          · (intro w' hw'; first | (go_simp; done) | (go_simp; with_reducible rfl) | (obtain ⟨g0, g1, g2, g3, g4, g5, g6, g7, g8, g9, g10, g11, g12, g13, g14⟩ := hw'.out; first | (go_simp; done) | (go_simp; with_reducible rfl)))
          simp only [Act.put, List.setIfInBounds_toArray, List.set_cons_zero, List.set_cons_succ]
          refine mix_take (v := ?_) 17 rfl (by decide) (by kernel_rfl) (by kernel_rfl) (fun _ _ _ h => h) hS rfl ?_ ?_
          rotate_left
          · (intro w' hw'; first | (go_simp; done) | (go_simp; with_reducible rfl) | (obtain ⟨g0, g1, g2, g3, g4, g5, g6, g7, g8, g9, g10, g11, g12, g13, g14⟩ := hw'.out; first | (go_simp; done) | (go_simp; with_reducible rfl)))
          simp only [Act.put, List.setIfInBounds_toArray, List.set_cons_zero, List.set_cons_succ]
          refine mix_step 14 rfl (by decide) (by kernel_rfl) ?_
          have g := hS.out
          go_wp2_with fail
          refine (HS1.out _ g.1).mono ?_
          rintro e wn ⟨rfl, hbn⟩
          go_wp2_with fail
          refine mix_out (mkS2 _ (below_then g.1 hbn)) (fun hS => ?_)
          refine mix_take (v := ?_) 18 rfl (by decide) (by kernel_rfl) (by kernel_rfl) (fun _ _ _ h => h) hS rfl ?_ ?_
          rotate_left
          · (intro w' hw'; first | (go_simp; done) | (go_simp; with_reducible rfl) | (obtain ⟨g0, g1, g2, g3, g4, g5, g6, g7, g8, g9, g10, g11, g12, g13, g14⟩ := hw'.out; first | (go_simp; done) | (go_simp; with_reducible rfl)))
          simp only [Act.put, List.setIfInBounds_toArray, List.set_cons_zero, List.set_cons_succ]
          refine mix_take (v := ?_) 19 rfl (by decide) (by kernel_rfl) (by kernel_rfl) (fun _ _ _ h => h) hS rfl ?_ ?_
          rotate_left
          · (intro w' hw'; first | (go_simp; done) | (go_simp; with_reducible rfl) | (obtain ⟨g0, g1, g2, g3, g4, g5, g6, g7, g8, g9, g10, g11, g12, g13, g14⟩ := hw'.out; first | (go_simp; done) | (go_simp; with_reducible rfl)))
          simp only [Act.put, List.setIfInBounds_toArray, List.set_cons_zero, List.set_cons_succ]
          refine mix_take (v := ?_) 20 rfl (by decide) (by kernel_rfl) (by kernel_rfl) (fun _ _ _ h => h) hS rfl ?_ ?_
          rotate_left
          · (intro w' hw'; first | (go_simp; done) | (go_simp; with_reducible rfl) | (obtain ⟨g0, g1, g2, g3, g4, g5, g6, g7, g8, g9, g10, g11, g12, g13, g14⟩ := hw'.out; first | (go_simp; done) | (go_simp; with_reducible rfl)))
          simp only [Act.put, List.setIfInBounds_toArray, List.set_cons_zero, List.set_cons_succ]
          refine mix_take (v := ?_) 21 rfl (by decide) (by kernel_rfl) (by kernel_rfl) (fun _ _ _ h => h) hS rfl ?_ ?_
          rotate_left
          · (intro w' hw'; first | (go_simp; done) | (go_simp; with_reducible rfl) | (obtain ⟨g0, g1, g2, g3, g4, g5, g6, g7, g8, g9, g10, g11, g12, g13, g14⟩ := hw'.out; first | (go_simp; done) | (go_simp; with_reducible rfl)))
          simp only [Act.put, List.setIfInBounds_toArray, List.set_cons_zero, List.set_cons_succ]
          refine mix_take (v := ?_) 22 rfl (by decide) (by kernel_rfl) (by kernel_rfl) (fun _ _ _ h => h) hS rfl ?_ ?_
          rotate_left
          · (intro w' hw'; first | (go_simp; done) | (go_simp; with_reducible rfl) | (obtain ⟨g0, g1, g2, g3, g4, g5, g6, g7, g8, g9, g10, g11, g12, g13, g14⟩ := hw'.out; first | (go_simp; done) | (go_simp; with_reducible rfl)))
          simp only [Act.put, List.setIfInBounds_toArray, List.set_cons_zero, List.set_cons_succ]
          refine mix_take (v := ?_) 24 rfl (by decide) (by kernel_rfl) (by kernel_rfl) (fun _ _ _ h => h) hS rfl ?_ ?_
          rotate_left
          · (intro w' hw'; first | (go_simp; done) | (go_simp; with_reducible rfl) | (obtain ⟨g0, g1, g2, g3, g4, g5, g6, g7, g8, g9, g10, g11, g12, g13, g14⟩ := hw'.out; first | (go_simp; done) | (go_simp; with_reducible rfl)))
          simp only [Act.put, List.setIfInBounds_toArray, List.set_cons_zero, List.set_cons_succ]
          refine mix_take (v := ?_) 25 rfl (by decide) (by kernel_rfl) (by kernel_rfl) (fun _ _ _ h => h) hS rfl ?_ ?_
          rotate_left
          · (intro w' hw'; first | (go_simp; done) | (go_simp; with_reducible rfl) | (obtain ⟨g0, g1, g2, g3, g4, g5, g6, g7, g8, g9, g10, g11, g12, g13, g14⟩ := hw'.out; first | (go_simp; done) | (go_simp; with_reducible rfl)))
          simp only [Act.put, List.setIfInBounds_toArray, List.set_cons_zero, List.set_cons_succ]
          refine mix_take (v := ?_) 26 rfl (by decide) (by kernel_rfl) (by kernel_rfl) (fun _ _ _ h => h) hS rfl ?_ ?_
          rotate_left
          · (intro w' hw'; first | (go_simp; done) | (go_simp; with_reducible rfl) | (obtain ⟨g0, g1, g2, g3, g4, g5, g6, g7, g8, g9, g10, g11, g12, g13, g14⟩ := hw'.out; first | (go_simp; done) | (go_simp; with_reducible rfl)))
          simp only [Act.put, List.setIfInBounds_toArray, List.set_cons_zero, List.set_cons_succ]
          refine mix_step 23 rfl (by decide) (by kernel_rfl) ?_
          have g := hS.out
          go_wp2_with fail
          refine (HS2.out _ g.1).mono ?_
          rintro e wn ⟨rfl, hbn⟩
          go_wp2_with fail
          refine mix_out (mkS2 _ (below_then g.1 hbn)) (fun hS => ?_)
          refine mix_take (v := ?_) 27 rfl (by decide) (by kernel_rfl) (by kernel_rfl) (fun _ _ _ h => h) hS rfl ?_ ?_
          rotate_left
          · (intro w' hw'; first | (go_simp; done) | (go_simp; with_reducible rfl) | (obtain ⟨g0, g1, g2, g3, g4, g5, g6, g7, g8, g9, g10, g11, g12, g13, g14⟩ := hw'.out; first | (go_simp; done) | (go_simp; with_reducible rfl)))
          simp only [Act.put, List.setIfInBounds_toArray, List.set_cons_zero, List.set_cons_succ]
          refine mix_take (v := ?_) 28 rfl (by decide) (by kernel_rfl) (by kernel_rfl) (fun _ _ _ h => h) hS rfl ?_ ?_
          rotate_left
          · (intro w' hw'; first | (go_simp; done) | (go_simp; with_reducible rfl) | (obtain ⟨g0, g1, g2, g3, g4, g5, g6, g7, g8, g9, g10, g11, g12, g13, g14⟩ := hw'.out; first | (go_simp; done) | (go_simp; with_reducible rfl)))
          simp only [Act.put, List.setIfInBounds_toArray, List.set_cons_zero, List.set_cons_succ]
          refine mix_take (v := ?_) 29 rfl (by decide) (by kernel_rfl) (by kernel_rfl) (fun _ _ _ h => h) hS rfl ?_ ?_
          rotate_left
          · (intro w' hw'; first | (go_simp; done) | (go_simp; with_reducible rfl) | (obtain ⟨g0, g1, g2, g3, g4, g5, g6, g7, g8, g9, g10, g11, g12, g13, g14⟩ := hw'.out; first | (go_simp; done) | (go_simp; with_reducible rfl)))
          simp only [Act.put, List.setIfInBounds_toArray, List.set_cons_zero, List.set_cons_succ]
          refine mix_step 30 rfl (by decide) (by kernel_rfl) ?_
          have g := hS.out
          go_wp2_with fail
          refine (works07_c _).mono ?_
          rintro e wn ⟨rfl, hbn⟩
          go_wp2_with fail
          refine mix_out (mkS2 _ (below_then g.1 hbn)) (fun hS => ?_)
          refine mix_take (v := ?_) 31 rfl (by decide) (by kernel_rfl) (by kernel_rfl) (fun _ _ _ h => h) hS rfl ?_ ?_
          rotate_left
          · (intro w' hw'; first | (go_simp; done) | (go_simp; with_reducible rfl) | (obtain ⟨g0, g1, g2, g3, g4, g5, g6, g7, g8, g9, g10, g11, g12, g13, g14⟩ := hw'.out; first | (go_simp; done) | (go_simp; with_reducible rfl)))
          simp only [Act.put, List.setIfInBounds_toArray, List.set_cons_zero, List.set_cons_succ]
          refine mix_done (by kernel_rfl) ?_
          simp only [List.drop_succ_cons, List.drop_zero]
          have hbf := hS.out.1
          clear hS
          go_wp2_with fail
          go_ret
          exact ⟨by go_simp, hB12.trans (hbf.mono hB12.size)⟩
theorem diskSame_r (a : Option Addr) (n cap : Nat) (l : List AV) (x : AV) (w : World) (h : IsActs w a n cap l ∧ n * 56 ≤ 140737488351232) (hx : x.at w) :
    Calls Try.prog 4 #[.slice a n cap, .agg #[.int .i64 x.what, .int .i64 x.file, .int .i64 x.n, .int .i64 x.more, .slice x.sa x.sn x.sc]] w fun e w' => e = .returned (.bool true) ∧ Below w.heap.size w w' := diskSame_c a n cap l x w h.1 hx h.2
end Go.Proofs.Ytpobnbiakneoiaa
