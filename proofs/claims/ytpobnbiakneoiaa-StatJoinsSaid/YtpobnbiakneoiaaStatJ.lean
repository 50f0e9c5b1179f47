import Derived.Test.YtpobnbiakneoiaaStatI
namespace Go.Proofs.Ytpobnbiakneoiaa
open Go.RowKit Go.Cas
set_option linter.unusedSimpArgs false
set_option linter.unusedVariables false
attribute [local go_sem] Oper.semAt_some

theorem IsSt.grown {w w' : World} {a : Option Addr} {n cap : Nat} {l : List St} {r : Option Nat} (h : IsSt w a n cap l) (hg : w.grownBy w' r) (hne : ∀ ad, a = some ad → 0 < cap → some ad.block ≠ r) : IsSt w' a n cap l := ⟨h.1.grown' hg hne, h.2⟩
/-- the lists lie below the row that grows -/
theorem IsL.grownB {w w' : World} {a : Option Addr} {n cap : Nat} {ls : List SL} {v : Value} {B : Nat} (h : IsL w a n cap ls) (hg : w.grownBy w' (Value.ownBlock v)) (hB : ∀ g, Value.ownBlock v = some g → B ≤ g)
    (ha : ∀ ad, a = some ad → 0 < cap → ad.block < B) (hx : ∀ s ∈ ls, ∀ ad, s.sa = some ad → 0 < s.sc → ad.block < B) : IsL w' a n cap ls :=
  ⟨h.1.grown' hg (fun ad h1 h2 e => by have := ha ad h1 h2; have := hB _ e.symm; omega), h.2.1, fun s hs => ⟨(h.2.2 s hs).1.grown hg (fun ad h1 h2 e => by have := hx s hs ad h1 h2; have := hB _ e.symm; omega), (h.2.2 s hs).2⟩⟩
theorem Cell3.grownB {w w' : World} {Bs : Nat} {a b c : Int} {v : Value} {B : Nat} (h : Cell3 w Bs a b c) (hg : w.grownBy w' (Value.ownBlock v)) (hB : ∀ g, Value.ownBlock v = some g → B ≤ g) (hb : Bs < B) : Cell3 w' Bs a b c := by
  have hc : ∀ i v', w.cell? ⟨Bs, i, none⟩ = some v' → w'.cell? ⟨Bs, i, none⟩ = some v' := fun i v' hv =>
    (World.cell?_of_block (hg.block Bs (World.block_lt_of_cell? w _ hv) (fun e => by have := hB _ e.symm; omega))).trans hv
  exact ⟨hc _ _ h.1, hc _ _ h.2.1, hc _ _ h.2.2⟩
theorem sites_pos {x y z : Int} (hk : okShape x y z = true) : 1 ≤ sites x y z := by
  have h2 := (mul_wrap hk).2
  obtain ⟨h1, _, _, _, h5, _⟩ := (okShape_iff x y z).1 hk
  have : 0 < x * z := Int.mul_pos (by omega) (by omega)
  omega
set_option maxRecDepth 100000 in
set_option maxHeartbeats 4000000 in
theorem rjoin_c (x y z : Int) (a : Option Addr) (n cap : Nat) (ls : List SL) (hn : n ≤ 2 ^ 40) (w : World) (h : IsL w a n cap ls) :
    Calls Try.prog 8 #[.agg #[.int .i64 x, .int .i64 y, .int .i64 z], .slice a n cap] w (Told w x y z ls) := by
  have HIL := Lib.hid h
  clear h
  have hr := rshape_c x y z
  have hb0 := below_alloc w (.cells #[.int .i64 x, .int .i64 y, .int .i64 z] 23)
  have hc0 := Cell3.new w x y z 23
  have hle := sites_le x y z
  cases hk : okShape x y z with
  | false =>
    rw [hk] at hr
    have hj : joinOk x y z ls = false := by unfold joinOk; rw [hk, Bool.false_and]
    have HJ := Lib.hid hj
    clear hj hk
    go_enter Try.func8, Try.ntmps8
    go_wp2_with fail
    refine (hr _).mono ?_
    rintro e w1 ⟨rfl, hb1⟩
    go_wp2_with fail
    go_ret2
    exact .inr ⟨HJ.out, rfl, below_then hb0 hb1⟩
  | true =>
    have hns := fun W => rnewSt_c x y z W hk
    have HN1 := Lib.hid (sites_pos hk)
    rw [hk] at hr
    have hj : joinOk x y z ls = ls.all (fun s => okList x y z s.st) := by unfold joinOk; rw [hk, Bool.true_and]
    have HJ := Lib.hid hj
    clear hj hk
    go_enter Try.func8, Try.ntmps8
    go_wp2_with fail
    refine (hr _).mono ?_
    rintro e w1 ⟨rfl, hb1⟩
    have hbb := below_then hb0 hb1
    have hc1 := hc0.later hb1
    obtain ⟨q0, q1, q2⟩ := id hc1
    go_wp2_with fail
    refine (hns _).mono ?_
    rintro e w2 ⟨v, rfl, hown, hb2⟩
    clear q0 q1 q2 hr hns hc0
    have hc2 := hc1.later hb2
    have hw2 := below_then hbb hb2
    have hil2 := HIL.out.later hw2
    obtain ⟨va, vc, rfl, hsv⟩ := hown.isSt
    clear hsv
    rw [List.length_replicate] at hown ⊢
    have HOWN := Lib.hid hown
    clear hown
    have hN0 : w.heap.size < w1.heap.size := Nat.lt_of_lt_of_le hc1.lt (Nat.le_refl _)
    have hgb : ∀ g, Value.ownBlock (.slice va (sites x y z) vc) = some g → w1.heap.size ≤ g := fun g hg => (World.ownsRow.lt HOWN.out g hg).1
    have hga : ∀ ad, a = some ad → 0 < cap → ad.block < w1.heap.size := fun ad ha h0 => Nat.lt_of_lt_of_le (HIL.out.1.lt ha h0) hbb.size
    have hgx : ∀ s ∈ ls, ∀ ad, s.sa = some ad → 0 < s.sc → ad.block < w1.heap.size := fun s hs ad ha h0 => Nat.lt_of_lt_of_le ((HIL.out.2.2 s hs).1.1.lt ha h0) hbb.size
    obtain ⟨N, hN⟩ : ∃ N, sites x y z = N := ⟨_, rfl⟩
    rw [hN] at hgb hle HOWN ⊢
    have HNN := Lib.hid hN
    have HNLEN : (List.replicate N st0).length = N := List.length_replicate ..
    have hres : joinRes x y z ls = joinAll (List.replicate N st0) ls := by unfold joinRes; rw [hN]
    have HRES := Lib.hid hres
    have HLEN := Lib.hid HNLEN
    clear hN hres HNLEN
    generalize List.replicate N st0 = out0 at *
    have hz2 : w1.heap.size ≤ w2.heap.size := hb2.size
    have hN1 := HN1.out
    rw [HNN.out] at hN1
    go_wp2_with fail
    go_loopw [7, 8] (fun i _ wr => ∃ k : Nat, k ≤ n ∧ i = .int .i64 (k : Int) ∧ Hid (∀ s ∈ ls.take k, okList x y z s.st = true) ∧ OwnSt wr w1.heap.size (.slice va N vc) (joinAll out0 (ls.take k)) ∧ w2.grownBy wr (Value.ownBlock (.slice va N vc))) (fun i _ _ => n - (intOf i).toNat)
    case atStart => exact ⟨0, by omega, rfl, Lib.hid (by simp), HOWN.out, World.grownBy.refl _ _⟩
    case round =>
      obtain ⟨k, hk, rfl, HF, ho, hg⟩ := hrel
      have hcr := hc2.grownB hg hgb hN0
      have hilr := hil2.grownB hg hgb hga hgx
      have hBr : Below w1.heap.size w2 _ := (Below.refl _ w2).grown hg hz2 hgb
      by_cases hlt : k < n
      · have hkl : k < ls.length := by have := HIL.out.2.1; omega
        obtain ⟨b, off, rfl, hbl⟩ := hilr.1.some_of_lt (by have := hilr.1.le; omega)
        have hc := hilr.cell hkl
        have hmem := List.getElem_mem hkl
        have hat := hilr.2.2 _ hmem
        have hsucc := joinAll_succ out0 ls hkl
        have htk : ls.take (k + 1) = ls.take k ++ [ls[k]] := List.take_succ_eq_append_getElem hkl
        have hxs := hgx _ hmem
        obtain ⟨s, hs⟩ : ∃ s, ls[k] = s := ⟨_, rfl⟩
        rw [hs] at hc hat hsucc htk hxs hmem
        have hgi := rlist_c x y z s.sa s.sn s.sc s.st (by have := hat.2; omega)
        have HLS := Lib.hid hs
        have HS := Lib.hid hsucc
        have HTK := Lib.hid htk
        have HILR := Lib.hid hilr
        have HGI := Lib.hid hgi
        clear hs hsucc htk hilr hgi hc1
        obtain ⟨p0, p1, p2⟩ := id hcr
        go_wp2_with fail
        refine mix_begin 7 (Held fun w' => w'.cell? ⟨w.heap.size, 0, none⟩ = some (.int .i64 x) ∧ w'.cell? ⟨w.heap.size, 1, none⟩ = some (.int .i64 y) ∧ w'.cell? ⟨w.heap.size, 2, none⟩ = some (.int .i64 z) ∧ w'.cell? ⟨b, off + k, none⟩ = some (.slice s.sa s.sn s.sc)) (by kernel_rfl) (by kernel_rfl) (Held.mk ⟨p0, p1, p2, hc⟩) (fun hS => ?_)
        refine mix_take (v := ?_) 0 rfl (by decide) (by kernel_rfl) (by kernel_rfl) (fun _ _ _ h => h) hS rfl ?_ ?_
        rotate_left
        · (intro w' hw'; first | (go_simp; done) | (go_simp; with_reducible rfl) | (obtain ⟨g0, g1, g2, g3⟩ := hw'.out; first | (go_simp; done) | (go_simp; with_reducible rfl)))
        simp only [Act.put, List.setIfInBounds_toArray, List.set_cons_zero, List.set_cons_succ]
        refine mix_take (v := ?_) 1 rfl (by decide) (by kernel_rfl) (by kernel_rfl) (fun _ _ _ h => h) hS rfl ?_ ?_
        rotate_left
        · (intro w' hw'; first | (go_simp; done) | (go_simp; with_reducible rfl) | (obtain ⟨g0, g1, g2, g3⟩ := hw'.out; first | (go_simp; done) | (go_simp; with_reducible rfl)))
        simp only [Act.put, List.setIfInBounds_toArray, List.set_cons_zero, List.set_cons_succ]
        refine mix_take (v := ?_) 2 rfl (by decide) (by kernel_rfl) (by kernel_rfl) (fun _ _ _ h => h) hS rfl ?_ ?_
        rotate_left
        · (intro w' hw'; first | (go_simp; done) | (go_simp; with_reducible rfl) | (obtain ⟨g0, g1, g2, g3⟩ := hw'.out; first | (go_simp; done) | (go_simp; with_reducible rfl)))
        simp only [Act.put, List.setIfInBounds_toArray, List.set_cons_zero, List.set_cons_succ]
        refine mix_take (v := ?_) 3 rfl (by decide) (by kernel_rfl) (by kernel_rfl) (fun _ _ _ h => h) hS rfl ?_ ?_
        rotate_left
        · (intro w' hw'; first | (go_simp; done) | (go_simp; with_reducible rfl) | (obtain ⟨g0, g1, g2, g3⟩ := hw'.out; first | (go_simp; done) | (go_simp; with_reducible rfl)))
        simp only [Act.put, List.setIfInBounds_toArray, List.set_cons_zero, List.set_cons_succ]
        refine mix_take (v := ?_) 4 rfl (by decide) (by kernel_rfl) (by kernel_rfl) (fun _ _ _ h => h) hS rfl ?_ ?_
        rotate_left
        · (intro w' hw'; first | (go_simp; done) | (go_simp; with_reducible rfl) | (obtain ⟨g0, g1, g2, g3⟩ := hw'.out; first | (go_simp; done) | (go_simp; with_reducible rfl)))
        simp only [Act.put, List.setIfInBounds_toArray, List.set_cons_zero, List.set_cons_succ]
        refine mix_step 5 rfl (by decide) (by kernel_rfl) ?_
        have hlast := HGI.out _ (hat.1.later (below_drew _))
        go_wp2_with fail
        refine hlast.mono ?_
        rintro e w5 ⟨rfl, hb5⟩
        clear hlast
        have hb5' := below_then (below_drew _) hb5
        have ho5 := ho.later hb5'
        have hg5 := grown_below hg hb5'
        have hB5 := (Below.refl w1.heap.size w2).grown hg5 hz2 hgb
        have hcr5 := hcr.later hb5'
        have hc5 := below_cell hb5' hc
        go_wp2_with fail
        refine mix_out (Held.mk ⟨hcr5.1, hcr5.2.1, hcr5.2.2, hc5⟩) (fun hS => ?_)
        refine mix_take (v := ?_) 6 rfl (by decide) (by kernel_rfl) (by kernel_rfl) (fun _ _ _ h => h) hS rfl ?_ ?_
        rotate_left
        · (intro w' hw'; first | (go_simp; done) | (go_simp; with_reducible rfl) | (obtain ⟨g0, g1, g2, g3⟩ := hw'.out; first | (go_simp; done) | (go_simp; with_reducible rfl)))
        simp only [Act.put, List.setIfInBounds_toArray, List.set_cons_zero, List.set_cons_succ]
        refine mix_done (by kernel_rfl) ?_
        simp only [List.drop_succ_cons, List.drop_zero]
        clear hS p0 p1 p2
        cases hok : okList x y z s.st with
        | false =>
          simp only [Bool.not_false]
          go_wp2_with fail
          go_ret2
          refine .inr ⟨?_, rfl, hw2.trans (hB5.mono (Nat.le_trans hbb.size (Nat.le_refl _)))⟩
          rw [HJ.out]
          exact List.all_eq_false.2 ⟨s, hmem, by simp [hok]⟩
        | true =>
          have hslen := okList_len hok
          rw [HNN.out] at hslen
          have hcur : (joinAll out0 (ls.take k)).length = N := by rw [joinAll_len]; exact HLEN.out
          obtain ⟨cur, hcu⟩ : ∃ cur, joinAll out0 (ls.take k) = cur := ⟨_, rfl⟩
          rw [hcu] at ho5 hcur
          have HCU := Lib.hid hcu
          have HCUR := Lib.hid hcur
          have HSL := Lib.hid hslen
          have HOK := Lib.hid hok
          clear hcu hcur hslen hok ho
          obtain ⟨bx, offx, hsa, hbx⟩ := (hat.1.later hb5').1.some_of_lt (by have := hat.1.1.le; have := hat.1.2; have := HSL.out; omega)
          obtain ⟨sa, sn, sc, st⟩ := s
          dsimp only at *
          subst hsa
          simp only [Bool.not_true]
          go_wp2_with fail
          go_loopw [8] (fun j wq => ∃ m : Nat, m ≤ N ∧ j = .int .i64 (m : Int) ∧ OwnSt wq w1.heap.size (.slice va N vc) (joinedK cur st m) ∧ w5.grownBy wq (Value.ownBlock (.slice va N vc))) (fun j _ => N - (intOf j).toNat)
          case atStart => exact ⟨0, by omega, rfl, by rw [joinedK_zero]; exact ho5, World.grownBy.refl _ _⟩
          case round =>
            obtain ⟨m, hm, rfl, hoq, hgq⟩ := hrel
            have hil5 := (HILR.out.later hb5')
            have hilq := hil5.grownB hgq hgb hga hgx
            by_cases hmt : m < N
            · have hmx : m < st.length := by have := HSL.out; omega
              have hmo : m < cur.length := by have := HCUR.out; omega
              have hmj : m < (joinedK cur st m).length := by rw [joinedK_len]; exact hmo
              have hcq := hilq.cell hkl
              have hatq := hilq.2.2 _ (List.getElem_mem hkl)
              rw [HLS.out] at hcq hatq
              have hix := hatq.1
              obtain ⟨c0, c1, c2, c3⟩ := hix.cells hmx
              obtain ⟨g, cp, cur', hv, hbg, hh, hcs⟩ := hoq.blk (by omega)
              simp only [Value.slice.injEq] at hv
              obtain ⟨rfl, hvn, rfl⟩ := hv
              obtain ⟨d0, d1, d2, d3⟩ := hoq.cells hmj
              rw [joinedK_get cur st m hmo hmj] at d0 d1 d2 d3
              have hj1 := joinedK_same cur st m hmo hmx
              have hj2 := joinedK_succ cur st m hmo hmx
              have hmsn : m < sn := by have : st.length = sn := hatq.1.2; omega
              obtain ⟨y', hy⟩ : ∃ y', st[m] = y' := ⟨_, rfl⟩
              obtain ⟨o, ho'⟩ : ∃ o, cur[m] = o := ⟨_, rfl⟩
              rw [hy] at c0 c1 c2 c3 hj1 hj2
              rw [ho'] at d0 d1 d2 d3 hj1 hj2
              have z0 := row_fz hh
              have HJ1 := Lib.hid hj1
              have HJ2 := Lib.hid hj2
              have HVN := Lib.hid hvn
              clear hy ho' hj1 hj2 hvn hh hat hatq hilq hil5
              have hzq := hgq.size
              go_wp2_with fail
              refine mix_begin 12 (Held fun w' => w'.cell? ⟨b, off + k, none⟩ = some (.slice (some ⟨bx, offx, none⟩) sn sc) ∧ w'.cell? ⟨bx, offx + m * 4, none⟩ = some (.int .i64 y'.over) ∧ w'.cell? ⟨bx, offx + m * 4 + 1, none⟩ = some (.bool y'.pend) ∧ w'.cell? ⟨bx, offx + m * 4 + 2, none⟩ = some (.int .i64 y'.mode) ∧ w'.cell? ⟨bx, offx + m * 4 + 3, none⟩ = some (.int .i64 y'.prio) ∧ w'.cell? ⟨g, m * 4, none⟩ = some (.int .i64 o.over) ∧ w'.cell? ⟨g, m * 4 + 1, none⟩ = some (.bool o.pend) ∧ w'.cell? ⟨g, m * 4 + 2, none⟩ = some (.int .i64 o.mode) ∧ w'.cell? ⟨g, m * 4 + 3, none⟩ = some (.int .i64 o.prio)) (by kernel_rfl) (by kernel_rfl) (Held.mk ⟨hcq, c0, c1, c2, c3, d0, d1, d2, d3⟩) (fun hS => ?_)
              refine mix_take (v := ?_) 0 rfl (by decide) (by kernel_rfl) (by kernel_rfl) (fun _ _ _ h => h) hS rfl ?_ ?_
              rotate_left
              · (intro w' hw'; first | (go_simp; done) | (go_simp; with_reducible rfl) | (obtain ⟨g0, g1, g2, g3, g4, g5, g6, g7, g8⟩ := hw'.out; first | (go_simp; done) | (go_simp; with_reducible rfl)))
              simp only [Act.put, List.setIfInBounds_toArray, List.set_cons_zero, List.set_cons_succ]
              refine mix_take (v := ?_) 1 rfl (by decide) (by kernel_rfl) (by kernel_rfl) (fun _ _ _ h => h) hS rfl ?_ ?_
              rotate_left
              · (intro w' hw'; first | (go_simp; done) | (go_simp; with_reducible rfl) | (obtain ⟨g0, g1, g2, g3, g4, g5, g6, g7, g8⟩ := hw'.out; first | (go_simp; done) | (go_simp; with_reducible rfl)))
              simp only [Act.put, List.setIfInBounds_toArray, List.set_cons_zero, List.set_cons_succ]
              refine mix_take (v := ?_) 2 rfl (by decide) (by kernel_rfl) (by kernel_rfl) (fun _ _ _ h => h) hS rfl ?_ ?_
              rotate_left
              · (intro w' hw'; first | (go_simp; done) | (go_simp; with_reducible rfl) | (obtain ⟨g0, g1, g2, g3, g4, g5, g6, g7, g8⟩ := hw'.out; first | (go_simp; done) | (go_simp; with_reducible rfl)))
              simp only [Act.put, List.setIfInBounds_toArray, List.set_cons_zero, List.set_cons_succ]
              refine mix_take (v := ?_) 3 rfl (by decide) (by kernel_rfl) (by kernel_rfl) (fun _ _ _ h => h) hS rfl ?_ ?_
              rotate_left
              · (intro w' hw'; first | (go_simp; done) | (go_simp; with_reducible rfl) | (obtain ⟨g0, g1, g2, g3, g4, g5, g6, g7, g8⟩ := hw'.out; first | (go_simp; done) | (go_simp; with_reducible rfl)))
              simp only [Act.put, List.setIfInBounds_toArray, List.set_cons_zero, List.set_cons_succ]
              refine mix_take (v := ?_) 4 rfl (by decide) (by kernel_rfl) (by kernel_rfl) (fun _ _ _ h => h) hS rfl ?_ ?_
              rotate_left
              · (intro w' hw'; first | (go_simp; done) | (go_simp; with_reducible rfl) | (obtain ⟨g0, g1, g2, g3, g4, g5, g6, g7, g8⟩ := hw'.out; first | (go_simp; done) | (go_simp; with_reducible rfl)))
              simp only [Act.put, List.setIfInBounds_toArray, List.set_cons_zero, List.set_cons_succ]
              refine mix_take (v := ?_) 5 rfl (by decide) (by kernel_rfl) (by kernel_rfl) (fun _ _ _ h => h) hS rfl ?_ ?_
              rotate_left
              · (intro w' hw'; first | (go_simp; done) | (go_simp; with_reducible rfl) | (obtain ⟨g0, g1, g2, g3, g4, g5, g6, g7, g8⟩ := hw'.out; first | (go_simp; done) | (go_simp; with_reducible rfl)))
              simp only [Act.put, List.setIfInBounds_toArray, List.set_cons_zero, List.set_cons_succ]
              refine mix_take (v := ?_) 6 rfl (by decide) (by kernel_rfl) (by kernel_rfl) (fun _ _ _ h => h) hS rfl ?_ ?_
              rotate_left
              · (intro w' hw'; first | (go_simp; done) | (go_simp; with_reducible rfl) | (obtain ⟨g0, g1, g2, g3, g4, g5, g6, g7, g8⟩ := hw'.out; first | (go_simp; done) | (go_simp; with_reducible rfl)))
              simp only [Act.put, List.setIfInBounds_toArray, List.set_cons_zero, List.set_cons_succ]
              refine mix_take (v := ?_) 7 rfl (by decide) (by kernel_rfl) (by kernel_rfl) (fun _ _ _ h => h) hS rfl ?_ ?_
              rotate_left
              · (intro w' hw'; first | (go_simp; done) | (go_simp; with_reducible rfl) | (obtain ⟨g0, g1, g2, g3, g4, g5, g6, g7, g8⟩ := hw'.out; first | (go_simp; done) | (go_simp; with_reducible rfl)))
              simp only [Act.put, List.setIfInBounds_toArray, List.set_cons_zero, List.set_cons_succ]
              refine mix_take (v := ?_) 8 rfl (by decide) (by kernel_rfl) (by kernel_rfl) (fun _ _ _ h => h) hS rfl ?_ ?_
              rotate_left
              · (intro w' hw'; first | (go_simp; done) | (go_simp; with_reducible rfl) | (obtain ⟨g0, g1, g2, g3, g4, g5, g6, g7, g8⟩ := hw'.out; first | (go_simp; done) | (go_simp; with_reducible rfl)))
              simp only [Act.put, List.setIfInBounds_toArray, List.set_cons_zero, List.set_cons_succ]
              refine mix_take (v := ?_) 9 rfl (by decide) (by kernel_rfl) (by kernel_rfl) (fun _ _ _ h => h) hS rfl ?_ ?_
              rotate_left
              · (intro w' hw'; first | (go_simp; done) | (go_simp; with_reducible rfl) | (obtain ⟨g0, g1, g2, g3, g4, g5, g6, g7, g8⟩ := hw'.out; first | (go_simp; done) | (go_simp; with_reducible rfl)))
              simp only [Act.put, List.setIfInBounds_toArray, List.set_cons_zero, List.set_cons_succ]
              refine mix_take (v := ?_) 10 rfl (by decide) (by kernel_rfl) (by kernel_rfl) (fun _ _ _ h => h) hS rfl ?_ ?_
              rotate_left
              · (intro w' hw'; first | (go_simp; done) | (go_simp; with_reducible rfl) | (obtain ⟨g0, g1, g2, g3, g4, g5, g6, g7, g8⟩ := hw'.out; first | (go_simp; done) | (go_simp; with_reducible rfl)))
              simp only [Act.put, List.setIfInBounds_toArray, List.set_cons_zero, List.set_cons_succ]
              refine mix_step 11 rfl (by decide) (by kernel_rfl) ?_
              have hb6 := rmore_c y' o
              go_wp2_with fail
              refine (hb6 _).mono ?_
              rintro e w6 ⟨rfl, hb6'⟩
              clear hb6
              have hbq := below_then (below_drew _) hb6'
              have hcq6 := below_cell hbq hcq
              have c06 := below_cell hbq c0
              have c16 := below_cell hbq c1
              have c26 := below_cell hbq c2
              have c36 := below_cell hbq c3
              have d06 := below_cell hbq d0
              have d16 := below_cell hbq d1
              have d26 := below_cell hbq d2
              have d36 := below_cell hbq d3
              have ho6 := hoq.later hbq
              have hg6 := grown_below hgq hbq
              go_wp2_with fail
              refine mix_out (Held.mk ⟨hcq6, c06, c16, c26, c36, d06, d16, d26, d36⟩) (fun hS => ?_)
              refine mix_done (by kernel_rfl) ?_
              simp only [List.drop_succ_cons, List.drop_zero]
              clear hS hcq c0 c1 c2 c3 d0 d1 d2 d3
              cases hmm : moreSt y' o with
              | false =>
                go_wp2_with fail
                exact ⟨⟨m + 1, by omega, by go_num, by rw [HJ1.out hmm]; exact ho6, hg6⟩, by simp [intOf]; omega⟩
              | true =>
                obtain ⟨g', cp', cur6, hv', hbg', hh', hcs'⟩ := ho6.blk (by omega)
                simp only [Value.slice.injEq, Option.some.injEq, Addr.mk.injEq] at hv'
                obtain ⟨⟨rfl, -, -⟩, -, -⟩ := hv'
                have z6 := row_fz hh'
                clear hh' z0
                go_wp2_with fail
                refine ⟨?_, by simp [intOf]; omega⟩
                · refine ⟨m + 1, by omega, by go_num, ?_, grown_trans hg6 (grown_set4 w6 g _ _ _ _ _ _ _ _)⟩
                  rw [HJ2.out]
                  unfold pickSt
                  rw [if_pos hmm]
                  exact ho6.store hmj HVN.out.symm y'
            · obtain rfl : m = N := by omega
              go_wp2_with fail
              refine ⟨?_, by simp [intOf]; omega⟩
              · refine ⟨k + 1, by omega, by go_num, Lib.hid ?_, ?_, grown_trans hg5 hgq⟩
                · intro u hu
                  rw [HTK.out] at hu
                  rcases List.mem_append.1 hu with hu | hu
                  · exact HF.out u hu
                  · obtain rfl := List.mem_singleton.1 hu; exact HOK.out
                · rw [HS.out, HCU.out]
                  have : joinL cur st = joinedK cur st m := by unfold joinL; rw [HCUR.out]
                  rw [this]
                  exact hoq
      · obtain rfl : k = n := by omega
        go_wp2_with fail
        go_ret2
        have hall : ls.all (fun s => okList x y z s.st) = true := List.all_eq_true.2 (fun s hs => HF.out s (by rw [List.take_of_length_le (by have := HIL.out.2.1; omega)]; exact hs))
        rw [List.take_of_length_le (by have := HIL.out.2.1; omega)] at ho
        exact .inl ⟨by rw [HJ.out, hall], _, rfl, by rw [HRES.out]; exact OwnSt.mono ho hbb.size, hw2.trans (hBr.mono hbb.size)⟩
end Go.Proofs.Ytpobnbiakneoiaa
