import Derived.Test.YtpobnbiakneoiaaStatF
namespace Go.Proofs.Ytpobnbiakneoiaa
open Go.RowKit Go.Cas
set_option linter.unusedSimpArgs false
set_option linter.unusedVariables false
attribute [local go_sem] Oper.semAt_some

theorem row_cell {w : World} {g : Nat} {cs : Array Value} {t : TypeId} {fr : Nat × Nat} (h : w.heap[g]? = some (.cells cs t fr)) (i : Nat) {v : Value} (hv : cs[i]? = some v) : w.cell? ⟨g, i, none⟩ = some v := by simp [World.cell?, h, hv]
theorem row_cell_drew {w : World} {g : Nat} {cs : Array Value} {t : TypeId} {fr : Nat × Nat} (h : w.heap[g]? = some (.cells cs t fr)) (i : Nat) {v : Value} (hv : cs[i]? = some v) : w.drew.cell? ⟨g, i, none⟩ = some v := row_cell (w := w.drew) h i hv
theorem row_fz {w : World} {g : Nat} {cs : Array Value} {t : TypeId} (h : w.heap[g]? = some (.cells cs t (0, 0))) (i : Nat) : w.frozen? ⟨g, i, none⟩ = false := by simp [World.frozen?, h]
theorem cell_drew {w : World} {p : Addr} {v : Value} (h : w.cell? p = some v) : w.drew.cell? p = some v := h
theorem IsSt.below {w w' : World} {a : Option Addr} {n cap B : Nat} {l : List St} (h : IsSt w a n cap l) (hb : Below B w w') (hB : ∀ ad, a = some ad → 0 < cap → ad.block < B) : IsSt w' a n cap l := ⟨h.1.below' hb hB, h.2⟩
/-- the cells of one of a row of the call's own -/
theorem OwnSt.cells {w : World} {base g n cap : Nat} {l : List St} (h : OwnSt w base (.slice (some ⟨g, 0, none⟩) n cap) l) {k : Nat} (hk : k < l.length) :
    w.cell? ⟨g, k * 4, none⟩ = some (.int .i64 l[k].over) ∧ w.cell? ⟨g, k * 4 + 1, none⟩ = some (.bool l[k].pend) ∧ w.cell? ⟨g, k * 4 + 2, none⟩ = some (.int .i64 l[k].mode) ∧ w.cell? ⟨g, k * 4 + 3, none⟩ = some (.int .i64 l[k].prio) := by
  obtain ⟨a, c, hv, hs⟩ := h.isSt
  simp only [Value.slice.injEq] at hv
  obtain ⟨rfl, rfl, rfl⟩ := hv
  have := hs.cells hk
  rwa [Nat.zero_add] at this
theorem OwnSt.below {w w' : World} {base : Nat} {v : Value} {l : List St} (h : OwnSt w base v l) (hb : Below w.heap.size w w') : OwnSt w' base v l := ownsRow_later h hb
theorem grown_set4 (w : World) (g i j k m : Nat) (a b c d : Value) : w.grownBy ((((w.setCell ⟨g, i, none⟩ a).setCell ⟨g, j, none⟩ b).setCell ⟨g, k, none⟩ c).setCell ⟨g, m, none⟩ d) (some g) :=
  grown_trans (grown_trans (grown_trans (grown_set _ _ _ _) (grown_set _ _ _ _)) (grown_set _ _ _ _)) (grown_set _ _ _ _)
/-- a row of the call's own lies in one block -/
theorem ownsRow_at {w w' : World} {base : Nat} {e : TypeId} {k : Nat} {v : Value} {n : Nat} {vs : List Value} (h : w.ownsRow base e k v n vs) (hb : ∀ g, Value.ownBlock v = some g → w'.heap[g]? = w.heap[g]?) : w'.ownsRow base e k v n vs := by
  refine ⟨h.1, ?_⟩
  rcases h.2 with h | ⟨g, cap, cur, hv, hg, hh, r⟩
  · exact .inl h
  · exact .inr ⟨g, cap, cur, hv, hg, by rw [hb g (by rw [hv]; rfl)]; exact hh, r⟩
/-- a block of the call's own is written: the rest is as it was -/
theorem below_grown' {w w1 w2 : World} {g : Nat} {n : Nat} (h : Below n w w1) (hg : w1.grownBy w2 (some g)) (hn : n ≤ g) (hw : n ≤ w.heap.size) : Below n w w2 :=
  h.trans ⟨hg.os, hg.tape, hg.output, hg.size, fun k hk => hg.block k (Nat.lt_of_lt_of_le (Nat.lt_of_lt_of_le hk hw) h.size) (by intro e; have := Option.some.inj e; omega)⟩
set_option maxRecDepth 100000 in
set_option maxHeartbeats 2000000 in
theorem join2_c (base : Nat) (v : Value) (out : List St) (sa : Option Addr) (sn sc : Nat) (x : List St) (w : World) (hown : OwnSt w base v out) (hx : IsSt w sa sn sc x) (hlen : x.length = out.length)
    (hxb : ∀ ad, sa = some ad → 0 < sc → ad.block < base) (hbase : base ≤ w.heap.size) (hbig : out.length ≤ 2 ^ 40) (hv : ∃ a n c, v = .slice a n c) :
    Calls Try.prog 39 #[v, .slice sa sn sc] w fun e w' => e = .returned v ∧ OwnSt w' base v (joinL out x) ∧ w.grownBy w' (Value.ownBlock v) := by
  have hln := hx.2
  have HL := Lib.hid hln
  have HLN := Lib.hid hlen
  clear hln hlen
  obtain ⟨va, vn, vc, rfl⟩ := hv
  go_enter Try.func39, Try.ntmps39
  go_wp2_with fail
  have hsn : sn ≤ 2 ^ 40 := by have := HL.out; have := HLN.out; omega
  go_loopw [9] (fun i wr => ∃ k : Nat, k ≤ sn ∧ i = .int .i64 (k : Int) ∧ OwnSt wr base (.slice va vn vc) (joinedK out x k) ∧ w.grownBy wr (Value.ownBlock (.slice va vn vc))) (fun i _ => sn - (intOf i).toNat)
  case atStart => exact ⟨0, by omega, rfl, by rw [joinedK_zero]; exact hown, World.grownBy.refl _ _⟩
  case round =>
    obtain ⟨k, hk, rfl, ho, hg⟩ := hrel
    have hb : Below base w wr := (Below.refl base w).grown hg hbase (fun k hk => (World.ownsRow.lt hown k hk).1)
    clear hown
    by_cases hlt : k < sn
    · have hkx : k < x.length := by have := HL.out; omega
      have hko : k < out.length := by have := HLN.out; omega
      have hkj : k < (joinedK out x k).length := by rw [joinedK_len]; exact hko
      obtain ⟨b, off, rfl, hbl⟩ := hx.1.some_of_lt (by have := hx.1.le; omega)
      obtain ⟨c0, c1, c2, c3⟩ := (hx.below hb hxb).cells hkx
      obtain ⟨g, cap, cur, hv, hbg, hh, hcs⟩ := ho.blk (by omega)
      simp only [Value.slice.injEq] at hv
      obtain ⟨rfl, hvn, rfl⟩ := hv
      obtain ⟨d0, d1, d2, d3⟩ := ho.cells hkj
      rw [joinedK_get out x k hko hkj] at d0 d1 d2 d3
      have hglt : g < wr.heap.size := (Array.getElem?_eq_some_iff.1 hh).1
      have hj1 := joinedK_same out x k hko hkx
      have hj2 := joinedK_succ out x k hko hkx
      obtain ⟨y, hy⟩ : ∃ y, x[k] = y := ⟨_, rfl⟩
      obtain ⟨o, ho'⟩ : ∃ o, out[k] = o := ⟨_, rfl⟩
      rw [hy] at c0 c1 c2 c3 hj1 hj2
      rw [ho'] at d0 d1 d2 d3 hj1 hj2
      have hvk : k < vn := by rw [joinedK_len] at hvn; omega
      have HJ1 := Lib.hid hj1
      have HJ2 := Lib.hid hj2
      have HVN := Lib.hid hvn
      clear hy ho' hj1 hj2 hvn hh
      have hsz := hb.size
      have hsz' : base ≤ wr.heap.size := Nat.le_trans hbase hsz
      go_wp2_with fail
      have hba := below_alloc wr (.cells #[.int .i64 y.over, .bool y.pend, .int .i64 y.mode, .int .i64 y.prio] 77)
      have hnew := heap_alloc_new wr (.cells #[.int .i64 y.over, .bool y.pend, .int .i64 y.mode, .int .i64 y.prio] 77)
      have e0 := below_cell hba d0
      have e1 := below_cell hba d1
      have e2 := below_cell hba d2
      have e3 := below_cell hba d3
      clear c0 c1 c2 c3 d0 d1 d2 d3
      refine mix_begin 6 (Held fun w' => w'.cell? ⟨wr.heap.size, 0, none⟩ = some (.int .i64 y.over) ∧ w'.cell? ⟨wr.heap.size, 1, none⟩ = some (.bool y.pend) ∧ w'.cell? ⟨wr.heap.size, 2, none⟩ = some (.int .i64 y.mode) ∧ w'.cell? ⟨wr.heap.size, 3, none⟩ = some (.int .i64 y.prio) ∧ w'.cell? ⟨g, k * 4, none⟩ = some (.int .i64 o.over) ∧ w'.cell? ⟨g, k * 4 + 1, none⟩ = some (.bool o.pend) ∧ w'.cell? ⟨g, k * 4 + 2, none⟩ = some (.int .i64 o.mode) ∧ w'.cell? ⟨g, k * 4 + 3, none⟩ = some (.int .i64 o.prio)) (by kernel_rfl) (by kernel_rfl) (Held.mk ⟨row_cell_drew hnew 0 rfl, row_cell_drew hnew 1 rfl, row_cell_drew hnew 2 rfl, row_cell_drew hnew 3 rfl, e0, e1, e2, e3⟩) (fun hS => ?_)
      refine mix_take (v := ?_) 0 rfl (by decide) (by kernel_rfl) (by kernel_rfl) (fun _ _ _ h => h) hS rfl ?_ ?_
      rotate_left
      · (intro w' hw'; first | (go_simp; done) | (go_simp; with_reducible rfl) | (obtain ⟨g0, g1, g2, g3, g4, g5, g6, g7⟩ := hw'.out; first | (go_simp; done) | (go_simp; with_reducible rfl)))
      simp only [Act.put, List.setIfInBounds_toArray, List.set_cons_zero, List.set_cons_succ]
      refine mix_take (v := ?_) 1 rfl (by decide) (by kernel_rfl) (by kernel_rfl) (fun _ _ _ h => h) hS rfl ?_ ?_
      rotate_left
      · (intro w' hw'; first | (go_simp; done) | (go_simp; with_reducible rfl) | (obtain ⟨g0, g1, g2, g3, g4, g5, g6, g7⟩ := hw'.out; first | (go_simp; done) | (go_simp; with_reducible rfl)))
      simp only [Act.put, List.setIfInBounds_toArray, List.set_cons_zero, List.set_cons_succ]
      refine mix_take (v := ?_) 2 rfl (by decide) (by kernel_rfl) (by kernel_rfl) (fun _ _ _ h => h) hS rfl ?_ ?_
      rotate_left
      · (intro w' hw'; first | (go_simp; done) | (go_simp; with_reducible rfl) | (obtain ⟨g0, g1, g2, g3, g4, g5, g6, g7⟩ := hw'.out; first | (go_simp; done) | (go_simp; with_reducible rfl)))
      simp only [Act.put, List.setIfInBounds_toArray, List.set_cons_zero, List.set_cons_succ]
      refine mix_take (v := ?_) 3 rfl (by decide) (by kernel_rfl) (by kernel_rfl) (fun _ _ _ h => h) hS rfl ?_ ?_
      rotate_left
      · (intro w' hw'; first | (go_simp; done) | (go_simp; with_reducible rfl) | (obtain ⟨g0, g1, g2, g3, g4, g5, g6, g7⟩ := hw'.out; first | (go_simp; done) | (go_simp; with_reducible rfl)))
      simp only [Act.put, List.setIfInBounds_toArray, List.set_cons_zero, List.set_cons_succ]
      refine mix_take (v := ?_) 4 rfl (by decide) (by kernel_rfl) (by kernel_rfl) (fun _ _ _ h => h) hS rfl ?_ ?_
      rotate_left
      · (intro w' hw'; first | (go_simp; done) | (go_simp; with_reducible rfl) | (obtain ⟨g0, g1, g2, g3, g4, g5, g6, g7⟩ := hw'.out; first | (go_simp; done) | (go_simp; with_reducible rfl)))
      simp only [Act.put, List.setIfInBounds_toArray, List.set_cons_zero, List.set_cons_succ]
      refine mix_step 5 rfl (by decide) (by kernel_rfl) ?_
      go_wp2_with fail
      refine (more_c y o _).mono ?_
      rintro e w5 ⟨rfl, hb5⟩
      have f0 := below_cell hb5 (row_cell_drew hnew 0 rfl)
      have f1 := below_cell hb5 (row_cell_drew hnew 1 rfl)
      have f2 := below_cell hb5 (row_cell_drew hnew 2 rfl)
      have f3 := below_cell hb5 (row_cell_drew hnew 3 rfl)
      have k0 := below_cell hb5 (cell_drew e0)
      have k1 := below_cell hb5 (cell_drew e1)
      have k2 := below_cell hb5 (cell_drew e2)
      have k3 := below_cell hb5 (cell_drew e3)
      have hba5 := below_then hba.drew hb5
      have ho5 := ho.later hba5
      obtain ⟨g', cap', cur', hv', hbg', hh', hcs'⟩ := ho5.blk (by omega)
      simp only [Value.slice.injEq, Option.some.injEq, Addr.mk.injEq] at hv'
      obtain ⟨⟨rfl, -, -⟩, -, -⟩ := hv'
      have z0 := row_fz hh'
      clear hnew e0 e1 e2 e3 hh'
      go_wp2_with fail
      refine mix_out (Held.mk ⟨f0, f1, f2, f3, k0, k1, k2, k3⟩) (fun hS => ?_)
      refine mix_done (by kernel_rfl) ?_
      simp only [List.drop_succ_cons, List.drop_zero]
      clear hS
      cases hm : moreSt y o with
      | false =>
        go_wp2_with fail
        exact ⟨⟨k + 1, by omega, by go_num, by rw [HJ1.out hm]; exact ho5, grown_below hg hba5⟩, by simp [intOf]; omega⟩
      | true =>
        go_wp2_with fail
        refine ⟨⟨k + 1, by omega, by go_num, ?_, grown_trans (grown_below hg hba5) (grown_set4 w5 g _ _ _ _ _ _ _ _)⟩, by simp [intOf]; omega⟩
        rw [HJ2.out]
        unfold pickSt
        rw [if_pos hm]
        exact ho5.store hkj HVN.out.symm y
    · obtain rfl : k = sn := by omega
      go_wp2_with fail
      go_ret
      refine ⟨rfl, ?_, hg⟩
      have : joinL out x = joinedK out x k := by unfold joinL; rw [← HLN.out, HL.out]
      rw [this]
      exact ho
end Go.Proofs.Ytpobnbiakneoiaa
