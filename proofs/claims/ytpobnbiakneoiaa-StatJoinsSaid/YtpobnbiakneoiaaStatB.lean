import Derived.Test.YtpobnbiakneoiaaStatA
namespace Go.Proofs.Ytpobnbiakneoiaa
open Go.RowKit Go.Cas
set_option linter.unusedSimpArgs false
attribute [local go_sem] Oper.semAt_some
attribute [local go_sem] calm_normal

theorem heap_newD (w : World) (o : Obj) (i : Nat) (h : i = w.heap.size) : (w.alloc o).drew.heap[i]? = some o := by subst h; exact heap_alloc_new w o
theorem build_ticket (x y : Int) (w : World) : (Instr.build 140 #[(0, .int .i64 x), (2, .int .i64 y), (3, .int .i64 1)]).run Try.prog w = .ok (.agg #[.int .i64 x, .int .i64 0, .int .i64 y, .int .i64 1]) w := by kernel_rfl
set_option maxRecDepth 100000 in
set_option maxHeartbeats 1000000 in
theorem firstT_c (a b c : Int) (i : Nat) (w : World) (h : 1 ≤ c ∧ c ≤ 4) (hi : i ≤ 256) : Calls Try.prog 88 #[.agg #[.int .i64 a, .int .i64 b, .int .i64 c], .int .i64 (i : Int)] w fun e w' =>
    (∃ v, e = .returned v) ∧ Below w.heap.size w w' := by
  have hbt := build_ticket
  go_enter Try.func88, Try.ntmps88
  go_wp2_with fail
  have hc0 : (c == 0) = false := by simp; omega
  have hc1 : ¬ c = 0 := by omega
  have hc2 : ¬ c = -1 := by omega
  go_region
  go_wp2_with fail
  refine bodyPost_ret_by (results_cell_row rfl _ _ (w.heap.size + 1) 140 #[.int .i64 _, .int .i64 0, .int .i64 _, .int .i64 1] (0, 0) _ rfl (heap_newD _ _ _ (by simp)) Try.underlying140 rfl (by kernel_rfl)) rfl ⟨⟨_, rfl⟩, ((below_then (below_alloc _ _) (below_alloc _ _))).drew⟩
theorem each_c (a b c : Int) (w : World) : Calls Try.prog 80 #[.agg #[.int .i64 a, .int .i64 b, .int .i64 c]] w fun e w' =>
    e = .returned (.func (.func 86) #[] #[.pointer (some ⟨w.heap.size, 0, none⟩)]) ∧ w.alloc (.cells #[.int .i64 a, .int .i64 b, .int .i64 c] 23) = w' := by
  go_enter Try.func80, Try.ntmps80
  go_wp2
  go_ret
  exact ⟨rfl, rfl⟩
theorem enter_each1 : ∀ args w, (callFunc 86 args).run Try.prog w = .ok (.enter 86 args) w := enters_of Try.func86 (by kernel_rfl) rfl
/-- how many sites -/
def sites (a b c : Int) : Nat := if okShape a b c = true then (a * c).toNat else 0
theorem sites_le (a b c : Int) : sites a b c ≤ 256 := by
  unfold sites
  split
  · rename_i h
    obtain ⟨h1, h2, h3, h4, h5, h6⟩ := (okShape_iff a b c).1 h
    have hy : a * c ≤ 64 * 4 := Int.mul_le_mul h2 h6 (by omega) (by omega)
    omega
  · omega
def ETwo (_ : Nat) (_ : Unit) (vs : Array Value) (_ : World) : Prop := vs.size = 2
/-- a shape in its cell -/
def Cell3 (w : World) (Bs : Nat) (a b c : Int) : Prop := w.cell? ⟨Bs, 0, none⟩ = some (.int .i64 a) ∧ w.cell? ⟨Bs, 1, none⟩ = some (.int .i64 b) ∧ w.cell? ⟨Bs, 2, none⟩ = some (.int .i64 c)
theorem Cell3.hold {R : Nat → Prop} {w w' : World} {Bs : Nat} {a b c : Int} (h : Cell3 w Bs a b c) (hh : Hold R w w') (hr : R Bs) : Cell3 w' Bs a b c := ⟨(hh.cell hr).trans h.1, (hh.cell hr).trans h.2.1, (hh.cell hr).trans h.2.2⟩
theorem Cell3.later {w w' : World} {Bs : Nat} {a b c : Int} (h : Cell3 w Bs a b c) (hb : Below w.heap.size w w') : Cell3 w' Bs a b c := ⟨below_cell hb h.1, below_cell hb h.2.1, below_cell hb h.2.2⟩
theorem Cell3.keep {S : Nat → Prop} {w w' : World} {Bs : Nat} {a b c : Int} (h : Cell3 w Bs a b c) (hh : Keep S w w') (hr : ¬ S Bs) : Cell3 w' Bs a b c := ⟨hh.cell h.1 hr, hh.cell h.2.1 hr, hh.cell h.2.2 hr⟩
theorem grown_cell' {w w' : World} {b c i : Nat} {v : Value} (hg : w.grownBy w' (some b)) (hc : w.cell? ⟨c, i, none⟩ = some v) (hne : c ≠ b) : w'.cell? ⟨c, i, none⟩ = some v :=
  (World.cell?_of_block (hg.block c (World.block_lt_of_cell? w _ hc) (by intro e; exact hne (Option.some.inj e)))).trans hc
theorem Cell3.grown {w w' : World} {Bs g : Nat} {a b c : Int} (h : Cell3 w Bs a b c) (hg : w.grownBy w' (some g)) (hne : Bs ≠ g) : Cell3 w' Bs a b c := ⟨grown_cell' hg h.1 hne, grown_cell' hg h.2.1 hne, grown_cell' hg h.2.2 hne⟩
theorem Cell3.new (w : World) (a b c : Int) (t : TypeId) : Cell3 (w.alloc (.cells #[.int .i64 a, .int .i64 b, .int .i64 c] t)) w.heap.size a b c := by
  have h := heap_alloc_new w (.cells #[.int .i64 a, .int .i64 b, .int .i64 c] t)
  refine ⟨?_, ?_, ?_⟩ <;> (unfold World.cell?; rw [h]; rfl)
theorem Cell3.lt {w : World} {Bs : Nat} {a b c : Int} (h : Cell3 w Bs a b c) : Bs < w.heap.size := World.block_lt_of_cell? w ⟨Bs, 0, none⟩ h.1
set_option maxRecDepth 100000 in
set_option maxHeartbeats 2000000 in
theorem each_iter (Bs : Nat) (a b c : Int) (w : World) (h : Cell3 w Bs a b c) : Iter Try.prog 86 #[.pointer (some ⟨Bs, 0, none⟩)] ETwo (List.replicate (sites a b c) ()) 0 (fun k => k = Bs) w := by
  intro L J Jx W hW hsz hJ hJx hY h0
  have hc := h.hold hW rfl
  have hBlt := hc.lt
  obtain ⟨q0, q1, q2⟩ := hc
  have hbu := build_under
  have hck := scheck_c a b c
  refine callsIn_of_wp Try.func86 rfl trivial ?_ rfl
  simp only [Try.ntmps86, List.size_toArray, List.length_cons, List.length_nil, Nat.reduceAdd, Nat.reduceSub, Array.replicate_succ, Array.replicate_zero, List.push_toArray, List.append_toArray, List.nil_append, List.cons_append]
  have HY := Lib.hid hY; clear hY
  refine wpIn_scope_straight ?_
  gi_wp2_with fail
  refine ⟨trivial, rfl, (callsIn_wide.2 (hck _)).mono ?_⟩
  rintro e w1 ⟨rfl, hb1⟩
  have hJ1 := hJ _ _ _ h0 (Keep.of_below hb1)
  have p0 := below_cell hb1 q0
  have p1 := below_cell hb1 q1
  have p2 := below_cell hb1 q2
  cases hk : okShape a b c with
  | false =>
    have hE : errShape a b c = 2 := by unfold errShape; rw [hk]; rfl
    have hN : sites a b c = 0 := by unfold sites; rw [hk]; rfl
    rw [hE]
    gi_wp2
    simp only [Exit.noGoto]
    exact bodyPost_ret (results_none rfl _ _ _) rfl ⟨⟨_, rfl⟩, .inl (by rw [hN]; exact hJ1)⟩
  | true =>
    have hE : errShape a b c = 0 := by unfold errShape; rw [hk]; rfl
    have hN : (sites a b c : Int) = a * c := by
      unfold sites; rw [hk]
      obtain ⟨h1, h2, h3, h4, h5, h6⟩ := (okShape_iff a b c).1 hk
      have hx : 0 ≤ a * c := Int.mul_nonneg (by omega) (by omega)
      simp only [if_true]; omega
    have hmany := many_c a b c
    have hc14 : 1 ≤ c ∧ c ≤ 4 := by have := (okShape_iff a b c).1 hk; omega
    have hle := sites_le a b c
    obtain ⟨N, hNN⟩ : ∃ N, sites a b c = N := ⟨_, rfl⟩
    rw [hNN] at hN hle
    have HN := Lib.hid hNN
    clear hNN
    rw [hE]
    rw [← hN] at hmany
    have HK := Lib.hid hk
    clear hk hE hN
    gi_wp2_with fail
    refine wpIn_label ?_
    gi_wp2_with fail
    refine ⟨trivial, rfl, (callsIn_wide.2 (hmany _ HK.out)).mono ?_⟩
    rintro e w2 ⟨rfl, hb2⟩
    have hb02 := below_then (below_then hb1 (below_alloc _ _)) hb2
    have hJ2 := hJ _ _ _ h0 (Keep.of_below hb02)
    have hH2 : W.heap.size ≤ w2.heap.size := hb02.size
    clear hmany hck q0 q1 q2 p0 p1 p2 hb1 hb2 hJ1 hb02
    gi_wp2_with fail
    gi_loopw [15] (fun i wr => ∃ k : Nat, k ≤ N ∧ i = .int .i64 (k : Int) ∧ J k wr ∧ W.heap.size ≤ wr.heap.size) (fun i _ => N - (intOf i).toNat)
    case atStart => exact ⟨0, by omega, rfl, hJ2, hH2⟩
    case round =>
      obtain ⟨k, hkN, rfl, hj, hz⟩ := hrel
      by_cases hlt : k < N
      · have hf := fun W => firstT_c a b c k W hc14 (by omega)
        gi_wp2_with fail
        refine ⟨trivial, rfl, (callsIn_wide.2 (hf _)).mono ?_⟩
        rintro e w3 ⟨⟨v, rfl⟩, hb3⟩
        have hj3 := hJ _ _ _ hj (Keep.of_below hb3)
        have hz3 := hb3.size
        obtain ⟨fn, tmps, assign, body, hy, hR⟩ := HY.out k (by rw [List.length_replicate, HN.out]; exact hlt) #[.int .i64 (k : Int), v] w3 hj3 rfl (by omega)
        gi_wp2
        refine ⟨rfl, hR.mono ?_⟩
        rintro e W3 (⟨rfl, hj4, hh4⟩ | ⟨rfl, hj4, hh4⟩)
        · have hz4 := hh4.size
          gi_wp2
          exact ⟨⟨k + 1, by omega, by go_num, hj4, by omega⟩, by simp [intOf]; omega⟩
        · gi_wp2
          simp only [Exit.noGoto]
          go_end0
          exact ⟨⟨_, rfl⟩, .inr ⟨k + 1, by rw [List.length_replicate, HN.out]; exact hlt, hj4⟩⟩
      · obtain rfl : k = N := by omega
        gi_wp2
        simp only [Exit.noGoto]
        go_end0
        exact ⟨⟨_, rfl⟩, .inl (by rw [List.length_replicate, HN.out]; exact hj)⟩
set_option maxRecDepth 100000 in
set_option maxHeartbeats 2000000 in
theorem sites_c (a b c : Int) (w : World) : Calls Try.prog 67 #[.agg #[.int .i64 a, .int .i64 b, .int .i64 c]] w fun e w' =>
    e = .returned (.tuple #[.int .i64 (sites a b c : Int), .int .i64 (errShape a b c)]) ∧ Below w.heap.size w w' := by
  refine calls_of_wp_marks Try.func67 rfl ?_
  simp only [Try.ntmps67, List.size_toArray, List.length_cons, List.length_nil, Nat.reduceAdd, Nat.reduceSub, Array.replicate_succ, Array.replicate_zero, List.push_toArray, List.append_toArray, List.nil_append, List.cons_append]
  go_wp2_with fail
  refine (each_c a b c _).mono ?_
  rintro e w1 ⟨rfl, hw1⟩
  simp only [World.size_alloc] at hw1 ⊢
  have hbA := below_alloc w (.cells #[.int .i64 a, .int .i64 b, .int .i64 c] 23)
  have hbB := below_alloc (w.alloc (.cells #[.int .i64 a, .int .i64 b, .int .i64 c] 23)) (.cells #[.int .i64 0] 3)
  have hbC : Below ((w.alloc (.cells #[.int .i64 a, .int .i64 b, .int .i64 c] 23)).alloc (.cells #[.int .i64 0] 3)).heap.size ((w.alloc (.cells #[.int .i64 a, .int .i64 b, .int .i64 c] 23)).alloc (.cells #[.int .i64 0] 3)) w1 := by rw [← hw1]; exact below_alloc _ _
  have hA : Cell3 w1 w.heap.size a b c := ((Cell3.new w a b c _).later hbB).later hbC
  have hB : Box w1 (w.heap.size + 1) (.int .i64 0) := (Box.mk (w.alloc (.cells #[.int .i64 a, .int .i64 b, .int .i64 c] 23)) _ _ (World.size_alloc _ _).symm).later hbC
  have hC : Cell3 w1 (w.heap.size + 1 + 1) a b c := by
    rw [← hw1]
    have := Cell3.new ((w.alloc (.cells #[.int .i64 a, .int .i64 b, .int .i64 c] 23)).alloc (.cells #[.int .i64 0] 3)) a b c 23
    simpa only [World.size_alloc] using this
  have hb1 := below_then (below_then hbA hbB) hbC
  clear hbA hbB hbC hw1
  have hz := hC.lt
  go_wp2_with fail
  refine wp_range (gf := 86) (lb := #[.pointer (some ⟨w.heap.size + 1 + 1, 0, none⟩)]) rfl enter_each1
    (each_iter (w.heap.size + 1 + 1) a b c w1 hC) (Hold.refl _ _) (Nat.le_refl _) ?hR ?hps ?hE
    (fun i A => Cell3 A w.heap.size a b c ∧ Box A (w.heap.size + 1) (.int .i64 (i : Int)) ∧ Below w.heap.size w A)
    (fun _ _ _ => False) ?hI ?hIx ⟨hA, hB, hb1⟩
    (fun vs => { tmps := #[.agg #[.int .i64 a, .int .i64 b, .int .i64 c], .pointer (some ⟨w.heap.size, 0, none⟩), .pointer (some ⟨w.heap.size + 1, 0, none⟩), .int .i64 0, .agg #[.int .i64 a, .int .i64 b, .int .i64 c], .func (.func 86) #[] #[.pointer (some ⟨w.heap.size + 1 + 1, 0, none⟩)], vs.getD 0 undef, vs.getD 1 undef, undef, undef, undef, undef, undef], defers := [] }) ?hassign ?hbody ?hdone ?hstop
  case hR => rintro k rfl; exact hz
  case hps => intro x vs A h; exact h
  case hE => intro x vs A A' h _; exact h
  case hI =>
    rintro i A A' ⟨h1, h2, h4⟩ hk
    have hn : ∀ k, k < w1.heap.size → ¬ Span w1.heap.size (0 + 2) k := fun k hk h => by unfold Span at h; omega
    exact ⟨h1.keep hk (hn _ (by omega)), h2.keep hk (hn _ (by omega)), h4.trans (hk.below h4.size (fun k hk => hn k (by have := hb1.size; omega)))⟩
  case hIx => exact fun _ _ _ _ h _ => h
  case hassign =>
    rintro L x vs W K h hK
    obtain ⟨u, v, rfl⟩ : ∃ u v, vs = #[u, v] := by
      obtain ⟨l⟩ := vs
      match l, h with
      | [u, v], _ => exact ⟨u, v, rfl⟩
    gi_wp2
    simpa using hK
  case hbody =>
    rintro L i hi vs A ⟨h1, h2, h4⟩ _ hsz
    have hi2 : i < 256 := by have := sites_le a b c; rw [List.length_replicate] at hi; omega
    have hc2 := h2.cell
    have hf2 := h2.fz
    gi_wp2
    refine ⟨Hold.setCell _ _ (fun hk => ?_) _, h1.grown (grown_set _ _ _ _) (by omega), ?_, h4.setCell (Nat.le_succ _) _⟩
    · rcases hk with hk | hk
      · simp at hk
      · unfold Span at hk; simp at hk; omega
    · push_cast
      exact h2.set _
  case hdone =>
    rintro A hBs ⟨h1, h2, h4⟩ hD
    rw [List.length_replicate] at h2
    go_wp2_with fail
    refine mix_calm ?_
    refine mix_begin 4 (Held fun w' => w'.cell? ⟨w.heap.size + 1, 0, none⟩ = some (.int .i64 (sites a b c : Int)) ∧ w'.cell? ⟨w.heap.size, 0, none⟩ = some (.int .i64 a) ∧ w'.cell? ⟨w.heap.size, 1, none⟩ = some (.int .i64 b) ∧ w'.cell? ⟨w.heap.size, 2, none⟩ = some (.int .i64 c)) (by kernel_rfl) (by kernel_rfl) (Held.mk ⟨h2.cell, h1.1, h1.2.1, h1.2.2⟩) (fun hS => ?_)
    refine mix_take (v := ?_) 0 rfl (by decide) (by kernel_rfl) (by kernel_rfl) (fun _ _ _ h => h) hS rfl ?_ ?_
    rotate_left
    · (intro w' hw'; first | (go_simp; done) | (go_simp; with_reducible rfl) | (obtain ⟨g0, g1, g2, g3⟩ := hw'.out; first | (go_simp; done) | (go_simp; with_reducible rfl)))
    simp only [Act.put, List.setIfInBounds_toArray, List.set_cons_zero, List.set_cons_succ]
    refine mix_take (v := ?_) 1 rfl (by decide) (by kernel_rfl) (by kernel_rfl) (fun _ _ _ h => h) hS rfl ?_ ?_
    rotate_left
    · (intro w' hw'; first | (go_simp; done) | (go_simp; with_reducible rfl) | (obtain ⟨g0, g1, g2, g3⟩ := hw'.out; first | (go_simp; done) | (go_simp; with_reducible rfl)))
    simp only [Act.put, List.setIfInBounds_toArray, List.set_cons_zero, List.set_cons_succ]
    refine mix_step 2 rfl (by decide) (by kernel_rfl) ?_
    go_wp2_with fail
    refine (asked_c a b c _).mono ?_
    rintro e w4 ⟨rfl, hb4⟩
    have h1' := (h1.later (below_drew _)).later hb4
    have h2' := (h2.later (below_drew _)).later hb4
    have hD' := (hb4.block _ (show w1.heap.size < A.drew.heap.size from by have := hBs; show _ < A.heap.size; omega)).trans hD
    have h4' := (h4.drew).trans (hb4.mono h4.drew.size)
    go_wp2_with fail
    refine mix_out (Held.mk ⟨h2'.cell, h1'.1, h1'.2.1, h1'.2.2⟩) (fun hS => ?_)
    refine mix_step 3 rfl (by decide) (by kernel_rfl) ?_
    have y0 := h2'.cell
    have y1 := h2'.fz
    go_wp2_with fail
    clear y0 y1
    have h1q : Cell3 (w4.setCell ⟨w.heap.size + 1, 0, none⟩ (.int .i64 (sites a b c : Int))) w.heap.size a b c := h1'.grown (grown_set _ _ _ _) (by omega)
    have h2q := h2'.set (.int .i64 (sites a b c : Int))
    have hDq : (w4.setCell ⟨w.heap.size + 1, 0, none⟩ (.int .i64 (sites a b c : Int))).heap[w1.heap.size]? = some (.deferred (some [])) := (Below.heap_setCell _ _ _ _ (by simp; omega)).trans hD'
    have h4q := h4'.setCell (p := ⟨w.heap.size + 1, 0, none⟩) (Nat.le_succ _) (.int .i64 (sites a b c : Int))
    refine mix_out (Held.mk ⟨h2q.cell, h1q.1, h1q.2.1, h1q.2.2⟩) (fun hS => ?_)
    refine mix_done (by kernel_rfl) ?_
    simp only [List.drop_succ_cons, List.drop_zero]
    go_wp2_with fail
    rw [calm_normal]
    go_wp2_with fail
    have hcc := ((h2q.keep (Keep.putObj (S := fun k => k = w1.heap.size) _ _ (.deferred none) rfl) (by omega))).cell
    refine leave1 (v := .tuple #[.int .i64 (sites a b c : Int), .int .i64 (errShape a b c)]) hDq (by simp [results, Try.results67, go_sem, hcc]) ⟨rfl, below_putObj h4q (by omega) _⟩
  case hstop => exact fun _ _ _ _ _ h => h.elim
end Go.Proofs.Ytpobnbiakneoiaa
