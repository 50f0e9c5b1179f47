import Derived.Test.YtknndpncdnhnpaaJouD
namespace Go.Proofs.Ytknndpncdnhnpaa
open Go.RowKit Go.Cas
set_option linter.unusedSimpArgs false
set_option linter.unusedVariables false
attribute [local go_sem] Oper.semAt_some

theorem build_two (x y : Int) (w : World) : (Instr.build 36 #[(0, .int .i64 x), (1, .int .i64 y)]).run Try.prog w = .ok (.agg #[.int .i64 x, .int .i64 y]) w := by kernel_rfl
theorem row_set {w : World} {g : Nat} {cs cs' : Array Value} {t : TypeId} (h : w.heap[g]? = some (.cells cs t (0, 0))) (i : Nat) (v : Value) (hc : cs.setIfInBounds i v = cs') : (w.setCell ⟨g, i, none⟩ v).heap[g]? = some (.cells cs' t (0, 0)) := by
  subst hc; simp [World.setCell, Array.getElem?_modify, h]
set_option maxRecDepth 100000 in
set_option maxHeartbeats 4000000 in
theorem sums_c (jb b : Nat) (file : Int) (s : DS) (w : World) (hd : IsD w b s) (hf : s.fine) (hok : fileOk file = true) (hc : JC w jb b file) : Calls Try.prog 54 #[.pointer (some ⟨jb, 0, none⟩)] w fun e w' =>
    e = .returned (.agg #[.int .i64 ((framesB (s.fl file)).length : Int), .int .i64 (wholeB (s.fl file) : Int)]) ∧ Below w.heap.size w w' := by
  have hbt := build_two
  have hbig := fl_big hf file
  have hb0 := below_alloc w (.cells #[.int .i64 0, .int .i64 0] 36)
  have hX := heap_alloc_new w (.cells #[.int .i64 0, .int .i64 0] 36)
  have hc0 := row_later hc hb0
  have hd0 := hd.later hb0
  have hr := pread_c b s file _ hd0 hf hok
  have c0 := row_cell hc0 0 rfl
  have c1 := row_cell hc0 1 rfl
  obtain ⟨w1, hw1⟩ : ∃ w1, w.alloc (.cells #[.int .i64 0, .int .i64 0] 36) = w1 := ⟨_, rfl⟩
  rw [hw1] at hb0 hX hc0 hd0 hr
  have HW := Lib.hid hw1
  have HX := Lib.hid hX
  clear hw1 hd hX
  refine calls_of_wp_marks Try.func54 rfl ?_
  simp only [Try.ntmps54, List.size_toArray, List.length_cons, List.length_nil, Nat.reduceAdd, Nat.reduceSub, Array.replicate_succ, Array.replicate_zero, List.push_toArray, List.append_toArray, List.nil_append, List.cons_append]
  go_wp2_with fail
  rw [HW.out]
  refine hr.mono ?_
  rintro e w2 ⟨v, rfl, ho, hb2⟩
  obtain ⟨a2, n2, c2, rfl, hs2⟩ := ho.slice'
  have hwh := whole_c a2 n2 c2 _ (by have := hs2.len; omega) w2 hs2
  have HWH := Lib.hid hwh
  clear hwh hr c0 c1
  go_wp2_with fail
  refine HWH.out.mono ?_
  rintro e w3 ⟨rfl, hb3⟩
  have hb23 := below_then hb2 hb3
  have hX3 := row_later HX.out hb23
  have hc3 := row_later hc0 hb23
  have hd3 := hd0.later hb23
  have hb03 := below_then hb0 hb23
  clear hb2 hb3 hs2 ho hb23
  go_wp2_with fail
  have hb4 := below_alloc w3 (.cells #[.int .i64 0, .int .i64 (wholeB (s.fl file) : Int)] 36)
  have hY := heap_alloc_new w3 (.cells #[.int .i64 0, .int .i64 (wholeB (s.fl file) : Int)] 36)
  obtain ⟨w4, hw4⟩ : ∃ w4, w3.alloc (.cells #[.int .i64 0, .int .i64 (wholeB (s.fl file) : Int)] 36) = w4 := ⟨_, rfl⟩
  rw [hw4] at hb4 hY ⊢
  clear hw4
  have hX4 := row_later hX3 hb4
  have hrec := records_c jb b file s w4 (hd3.later hb4) hf hok (row_later hc3 hb4)
  have hb04 := below_then hb03 hb4
  obtain ⟨M, hM⟩ : ∃ M, w3.heap.size = M := ⟨_, rfl⟩
  have hzM : w.heap.size < M := by rw [← hM]; exact row_lt hX3
  rw [hM] at hY ⊢
  have HY := Lib.hid hY
  have HX4 := Lib.hid hX4
  have hM4 := row_lt hY
  have HR := Lib.hid hrec
  clear hM hY hX4 hX3 hrec hc3 hd3 hb4
  go_wp2_with fail
  refine HR.out.mono ?_
  rintro e w5 ⟨B, a5, n5, c5, rfl, hbox, hs5, hB, hblk, hb5⟩
  have hX5 := row_later HX4.out hb5
  have hY5 := row_later HY.out hb5
  have hb05 := below_then hb04 hb5
  have hBl := hbox.lt
  clear HR hb5
  go_wp2_with fail
  refine wp_rangeW (gf := 51) (lb := #[.pointer (some ⟨B, 0, none⟩)]) rfl enter_rec1
    (recs_iter B a5 n5 c5 _ (by have := hs5.len; omega) w5 hs5 hbox.cell) (Hold.refl _ _) (Nat.le_refl _) ?hR ?hps ?hE
    (fun i A => A.heap[M]? = some (.cells #[.int .i64 (i : Int), .int .i64 (wholeB (s.fl file) : Int)] 36 (0, 0)) ∧ A.heap[w.heap.size]? = some (.cells #[.int .i64 0, .int .i64 0] 36 (0, 0)) ∧ Below w.heap.size w A ∧ w5.heap.size ≤ A.heap.size)
    (fun _ _ _ => False) ?hI ?hIx ⟨hY5, hX5, hb05, Nat.le_refl _⟩
    (fun vs => { tmps := #[.pointer (some ⟨jb, 0, none⟩), undef, .pointer (some ⟨w.heap.size, 0, none⟩), .pointer (some ⟨M, 0, none⟩), .pointer (some ⟨jb, 0, none⟩), .pointer (some ⟨jb, 0, none⟩), .pointer (some ⟨jb, 0, none⟩), .agg #[.pointer (some ⟨b, 0, none⟩), .int .i64 file], .slice a2 n2 c2, .int .i64 (wholeB (s.fl file) : Int), .agg #[.int .i64 0, .int .i64 (wholeB (s.fl file) : Int)], .pointer (some ⟨jb, 0, none⟩), .func (.func 51) #[] #[.pointer (some ⟨B, 0, none⟩)], vs.getD 0 undef, vs.getD 1 undef, undef, undef, undef, undef, undef], defers := [] }) ?hassign ?hbody ?hdone ?hstop
  case hR =>
    rintro k (rfl | ⟨h0, ad, ha, rfl⟩)
    · exact hBl
    · exact hs5.lt ha h0
  case hps => rintro x vs A ⟨_, _, _, rfl, _⟩; rfl
  case hE =>
    rintro x vs A A' ⟨a6, n6, c6, rfl, h2, h3⟩ hk
    exact ⟨a6, n6, c6, rfl, hk.isB h2 (fun ad ha hsp => by have := h3 ad ha; omega), h3⟩
  case hI =>
    rintro i A A' ⟨h1, h2, h3, h4⟩ hk
    have hz5 := row_lt hY5
    exact ⟨(hk.block _ (by omega) (by omega)).trans h1, (hk.block _ (by omega) (by omega)).trans h2, h3.trans (hk.below (by have := hb05.size; omega) (fun k hk h => by have := hb05.size; omega)), by have := hk.size; omega⟩
  case hIx => exact fun _ _ _ _ h _ => h
  case hassign =>
    rintro L2 x vs W' K ⟨a6, n6, c6, rfl, _⟩ hK
    gi_wp2
    simpa using hK
  case hbody =>
    rintro L2 i hi vs A ⟨h1, h2, h3, h4⟩ _ hszA
    have hz5 := row_lt hY5
    have y0 := row_cell h1 0 rfl
    have y1 := row_fz h1
    have hi40 : (i : Int) < 2 ^ 41 := by have := framesB_many (s.fl file); rw [recs_len] at hi; omega
    gi_wp2
    refine ⟨Hold.setCell _ _ (fun hk => ?_) _, row_set h1 0 _ (by push_cast; rfl), (Below.heap_setCell _ _ _ _ (by simp; omega)).trans h2, h3.setCell (by simp; omega) _, by simp; omega⟩
    rcases hk with (hk | ⟨h0, ad, ha, hk⟩) | hk
    · simp at hk; omega
    · have := hblk ad ha; simp at hk; omega
    · simp at hk; omega
  case hdone =>
    rintro A hBs ⟨h1, h2, h3, h4⟩ hD
    rw [recs_len] at h1
    have y0 := row_cell h1 0 rfl
    have y1 := row_cell h1 1 rfl
    have x0 := row_cell h2 0 rfl
    have x1 := row_cell h2 1 rfl
    have z0 := row_fz h2
    have hz5 := row_lt hY5
    go_wp2_with fail
    have hq := row_set (cs' := #[.int .i64 ((framesB (s.fl file)).length : Int), .int .i64 (wholeB (s.fl file) : Int)]) (row_set (cs' := #[.int .i64 ((framesB (s.fl file)).length : Int), .int .i64 0]) h2 0 (.int .i64 ((framesB (s.fl file)).length : Int)) rfl) 1 (.int .i64 (wholeB (s.fl file) : Int)) rfl
    have hDq : ((A.setCell ⟨w.heap.size, 0, none⟩ (.int .i64 ((framesB (s.fl file)).length : Int))).setCell ⟨w.heap.size, 1, none⟩ (.int .i64 (wholeB (s.fl file) : Int))).heap[w5.heap.size]? = some (.deferred (some [])) :=
      (Below.heap_setCell _ _ _ _ (by simp; omega)).trans ((Below.heap_setCell _ _ _ _ (by simp; omega)).trans hD)
    refine leave1_end hDq (results_cell_row rfl _ _ w.heap.size 36 _ (0, 0) _ rfl ((World.putObj_heap_other (by omega)).trans hq) Try.underlying36 rfl (by kernel_rfl)) ⟨rfl, below_putObj ((h3.setCell (Nat.le_refl _) _).setCell (Nat.le_refl _) _) (by omega) _⟩
  case hstop => exact fun _ _ _ _ _ h => h.elim
end Go.Proofs.Ytknndpncdnhnpaa
