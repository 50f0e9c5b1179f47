import Derived.Test.YtknndpncdnhnpaaJouE
namespace Go.Proofs.Ytknndpncdnhnpaa
open Go.RowKit Go.Cas
set_option linter.unusedSimpArgs false
set_option linter.unusedVariables false
attribute [local go_sem] Oper.semAt_some

theorem enter_sums : ∀ args w, (callFunc 54 args).run Try.prog w = .ok (.enter 54 args) w := enters_of Try.func54 (by kernel_rfl) rfl
set_option maxRecDepth 100000 in
set_option maxHeartbeats 1000000 in
theorem told_c (jb b : Nat) (file : Int) (s : DS) (w : World) (hd : IsD w b s) (hf : s.fine) (hok : fileOk file = true) (hc : JC w jb b file) : Calls Try.prog 53 #[.pointer (some ⟨jb, 0, none⟩), .func (.func 54) #[.pointer (some ⟨jb, 0, none⟩)] #[]] w fun e w' =>
    e = .returned (.agg #[.int .i64 ((framesB (s.fl file)).length : Int), .int .i64 (wholeB (s.fl file) : Int)]) ∧ Below w.heap.size w w' := by
  have hent := enter_sums
  have hb0 := below_alloc w (.cells #[.int .i64 0, .int .i64 0] 36)
  have hX := heap_alloc_new w (.cells #[.int .i64 0, .int .i64 0] 36)
  have hn := jnone_c jb b file _ (row_later hc hb0)
  have hs := sums_c jb b file s _ (hd.later hb0) hf hok (row_later hc hb0)
  obtain ⟨x, hx⟩ : ∃ x, ((framesB (s.fl file)).length : Int) = x := ⟨_, rfl⟩
  obtain ⟨y, hy⟩ : ∃ y, (wholeB (s.fl file) : Int) = y := ⟨_, rfl⟩
  rw [hx, hy] at hs
  rw [hx, hy]
  have HS := Lib.hid hs
  have HX := Lib.hid hX
  have HB0 := Lib.hid hb0
  clear hx hy hs hX hb0 hd hf hok hc
  go_enter Try.func53, Try.ntmps53
  go_wp2_with fail
  refine hn.mono ?_
  rintro e wn ⟨rfl, rfl⟩
  clear hn
  go_wp2_with fail
  refine HS.out.mono ?_
  rintro e w2 ⟨rfl, hb2⟩
  have hX2 := row_later HX.out hb2
  have hb02 := below_then HB0.out hb2
  have z0 := row_fz hX2
  have x0 := row_cell hX2 0 rfl
  have x1 := row_cell hX2 1 rfl
  go_wp2_with fail
  have hq := row_set (cs' := #[.int .i64 x, .int .i64 y]) (row_set (cs' := #[.int .i64 x, .int .i64 0]) hX2 0 (.int .i64 x) rfl) 1 (.int .i64 y) rfl
  refine bodyPost_ret_by (results_cell_row rfl _ _ w.heap.size 36 _ (0, 0) _ rfl hq Try.underlying36 rfl (by kernel_rfl)) rfl ⟨rfl, (hb02.setCell (Nat.le_refl _) _).setCell (Nat.le_refl _) _⟩
set_option maxRecDepth 100000 in
set_option maxHeartbeats 1000000 in
theorem told_no (v v' : Value) (w : World) (h : NoJ w v) : Calls Try.prog 53 #[v, v'] w fun e w' =>
    e = .returned (.agg #[.int .i64 0, .int .i64 0]) ∧ Below w.heap.size w w' := by
  have hb0 := below_alloc w (.cells #[.int .i64 0, .int .i64 0] 36)
  have hX := heap_alloc_new w (.cells #[.int .i64 0, .int .i64 0] 36)
  have hn := jnone_no v _ (h.later hb0)
  have x0 := row_cell hX 0 rfl
  have x1 := row_cell hX 1 rfl
  have z0 := row_fz hX
  have HX := Lib.hid hX
  have HB0 := Lib.hid hb0
  clear hX hb0 h
  go_enter Try.func53, Try.ntmps53
  go_wp2_with fail
  refine hn.mono ?_
  rintro e wn ⟨rfl, rfl⟩
  clear hn
  go_wp2_with fail
  exact bodyPost_ret_by (results_cell_row rfl _ _ w.heap.size 36 _ (0, 0) _ rfl HX.out Try.underlying36 rfl (by kernel_rfl)) rfl ⟨rfl, HB0.out⟩
theorem jx0 (x y : Value) (w : World) : (Instr.index 36 (.agg #[x, y]) (.int .i64 0)).run Try.prog w = .ok x w := by kernel_rfl
theorem jx1 (x y : Value) (w : World) : (Instr.index 36 (.agg #[x, y]) (.int .i64 1)).run Try.prog w = .ok y w := by kernel_rfl
set_option maxRecDepth 100000 in
set_option maxHeartbeats 1000000 in
theorem jlen_c (jb b : Nat) (file : Int) (s : DS) (w : World) (hd : IsD w b s) (hf : s.fine) (hok : fileOk file = true) (hc : JC w jb b file) : Calls Try.prog 22 #[.pointer (some ⟨jb, 0, none⟩)] w fun e w' =>
    e = .returned (.int .i64 ((framesB (s.fl file)).length : Int)) ∧ Below w.heap.size w w' := by
  have hx0 := jx0
  have hx1 := jx1
  have ht := told_c jb b file s w hd hf hok hc
  obtain ⟨x, hx⟩ : ∃ x, ((framesB (s.fl file)).length : Int) = x := ⟨_, rfl⟩
  obtain ⟨y, hy⟩ : ∃ y, (wholeB (s.fl file) : Int) = y := ⟨_, rfl⟩
  rw [hx, hy] at ht
  first | rw [hx] | rw [hy]
  clear hx hy hd hf hok hc
  go_enter Try.func22, Try.ntmps22
  go_wp2_with fail
  refine ht.mono ?_
  rintro e w2 ⟨rfl, hb2⟩
  go_wp2_with fail
  go_ret
  exact ⟨rfl, hb2⟩
set_option maxRecDepth 100000 in
set_option maxHeartbeats 1000000 in
theorem jsize_c (jb b : Nat) (file : Int) (s : DS) (w : World) (hd : IsD w b s) (hf : s.fine) (hok : fileOk file = true) (hc : JC w jb b file) : Calls Try.prog 23 #[.pointer (some ⟨jb, 0, none⟩)] w fun e w' =>
    e = .returned (.int .i64 (wholeB (s.fl file) : Int)) ∧ Below w.heap.size w w' := by
  have hx0 := jx0
  have hx1 := jx1
  have ht := told_c jb b file s w hd hf hok hc
  obtain ⟨x, hx⟩ : ∃ x, ((framesB (s.fl file)).length : Int) = x := ⟨_, rfl⟩
  obtain ⟨y, hy⟩ : ∃ y, (wholeB (s.fl file) : Int) = y := ⟨_, rfl⟩
  rw [hx, hy] at ht
  first | rw [hx] | rw [hy]
  clear hx hy hd hf hok hc
  go_enter Try.func23, Try.ntmps23
  go_wp2_with fail
  refine ht.mono ?_
  rintro e w2 ⟨rfl, hb2⟩
  go_wp2_with fail
  go_ret
  exact ⟨rfl, hb2⟩
set_option maxRecDepth 100000 in
set_option maxHeartbeats 1000000 in
theorem jlen_no (v : Value) (w : World) (h : NoJ w v) : Calls Try.prog 22 #[v] w fun e w' => e = .returned (.int .i64 0) ∧ Below w.heap.size w w' := by
  have hx0 := jx0
  have hx1 := jx1
  have ht := told_no v (.func (.func 54) #[v] #[]) w h
  clear h
  go_enter Try.func22, Try.ntmps22
  go_wp2_with fail
  refine ht.mono ?_
  rintro e w2 ⟨rfl, hb2⟩
  go_wp2_with fail
  go_ret
  exact ⟨rfl, hb2⟩
set_option maxRecDepth 100000 in
set_option maxHeartbeats 1000000 in
theorem jsize_no (v : Value) (w : World) (h : NoJ w v) : Calls Try.prog 23 #[v] w fun e w' => e = .returned (.int .i64 0) ∧ Below w.heap.size w w' := by
  have hx0 := jx0
  have hx1 := jx1
  have ht := told_no v (.func (.func 54) #[v] #[]) w h
  clear h
  go_enter Try.func23, Try.ntmps23
  go_wp2_with fail
  refine ht.mono ?_
  rintro e w2 ⟨rfl, hb2⟩
  go_wp2_with fail
  go_ret
  exact ⟨rfl, hb2⟩
end Go.Proofs.Ytknndpncdnhnpaa
