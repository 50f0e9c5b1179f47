import Derived.Test.YtknndpncdnhnpaaDiskO
namespace Go.Proofs.Ytknndpncdnhnpaa
open Go.RowKit Go.Cas
set_option linter.unusedSimpArgs false
attribute [local go_sem] Oper.semAt_some

theorem rfile_c (n : Int) (w : World) : Calls Try.prog 44 #[.int .i64 n] w fun e w' => e = .returned (.bool (fileOk n)) ∧ w = w' := by
  go_enter Try.func44, Try.ntmps44
  by_cases h0 : n = 0
  · subst h0
    go_wp2
    go_ret
    exact ⟨by rfl, rfl⟩
  · have hd0 : (n == 0) = false := by simp [h0]
    by_cases h1 : n = 1
    · subst h1
      go_wp2
      go_ret
      exact ⟨by rfl, rfl⟩
    · have hd1 : (n == 1) = false := by simp [h1]
      have hbad : fileOk n = false := by simp [fileOk]; omega
      go_wp2
      go_ret
      exact ⟨by rw [hbad]; rfl, rfl⟩
theorem heap_new' (w : World) (o : Obj) (i : Nat) (h : i = w.heap.size) : (w.alloc o).heap[i]? = some o := by subst h; exact heap_alloc_new w o
theorem heap_old' {w : World} {o : Obj} {i : Nat} {x : Option Obj} (h : i < w.heap.size) (h' : w.heap[i]? = x) : (w.alloc o).heap[i]? = x := (heap_alloc_old w o h).trans h'
theorem setCell_drewN (w : World) (n : Nat) (a : Addr) (v : Value) : (w.drewN n).setCell a v = (w.setCell a v).drewN n := rfl
theorem alloc_drewN (w : World) (n : Nat) (o : Obj) : (w.drewN n).alloc o = (w.alloc o).drewN n := rfl
theorem below_drewN {k : Nat} {a w : World} (h : Below k a w) : ∀ n, Below k a (w.drewN n)
  | 0 => h
  | n + 1 => (below_drewN h n).drew
theorem heap_drewN' {w : World} {n i : Nat} {x : Option Obj} (h : w.heap[i]? = x) : (w.drewN n).heap[i]? = x := h
theorem size_drewN' (w : World) (n : Nat) : (w.drewN n).heap.size = w.heap.size := rfl
theorem heap_drew' {w : World} {i : Nat} {x : Option Obj} (h : w.heap[i]? = x) : w.drew.heap[i]? = x := h
theorem strOf_size (l : List UInt8) : (strOf l).size = l.length := by
  have := congrArg List.length (strOf_data l)
  rw [← this]; show (strOf l).data.size = _; simp
theorem cell_heap {w : World} {b i : Nat} {cs : Array Value} {t : TypeId} {fr : Nat × Nat} {v : Value} (h : w.heap[b]? = some (.cells cs t fr)) (hv : cs[i]? = some v) : w.cell? ⟨b, i, none⟩ = some v := by
  simp [World.cell?, h, hv]
theorem ret_RT {fn : Func} {p u : Tmp} {R : Ending → World → Prop} {a : Act} {w : World} {g : Nat} {cs : Array Value} (h : fn.results = #[.cell p 38, .tmp u]) (hp : a.tmps.getD p undef = .pointer (some ⟨g, 0, none⟩))
    (hg : w.heap[g]? = some (.cells cs 38 (0, 0))) (hs : cs.size = 7) (hd : a.defers = []) (hR : R (.returned (.tuple #[.agg cs, a.tmps.getD u undef])) w) : bodyPost Try.prog fn R .ret a w := by
  refine bodyPost_ret_by ?_ hd hR
  rw [results_cell_tmp h, hp]
  simp only [asAddr, Sem.run_pure, Result.andThen]
  rw [run_loadVar_row w g 38 38 cs (0, 0) _ hg Try.underlying38 rfl (by rw [hs]; kernel_rfl)]
theorem ret_R {fn : Func} {p : Tmp} {R : Ending → World → Prop} {a : Act} {w : World} {g : Nat} {cs : Array Value} (h : fn.results = #[.cell p 38]) (hp : a.tmps.getD p undef = .pointer (some ⟨g, 0, none⟩))
    (hg : w.heap[g]? = some (.cells cs 38 (0, 0))) (hs : cs.size = 7) (hd : a.defers = []) (hR : R (.returned (.agg cs)) w) : bodyPost Try.prog fn R .ret a w :=
  bodyPost_ret_by (results_cell_row h _ w g 38 cs (0, 0) _ hp hg Try.underlying38 rfl (by rw [hs]; kernel_rfl)) hd hR
set_option maxRecDepth 100000 in
set_option maxHeartbeats 1000000 in
theorem ract_0 (room now left n0 n1 : Int) (x0 x1 : ByteArray) (w : World) (h : left = 0) : Calls Try.prog 45 #[.agg #[.int .i64 room, .string x0, .string x1, .int .i64 n0, .int .i64 n1, .int .i64 now, .int .i64 left]] w fun e w' => e = .returned (.tuple #[.agg #[.int .i64 room, .string x0, .string x1, .int .i64 n0, .int .i64 n1, .int .i64 now, .int .i64 left], .bool false]) ∧ ((w.alloc (.cells #[.int .i64 room, .string x0, .string x1, .int .i64 n0, .int .i64 n1, .int .i64 now, .int .i64 left] 38)).alloc (.cells #[.int .i64 room, .string x0, .string x1, .int .i64 n0, .int .i64 n1, .int .i64 now, .int .i64 left] 38)) = w' := by
  go_enter Try.func45, Try.ntmps45
  subst h
  go_wp2
  refine ret_RT (cs := #[.int .i64 room, .string x0, .string x1, .int .i64 n0, .int .i64 n1, .int .i64 now, .int .i64 0]) rfl rfl (by (repeat (first | (with_reducible exact heap_new' _ _ _ (by first | (simp only [World.size_alloc, World.size_drew, size_drewN']; done) | (simp only [World.size_alloc, World.size_drew, size_drewN']; omega))) | (with_reducible refine heap_drew' ?_) | (with_reducible refine heap_drewN' ?_) | (with_reducible refine heap_old' (by first | omega | (simp only [World.size_alloc, World.size_drew, size_drewN']; omega)) ?_)))) rfl rfl ⟨rfl, rfl⟩
set_option maxRecDepth 100000 in
set_option maxHeartbeats 1000000 in
theorem ract_1 (room now left n0 n1 : Int) (x0 x1 : ByteArray) (w : World) (h : left ≠ 0) (hb : LeftOk left) : Calls Try.prog 45 #[.agg #[.int .i64 room, .string x0, .string x1, .int .i64 n0, .int .i64 n1, .int .i64 now, .int .i64 left]] w fun e w' => e = .returned (.tuple #[.agg #[.int .i64 room, .string x0, .string x1, .int .i64 n0, .int .i64 n1, .int .i64 now, .int .i64 (decr left)], .bool true]) ∧ ((w.alloc (.cells #[.int .i64 room, .string x0, .string x1, .int .i64 n0, .int .i64 n1, .int .i64 now, .int .i64 (decr left)] 38)).alloc (.cells #[.int .i64 room, .string x0, .string x1, .int .i64 n0, .int .i64 n1, .int .i64 now, .int .i64 (decr left)] 38)) = w' := by
  have hd0 : (left == 0) = false := by simp [h]
  go_enter Try.func45, Try.ntmps45
  by_cases hp : 0 < left
  · have hdp : decide (left > 0) = true := by simpa using hp
    have hdc : decr left = left - 1 := by unfold decr; rw [if_pos hp]
    have hw := Go.IntWalk.i64_in (left - 1) (hb.dec hp)
    rw [hdc]
    go_wp2
    refine ret_RT (cs := #[.int .i64 room, .string x0, .string x1, .int .i64 n0, .int .i64 n1, .int .i64 now, .int .i64 (left - 1)]) rfl rfl (by (repeat (first | (with_reducible exact heap_new' _ _ _ (by first | (simp only [World.size_alloc, World.size_drew, size_drewN']; done) | (simp only [World.size_alloc, World.size_drew, size_drewN']; omega))) | (with_reducible refine heap_drew' ?_) | (with_reducible refine heap_drewN' ?_) | (with_reducible refine heap_old' (by first | omega | (simp only [World.size_alloc, World.size_drew, size_drewN']; omega)) ?_)))) rfl rfl ⟨rfl, rfl⟩
  · have hdp : decide (left > 0) = false := by simpa using hp
    have hdc : decr left = left := by unfold decr; rw [if_neg hp]
    rw [hdc]
    go_wp2
    refine ret_RT (cs := #[.int .i64 room, .string x0, .string x1, .int .i64 n0, .int .i64 n1, .int .i64 now, .int .i64 left]) rfl rfl (by (repeat (first | (with_reducible exact heap_new' _ _ _ (by first | (simp only [World.size_alloc, World.size_drew, size_drewN']; done) | (simp only [World.size_alloc, World.size_drew, size_drewN']; omega))) | (with_reducible refine heap_drew' ?_) | (with_reducible refine heap_drewN' ?_) | (with_reducible refine heap_old' (by first | omega | (simp only [World.size_alloc, World.size_drew, size_drewN']; omega)) ?_)))) rfl rfl ⟨rfl, rfl⟩
set_option maxRecDepth 100000 in
set_option maxHeartbeats 1000000 in
theorem rstop_c (x : Int) (room now left n0 n1 : Int) (x0 x1 : ByteArray) (w : World) : Calls Try.prog 28 #[.agg #[.int .i64 room, .string x0, .string x1, .int .i64 n0, .int .i64 n1, .int .i64 now, .int .i64 left], .int .i64 x] w fun e w' => e = .returned (.tuple #[.agg #[.int .i64 room, .string x0, .string x1, .int .i64 n0, .int .i64 n1, .int .i64 now, .int .i64 (if x < 0 then left else x)], .int .i64 (if x < 0 then 2 else 0)]) ∧ Below w.heap.size w w' := by
  go_enter Try.func28, Try.ntmps28
  have hb := fun A B => below_then (below_alloc w A) (below_alloc (w.alloc A) B)
  by_cases hx : x < 0
  · have hd : decide (x < 0) = true := by simpa using hx
    rw [if_pos hx, if_pos hx]
    go_wp2
    refine ret_RT (cs := #[.int .i64 room, .string x0, .string x1, .int .i64 n0, .int .i64 n1, .int .i64 now, .int .i64 left]) rfl rfl (by (repeat (first | (with_reducible exact heap_new' _ _ _ (by first | (simp only [World.size_alloc, World.size_drew, size_drewN']; done) | (simp only [World.size_alloc, World.size_drew, size_drewN']; omega))) | (with_reducible refine heap_drew' ?_) | (with_reducible refine heap_drewN' ?_) | (with_reducible refine heap_old' (by first | omega | (simp only [World.size_alloc, World.size_drew, size_drewN']; omega)) ?_)))) rfl rfl ⟨rfl, hb _ _⟩
  · have hd : decide (x < 0) = false := by simpa using hx
    rw [if_neg hx, if_neg hx]
    go_wp2
    refine ret_RT (cs := #[.int .i64 room, .string x0, .string x1, .int .i64 n0, .int .i64 n1, .int .i64 now, .int .i64 x]) rfl rfl (by (repeat (first | (with_reducible exact heap_new' _ _ _ (by first | (simp only [World.size_alloc, World.size_drew, size_drewN']; done) | (simp only [World.size_alloc, World.size_drew, size_drewN']; omega))) | (with_reducible refine heap_drew' ?_) | (with_reducible refine heap_drewN' ?_) | (with_reducible refine heap_old' (by first | omega | (simp only [World.size_alloc, World.size_drew, size_drewN']; omega)) ?_)))) rfl rfl ⟨rfl, hb _ _⟩
end Go.Proofs.Ytknndpncdnhnpaa
