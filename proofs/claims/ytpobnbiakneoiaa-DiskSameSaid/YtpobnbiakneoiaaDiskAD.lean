import Derived.Test.YtpobnbiakneoiaaDiskAC
namespace Go.Proofs.Ytpobnbiakneoiaa
open Go.RowKit Go.Cas
set_option linter.unusedSimpArgs false
attribute [local go_sem] Oper.semAt_some

/-- what act has in its own blocks -/
structure AC (N : Nat) (W : World) (s : DS) (xs o : Array Value) : Prop where
  h0 : W.heap[N]? = some (.cells #[.int .i64 s.room, .string (strOf s.f0), .string (strOf s.f1), .int .i64 (s.n0 : Int), .int .i64 (s.n1 : Int), .int .i64 s.now, .int .i64 s.left] 46 (0, 0))
  h1 : W.heap[N + 1]? = some (.cells xs 38 (0, 0))
  h2 : W.heap[N + 1 + 1]? = some (.cells #[.int .i64 0, .string ⟨#[]⟩, .string ⟨#[]⟩, .int .i64 0, .int .i64 0, .int .i64 0, .int .i64 0] 46 (0, 0))
  h3 : W.heap[N + 1 + 1 + 1]? = some (.cells o 46 (0, 0))
section
variable {N : Nat} {W W' : World} {s : DS} {xs o : Array Value}
theorem AC.later (h : AC N W s xs o) (hb : Below W.heap.size W W') : AC N W' s xs o :=
  ⟨(hb.block _ (Array.getElem?_eq_some_iff.1 h.h0).1).trans h.h0, (hb.block _ (Array.getElem?_eq_some_iff.1 h.h1).1).trans h.h1, (hb.block _ (Array.getElem?_eq_some_iff.1 h.h2).1).trans h.h2, (hb.block _ (Array.getElem?_eq_some_iff.1 h.h3).1).trans h.h3⟩
theorem AC.grown {b : Nat} (h : AC N W s xs o) (hb : W.grownBy W' (some b)) (hN : b < N) : AC N W' s xs o :=
  ⟨(hb.block _ (Array.getElem?_eq_some_iff.1 h.h0).1 (by intro e; have := Option.some.inj e; omega)).trans h.h0, (hb.block _ (Array.getElem?_eq_some_iff.1 h.h1).1 (by intro e; have := Option.some.inj e; omega)).trans h.h1, (hb.block _ (Array.getElem?_eq_some_iff.1 h.h2).1 (by intro e; have := Option.some.inj e; omega)).trans h.h2, (hb.block _ (Array.getElem?_eq_some_iff.1 h.h3).1 (by intro e; have := Option.some.inj e; omega)).trans h.h3⟩
theorem AC.lt (h : AC N W s xs o) : N + 4 ≤ W.heap.size := (Array.getElem?_eq_some_iff.1 h.h3).1
end
theorem row_cell {w : World} {g : Nat} {cs : Array Value} {t : TypeId} (h : w.heap[g]? = some (.cells cs t (0, 0))) (i : Nat) {v : Value} (hv : cs[i]? = some v) : w.cell? ⟨g, i, none⟩ = some v := by simp [World.cell?, h, hv]
theorem row_cell_drew {w : World} {g : Nat} {cs : Array Value} {t : TypeId} (h : w.heap[g]? = some (.cells cs t (0, 0))) (i : Nat) {v : Value} (hv : cs[i]? = some v) : w.drew.cell? ⟨g, i, none⟩ = some v := row_cell (w := w.drew) h i hv
theorem row_fz {w : World} {g : Nat} {cs : Array Value} {t : TypeId} (h : w.heap[g]? = some (.cells cs t (0, 0))) (i : Nat) : w.frozen? ⟨g, i, none⟩ = false := by simp [World.frozen?, h]
theorem set_row {w : World} {g : Nat} {cs cs' : Array Value} {t : TypeId} (h : w.heap[g]? = some (.cells cs t (0, 0))) (i : Nat) (v : Value) (hc : cs.setIfInBounds i v = cs') : (w.setCell ⟨g, i, none⟩ v).heap[g]? = some (.cells cs' t (0, 0)) := by
  subst hc; simp [World.setCell, Array.getElem?_modify, h]
/-- .. and so in worlds between which only the call's own blocks turn -/
theorem grown_past {w w1 w2 : World} {r : Option Nat} {g : Nat} (h : w.grownBy w1 r) (hg : w1.grownBy w2 (some g)) (hn : w.heap.size ≤ g) : w.grownBy w2 r :=
  ⟨hg.os.trans h.os, hg.tape.trans h.tape, hg.output.trans h.output, Nat.le_trans h.size hg.size, fun k hk hr => (hg.block k (Nat.lt_of_lt_of_le hk h.size) (by intro e; have := Option.some.inj e; omega)).trans (h.block k hk hr)⟩
theorem AC.stored {N : Nat} {W W' : World} {s : DS} {xs o o' : Array Value} (h : AC N W s xs o) (hg : W.grownBy W' (some (N + 1 + 1 + 1))) (hq : W'.heap[N + 1 + 1 + 1]? = some (.cells o' 46 (0, 0))) : AC N W' s xs o' :=
  ⟨(hg.block _ (Array.getElem?_eq_some_iff.1 h.h0).1 (by intro e; have := Option.some.inj e; omega)).trans h.h0, (hg.block _ (Array.getElem?_eq_some_iff.1 h.h1).1 (by intro e; have := Option.some.inj e; omega)).trans h.h1, (hg.block _ (Array.getElem?_eq_some_iff.1 h.h2).1 (by intro e; have := Option.some.inj e; omega)).trans h.h2, hq⟩
theorem AC.stored2 {N : Nat} {W W' : World} {s : DS} {xs o : Array Value} (h : AC N W s xs o) (hg : W.grownBy W' (some (N + 1 + 1))) : W'.heap[N + 1 + 1 + 1]? = some (.cells o 46 (0, 0)) :=
  (hg.block _ (Array.getElem?_eq_some_iff.1 h.h3).1 (by intro e; have := Option.some.inj e; omega)).trans h.h3
/-- seven cells stored -/
theorem store7 {w : World} {g : Nat} {a0 a1 a2 a3 a4 a5 a6 : Value} {t : TypeId} (h : w.heap[g]? = some (.cells #[a0, a1, a2, a3, a4, a5, a6] t (0, 0))) (v0 v1 v2 v3 v4 v5 v6 : Value) :
    (((((((w.setCell ⟨g, 0, none⟩ v0).setCell ⟨g, 1, none⟩ v1).setCell ⟨g, 2, none⟩ v2).setCell ⟨g, 3, none⟩ v3).setCell ⟨g, 4, none⟩ v4).setCell ⟨g, 5, none⟩ v5).setCell ⟨g, 6, none⟩ v6).heap[g]? = some (.cells #[v0, v1, v2, v3, v4, v5, v6] t (0, 0)) := by
  have h0 := set_row (cs' := #[v0, a1, a2, a3, a4, a5, a6]) h 0 v0 rfl
  have h1 := set_row (cs' := #[v0, v1, a2, a3, a4, a5, a6]) h0 1 v1 rfl
  have h2 := set_row (cs' := #[v0, v1, v2, a3, a4, a5, a6]) h1 2 v2 rfl
  have h3 := set_row (cs' := #[v0, v1, v2, v3, a4, a5, a6]) h2 3 v3 rfl
  have h4 := set_row (cs' := #[v0, v1, v2, v3, v4, a5, a6]) h3 4 v4 rfl
  have h5 := set_row (cs' := #[v0, v1, v2, v3, v4, v5, a6]) h4 5 v5 rfl
  exact set_row (cs' := #[v0, v1, v2, v3, v4, v5, v6]) h5 6 v6 rfl
theorem grown7 (w : World) (g : Nat) (v0 v1 v2 v3 v4 v5 v6 : Value) : w.grownBy (((((((w.setCell ⟨g, 0, none⟩ v0).setCell ⟨g, 1, none⟩ v1).setCell ⟨g, 2, none⟩ v2).setCell ⟨g, 3, none⟩ v3).setCell ⟨g, 4, none⟩ v4).setCell ⟨g, 5, none⟩ v5).setCell ⟨g, 6, none⟩ v6) (some g) :=
  grown_trans (grown_trans (grown_trans (grown_trans (grown_trans (grown_trans (grown_set w g 0 v0) (grown_set _ g 1 v1)) (grown_set _ g 2 v2)) (grown_set _ g 3 v3)) (grown_set _ g 4 v4)) (grown_set _ g 5 v5)) (grown_set _ g 6 v6)
theorem grown_size {w w' : World} {r : Option Nat} (h : w.grownBy w' r) : w.heap.size ≤ w'.heap.size := h.size
/-- a block of the call's own is written: the rest is as it was -/
theorem below_grown {w w1 w2 : World} {g : Nat} {n : Nat} (h : Below n w w1) (hg : w1.grownBy w2 (some g)) (hn : n ≤ g) (hw : n ≤ w.heap.size) : Below n w w2 :=
  h.trans ⟨hg.os, hg.tape, hg.output, hg.size, fun k hk => hg.block k (Nat.lt_of_lt_of_le (Nat.lt_of_lt_of_le hk hw) h.size) (by intro e; have := Option.some.inj e; omega)⟩
/-- the world behind act's first lines -/
def actW (w : World) (s : DS) (xs : Array Value) : World := (((w.alloc (.cells #[.int .i64 s.room, .string (strOf s.f0), .string (strOf s.f1), .int .i64 (s.n0 : Int), .int .i64 (s.n1 : Int), .int .i64 s.now, .int .i64 s.left] 46 (0, 0))).alloc (.cells xs 38 (0, 0))).alloc (.cells #[.int .i64 0, .string ⟨#[]⟩, .string ⟨#[]⟩, .int .i64 0, .int .i64 0, .int .i64 0, .int .i64 0] 46 (0, 0))).alloc (.cells #[.int .i64 s.room, .string (strOf s.f0), .string (strOf s.f1), .int .i64 (s.n0 : Int), .int .i64 (s.n1 : Int), .int .i64 s.now, .int .i64 s.left] 46 (0, 0))
theorem act_init (w : World) (s : DS) (xs : Array Value) : AC w.heap.size (actW w s xs) s xs #[.int .i64 s.room, .string (strOf s.f0), .string (strOf s.f1), .int .i64 (s.n0 : Int), .int .i64 (s.n1 : Int), .int .i64 s.now, .int .i64 s.left] ∧ Below w.heap.size w (actW w s xs) := by
  unfold actW
  refine ⟨⟨?_, ?_, ?_, ?_⟩, by (repeat (first | (with_reducible exact Below.refl _ _) | (with_reducible refine Below.drew ?_) | (with_reducible refine below_drewN ?_ _) | (with_reducible refine Below.alloc ?_ (by first | exact Nat.le_refl _ | omega | (simp only [World.size_alloc, World.size_drew, size_drewN']; omega)) _)))⟩
  all_goals (repeat (first | (with_reducible exact heap_new' _ _ _ (by first | (simp only [World.size_alloc, World.size_drew, size_drewN']; done) | (simp only [World.size_alloc, World.size_drew, size_drewN']; omega))) | (with_reducible refine heap_drew' ?_) | (with_reducible refine heap_drewN' ?_) | (with_reducible refine heap_old' (by first | omega | (simp only [World.size_alloc, World.size_drew, size_drewN']; omega)) ?_)))
/-- A slice of bytes stays while cells that are no bytes turn into others. -/
theorem isB_past {w w' : World} {a : Option Addr} {n cap : Nat} {l : List UInt8} {g : Nat} {cs cs' : Array Value} {t t' : TypeId} {fr fr' : Nat × Nat} (h : IsB w a n cap l) (hg : w.grownBy w' (some g))
    (h1 : w.heap[g]? = some (.cells cs t fr)) (h2 : w'.heap[g]? = some (.cells cs' t' fr')) (hz : cs.size ≤ cs'.size) (hno : ∀ (i : Nat) (x : Int), cs[i]? ≠ some (Value.int .u8 x)) : IsB w' a n cap l := by
  refine ⟨h.1, h.2.1, h.2.2.1, h.2.2.2.1, fun ad ha h0 => ?_⟩
  obtain ⟨hs, ds, e, fr, hh, hsz, hc⟩ := h.2.2.2.2 ad ha h0
  by_cases hb : ad.block = g
  · rw [hb] at hh
    rw [hh] at h1
    obtain ⟨rfl, -, -⟩ : ds = cs ∧ e = t ∧ fr = _ := by simpa using h1
    refine ⟨hs, cs', t', fr', by rw [hb]; exact h2, by omega, fun i hi => ?_⟩
    exfalso
    have h3 := hc i hi
    rw [bvs_get l (by have := h.len; omega)] at h3
    exact hno _ _ h3
  · exact ⟨hs, ds, e, fr, (hg.block _ (Array.getElem?_eq_some_iff.1 hh).1 (by intro e; exact hb (Option.some.inj e))).trans hh, hsz, hc⟩
theorem IsD.past {w w' : World} {b : Nat} {s : DS} {g : Nat} {cs cs' : Array Value} {t t' : TypeId} {fr fr' : Nat × Nat} (h : IsD w b s) (hg : w.grownBy w' (some g)) (hne : b ≠ g)
    (h1 : w.heap[g]? = some (.cells cs t fr)) (h2 : w'.heap[g]? = some (.cells cs' t' fr')) (hz : cs.size ≤ cs'.size) (hno : ∀ (i : Nat) (x : Int), cs[i]? ≠ some (Value.int .u8 x)) : IsD w' b s := by
  obtain ⟨a0, l0, c0, a1, l1, c1, h⟩ := h
  exact ⟨a0, l0, c0, a1, l1, c1, ⟨(hg.block _ h.lt (by intro e; exact hne (Option.some.inj e))).trans h.heap, isB_past h.b0 hg h1 h2 hz hno, isB_past h.b1 hg h1 h2 hz hno, h.ne0, h.ne1⟩⟩
theorem row7_no {a0 a3 a4 a5 a6 : Int} {x0 x1 : ByteArray} : ∀ (i : Nat) (x : Int), (#[Value.int .i64 a0, .string x0, .string x1, .int .i64 a3, .int .i64 a4, .int .i64 a5, .int .i64 a6] : Array Value)[i]? ≠ some (Value.int .u8 x) := by
  intro i x h
  match i with
  | 0 | 1 | 2 | 3 | 4 | 5 | 6 => simp at h
  | n + 7 => simp at h
set_option maxRecDepth 100000 in
set_option maxHeartbeats 1000000 in
theorem act_1 (b : Nat) (s s' : DS) (no : Int) (file n more : Int) (sa : Option Addr) (sn sc : Nat) (w : World) (h : IsD w b s)
    (hr : ∀ W, Calls Try.prog 45 #[RV s, .int .i64 file] W (Tells W (s', no))) (hd : ∀ W, IsD W b s → Calls Try.prog 24 #[.pointer (some ⟨b, 0, none⟩), .int .i64 file] W fun e w' => e = .returned (.int .i64 no) ∧ IsD w' b s' ∧ W.grownBy w' (some b)) :
    Calls Try.prog 16 #[.pointer (some ⟨b, 0, none⟩), RV s, .agg #[.int .i64 1, .int .i64 file, .int .i64 n, .int .i64 more, .slice sa sn sc]] w fun e w' =>
      e = .returned (.tuple #[RV s', .bool true]) ∧ IsD w' b s' ∧ w.grownBy w' (some b) := by
  have HR := Lib.hid hr; clear hr
  have HD := Lib.hid hd; clear hd
  have HH := Lib.hid h
  have hblt := h.lt
  clear h
  unfold Tells RV at *
  go_enter Try.func16, Try.ntmps16
  go_wp2_with fail
  have hA := act_init w s #[.int .i64 1, .int .i64 file, .int .i64 n, .int .i64 more, .slice sa sn sc]
  obtain ⟨W0, hW0⟩ : ∃ W0, actW w s #[.int .i64 1, .int .i64 file, .int .i64 n, .int .i64 more, .slice sa sn sc] = W0 := ⟨_, rfl⟩
  rw [hW0] at hA
  unfold actW at hW0
  rw [hW0]
  clear hW0
  obtain ⟨hA, hB0⟩ := hA
  refine (HR.out _).mono ?_
  rintro e w1 ⟨rfl, hb1⟩
  have hA1 := hA.later hb1
  have hB1 := below_then hB0 hb1
  clear hA hB0 hb1
  have f0 := row_cell hA1.h3 0 rfl
  have f1 := row_cell hA1.h3 1 rfl
  have f2 := row_cell hA1.h3 2 rfl
  have f3 := row_cell hA1.h3 3 rfl
  have f4 := row_cell hA1.h3 4 rfl
  have f5 := row_cell hA1.h3 5 rfl
  have f6 := row_cell hA1.h3 6 rfl
  have fz := row_fz hA1.h3
  have x0 := row_cell hA1.h1 0 rfl
  have x1 := row_cell hA1.h1 1 rfl
  have x2 := row_cell hA1.h1 2 rfl
  have x3 := row_cell hA1.h1 3 rfl
  have x4 := row_cell hA1.h1 4 rfl
  have hD1 := HH.out.later hB1
  go_wp2_with fail
  have hq := store7 hA1.h3 (.int .i64 s'.room) (.string (strOf s'.f0)) (.string (strOf s'.f1)) (.int .i64 (s'.n0 : Int)) (.int .i64 (s'.n1 : Int)) (.int .i64 s'.now) (.int .i64 s'.left)
  have hg7 := grown7 w1 (w.heap.size + 1 + 1 + 1) (.int .i64 s'.room) (.string (strOf s'.f0)) (.string (strOf s'.f1)) (.int .i64 (s'.n0 : Int)) (.int .i64 (s'.n1 : Int)) (.int .i64 s'.now) (.int .i64 s'.left)
  clear f0 f1 f2 f3 f4 f5 f6 fz x0 x1 x2 x3 x4
  obtain ⟨w2, hw2⟩ : ∃ w2, (((((((w1.setCell ⟨w.heap.size + 1 + 1 + 1, 0, none⟩ (.int .i64 s'.room)).setCell ⟨w.heap.size + 1 + 1 + 1, 1, none⟩ (.string (strOf s'.f0))).setCell ⟨w.heap.size + 1 + 1 + 1, 2, none⟩ (.string (strOf s'.f1))).setCell ⟨w.heap.size + 1 + 1 + 1, 3, none⟩ (.int .i64 (s'.n0 : Int))).setCell ⟨w.heap.size + 1 + 1 + 1, 4, none⟩ (.int .i64 (s'.n1 : Int))).setCell ⟨w.heap.size + 1 + 1 + 1, 5, none⟩ (.int .i64 s'.now)).setCell ⟨w.heap.size + 1 + 1 + 1, 6, none⟩ (.int .i64 s'.left)) = w2 := ⟨_, rfl⟩
  rw [hw2] at hq hg7 ⊢
  clear hw2
  have hD2 := hD1.past hg7 (by omega) hA1.h3 hq (Nat.le_refl _) row7_no
  have hA2 := hA1.stored hg7 hq
  have hB2 := below_grown hB1 hg7 (by omega) (Nat.le_refl _)
  clear hA1 hB1 hD1 hg7 hq

  refine (HD.out _ hD2).mono ?_
  rintro e w3 ⟨rfl, hDE, hg3⟩
  have hE := hA2.grown hg3 hblt
  have hGE := grown_trans (grown_of_below (r := some b) hB2) hg3
  clear hA2 hB2 hD2 hg3
  go_wp2_with fail
  have hE0 := hE
  replace hE := hE.later (below_drew w3)
  refine mix_begin 6 (Held fun w' => w'.cell? ⟨w.heap.size + 1 + 1 + 1, 0, none⟩ = some (.int .i64 s'.room) ∧ w'.cell? ⟨w.heap.size + 1 + 1 + 1, 1, none⟩ = some (.string (strOf s'.f0)) ∧ w'.cell? ⟨w.heap.size + 1 + 1 + 1, 2, none⟩ = some (.string (strOf s'.f1)) ∧ w'.cell? ⟨w.heap.size + 1 + 1 + 1, 3, none⟩ = some (.int .i64 (s'.n0 : Int)) ∧ w'.cell? ⟨w.heap.size + 1 + 1 + 1, 4, none⟩ = some (.int .i64 (s'.n1 : Int)) ∧ w'.cell? ⟨w.heap.size + 1 + 1 + 1, 5, none⟩ = some (.int .i64 s'.now) ∧ w'.cell? ⟨w.heap.size + 1 + 1 + 1, 6, none⟩ = some (.int .i64 s'.left)) (by kernel_rfl) (by kernel_rfl) (Held.mk ⟨row_cell hE.h3 0 rfl, row_cell hE.h3 1 rfl, row_cell hE.h3 2 rfl, row_cell hE.h3 3 rfl, row_cell hE.h3 4 rfl, row_cell hE.h3 5 rfl, row_cell hE.h3 6 rfl⟩) (fun hS => ?_)
  refine mix_take (v := ?_) 0 rfl (by decide) (by kernel_rfl) (by kernel_rfl) (fun _ _ _ h => h) hS rfl ?_ ?_
  rotate_left
  · (intro w' hw'; first | (go_simp; done) | (go_simp; with_reducible rfl) | (obtain ⟨q0, q1, q2, q3, q4, q5, q6⟩ := hw'.out; first | (go_simp; done) | (go_simp; with_reducible rfl)))
  simp only [Act.put, List.setIfInBounds_toArray, List.set_cons_zero, List.set_cons_succ]
  refine mix_take (v := ?_) 1 rfl (by decide) (by kernel_rfl) (by kernel_rfl) (fun _ _ _ h => h) hS rfl ?_ ?_
  rotate_left
  · (intro w' hw'; first | (go_simp; done) | (go_simp; with_reducible rfl) | (obtain ⟨q0, q1, q2, q3, q4, q5, q6⟩ := hw'.out; first | (go_simp; done) | (go_simp; with_reducible rfl)))
  simp only [Act.put, List.setIfInBounds_toArray, List.set_cons_zero, List.set_cons_succ]
  refine mix_take (v := ?_) 3 rfl (by decide) (by kernel_rfl) (by kernel_rfl) (fun _ _ _ h => h) hS rfl ?_ ?_
  rotate_left
  · (intro w' hw'; first | (go_simp; done) | (go_simp; with_reducible rfl) | (obtain ⟨q0, q1, q2, q3, q4, q5, q6⟩ := hw'.out; first | (go_simp; done) | (go_simp; with_reducible rfl)))
  simp only [Act.put, List.setIfInBounds_toArray, List.set_cons_zero, List.set_cons_succ]
  refine mix_step 2 rfl (by decide) (by kernel_rfl) ?_
  have g := hS.out
  go_wp2_with fail
  refine (num7_c _ _).mono ?_
  rintro e wn ⟨rfl, rfl⟩
  go_wp2_with fail
  refine mix_out (Held.mk g) (fun hS => ?_)
  refine mix_take (v := ?_) 4 rfl (by decide) (by kernel_rfl) (by kernel_rfl) (fun _ _ _ h => h) hS rfl ?_ ?_
  rotate_left
  · (intro w' hw'; first | (go_simp; done) | (go_simp; with_reducible rfl) | (obtain ⟨q0, q1, q2, q3, q4, q5, q6⟩ := hw'.out; first | (go_simp; done) | (go_simp; with_reducible rfl)))
  simp only [Act.put, List.setIfInBounds_toArray, List.set_cons_zero, List.set_cons_succ]
  refine mix_step 5 rfl (by decide) (by kernel_rfl) ?_
  clear g
  have y0 := row_cell hE0.h2 0 rfl
  have y1 := row_cell hE0.h2 1 rfl
  have y2 := row_cell hE0.h2 2 rfl
  have y3 := row_cell hE0.h2 3 rfl
  have y4 := row_cell hE0.h2 4 rfl
  have y5 := row_cell hE0.h2 5 rfl
  have y6 := row_cell hE0.h2 6 rfl
  have z0 := row_fz hE0.h2
  go_wp2_with fail
  clear y0 y1 y2 y3 y4 y5 y6 z0
  have hq := store7 hE0.h2 (.int .i64 s'.room) (.string (strOf s'.f0)) (.string (strOf s'.f1)) (.int .i64 (s'.n0 : Int)) (.int .i64 (s'.n1 : Int)) (.int .i64 s'.now) (.int .i64 s'.left)
  have hg7 := grown7 w3 (w.heap.size + 1 + 1) (.int .i64 s'.room) (.string (strOf s'.f0)) (.string (strOf s'.f1)) (.int .i64 (s'.n0 : Int)) (.int .i64 (s'.n1 : Int)) (.int .i64 s'.now) (.int .i64 s'.left)
  have hE' := Lib.hid (hE0.stored2 hg7)
  have hD' := (hDE.past hg7 (by omega) hE0.h2 hq (Nat.le_refl _) row7_no).later (below_drew _)
  have hG' := grown_below (grown_past hGE hg7 (by omega)) (below_drew _)
  replace hq := Lib.hid hq
  refine mix_out (Held.mk ⟨row_cell_drew hE'.out 0 rfl, row_cell_drew hE'.out 1 rfl, row_cell_drew hE'.out 2 rfl, row_cell_drew hE'.out 3 rfl, row_cell_drew hE'.out 4 rfl, row_cell_drew hE'.out 5 rfl, row_cell_drew hE'.out 6 rfl⟩) (fun hS => ?_)
  refine mix_done (by kernel_rfl) ?_
  simp only [List.drop_succ_cons, List.drop_zero]
  go_wp2_with fail
  refine ret_RT (cs := #[.int .i64 s'.room, .string (strOf s'.f0), .string (strOf s'.f1), .int .i64 (s'.n0 : Int), .int .i64 (s'.n1 : Int), .int .i64 s'.now, .int .i64 s'.left]) rfl rfl (heap_drew' hq.out) rfl rfl ⟨by go_simp, hD', hG'⟩
set_option maxRecDepth 100000 in
set_option maxHeartbeats 1000000 in
theorem act_2 (b : Nat) (s s' : DS) (no : Int) (file n more : Int) (sa : Option Addr) (sn sc : Nat) (w : World) (h : IsD w b s)
    (hr : ∀ W, Calls Try.prog 46 #[RV s, .int .i64 file, .int .i64 n] W (Tells W (s', no))) (hd : ∀ W, IsD W b s → Calls Try.prog 25 #[.pointer (some ⟨b, 0, none⟩), .int .i64 file, .int .i64 n] W fun e w' => e = .returned (.int .i64 no) ∧ IsD w' b s' ∧ W.grownBy w' (some b)) :
    Calls Try.prog 16 #[.pointer (some ⟨b, 0, none⟩), RV s, .agg #[.int .i64 2, .int .i64 file, .int .i64 n, .int .i64 more, .slice sa sn sc]] w fun e w' =>
      e = .returned (.tuple #[RV s', .bool true]) ∧ IsD w' b s' ∧ w.grownBy w' (some b) := by
  have HR := Lib.hid hr; clear hr
  have HD := Lib.hid hd; clear hd
  have HH := Lib.hid h
  have hblt := h.lt
  clear h
  unfold Tells RV at *
  go_enter Try.func16, Try.ntmps16
  go_wp2_with fail
  have hA := act_init w s #[.int .i64 2, .int .i64 file, .int .i64 n, .int .i64 more, .slice sa sn sc]
  obtain ⟨W0, hW0⟩ : ∃ W0, actW w s #[.int .i64 2, .int .i64 file, .int .i64 n, .int .i64 more, .slice sa sn sc] = W0 := ⟨_, rfl⟩
  rw [hW0] at hA
  unfold actW at hW0
  rw [hW0]
  clear hW0
  obtain ⟨hA, hB0⟩ := hA
  refine (HR.out _).mono ?_
  rintro e w1 ⟨rfl, hb1⟩
  have hA1 := hA.later hb1
  have hB1 := below_then hB0 hb1
  clear hA hB0 hb1
  have f0 := row_cell hA1.h3 0 rfl
  have f1 := row_cell hA1.h3 1 rfl
  have f2 := row_cell hA1.h3 2 rfl
  have f3 := row_cell hA1.h3 3 rfl
  have f4 := row_cell hA1.h3 4 rfl
  have f5 := row_cell hA1.h3 5 rfl
  have f6 := row_cell hA1.h3 6 rfl
  have fz := row_fz hA1.h3
  have x0 := row_cell hA1.h1 0 rfl
  have x1 := row_cell hA1.h1 1 rfl
  have x2 := row_cell hA1.h1 2 rfl
  have x3 := row_cell hA1.h1 3 rfl
  have x4 := row_cell hA1.h1 4 rfl
  have hD1 := HH.out.later hB1
  go_wp2_with fail
  have hq := store7 hA1.h3 (.int .i64 s'.room) (.string (strOf s'.f0)) (.string (strOf s'.f1)) (.int .i64 (s'.n0 : Int)) (.int .i64 (s'.n1 : Int)) (.int .i64 s'.now) (.int .i64 s'.left)
  have hg7 := grown7 w1 (w.heap.size + 1 + 1 + 1) (.int .i64 s'.room) (.string (strOf s'.f0)) (.string (strOf s'.f1)) (.int .i64 (s'.n0 : Int)) (.int .i64 (s'.n1 : Int)) (.int .i64 s'.now) (.int .i64 s'.left)
  clear f0 f1 f2 f3 f4 f5 f6 fz x0 x1 x2 x3 x4
  obtain ⟨w2, hw2⟩ : ∃ w2, (((((((w1.setCell ⟨w.heap.size + 1 + 1 + 1, 0, none⟩ (.int .i64 s'.room)).setCell ⟨w.heap.size + 1 + 1 + 1, 1, none⟩ (.string (strOf s'.f0))).setCell ⟨w.heap.size + 1 + 1 + 1, 2, none⟩ (.string (strOf s'.f1))).setCell ⟨w.heap.size + 1 + 1 + 1, 3, none⟩ (.int .i64 (s'.n0 : Int))).setCell ⟨w.heap.size + 1 + 1 + 1, 4, none⟩ (.int .i64 (s'.n1 : Int))).setCell ⟨w.heap.size + 1 + 1 + 1, 5, none⟩ (.int .i64 s'.now)).setCell ⟨w.heap.size + 1 + 1 + 1, 6, none⟩ (.int .i64 s'.left)) = w2 := ⟨_, rfl⟩
  rw [hw2] at hq hg7 ⊢
  clear hw2
  have hD2 := hD1.past hg7 (by omega) hA1.h3 hq (Nat.le_refl _) row7_no
  have hA2 := hA1.stored hg7 hq
  have hB2 := below_grown hB1 hg7 (by omega) (Nat.le_refl _)
  clear hA1 hB1 hD1 hg7 hq

  refine (HD.out _ hD2).mono ?_
  rintro e w3 ⟨rfl, hDE, hg3⟩
  have hE := hA2.grown hg3 hblt
  have hGE := grown_trans (grown_of_below (r := some b) hB2) hg3
  clear hA2 hB2 hD2 hg3
  go_wp2_with fail
  have hE0 := hE
  replace hE := hE.later (below_drew w3)
  refine mix_begin 6 (Held fun w' => w'.cell? ⟨w.heap.size + 1 + 1 + 1, 0, none⟩ = some (.int .i64 s'.room) ∧ w'.cell? ⟨w.heap.size + 1 + 1 + 1, 1, none⟩ = some (.string (strOf s'.f0)) ∧ w'.cell? ⟨w.heap.size + 1 + 1 + 1, 2, none⟩ = some (.string (strOf s'.f1)) ∧ w'.cell? ⟨w.heap.size + 1 + 1 + 1, 3, none⟩ = some (.int .i64 (s'.n0 : Int)) ∧ w'.cell? ⟨w.heap.size + 1 + 1 + 1, 4, none⟩ = some (.int .i64 (s'.n1 : Int)) ∧ w'.cell? ⟨w.heap.size + 1 + 1 + 1, 5, none⟩ = some (.int .i64 s'.now) ∧ w'.cell? ⟨w.heap.size + 1 + 1 + 1, 6, none⟩ = some (.int .i64 s'.left)) (by kernel_rfl) (by kernel_rfl) (Held.mk ⟨row_cell hE.h3 0 rfl, row_cell hE.h3 1 rfl, row_cell hE.h3 2 rfl, row_cell hE.h3 3 rfl, row_cell hE.h3 4 rfl, row_cell hE.h3 5 rfl, row_cell hE.h3 6 rfl⟩) (fun hS => ?_)
  refine mix_take (v := ?_) 0 rfl (by decide) (by kernel_rfl) (by kernel_rfl) (fun _ _ _ h => h) hS rfl ?_ ?_
  rotate_left
  · (intro w' hw'; first | (go_simp; done) | (go_simp; with_reducible rfl) | (obtain ⟨q0, q1, q2, q3, q4, q5, q6⟩ := hw'.out; first | (go_simp; done) | (go_simp; with_reducible rfl)))
  simp only [Act.put, List.setIfInBounds_toArray, List.set_cons_zero, List.set_cons_succ]
  refine mix_take (v := ?_) 1 rfl (by decide) (by kernel_rfl) (by kernel_rfl) (fun _ _ _ h => h) hS rfl ?_ ?_
  rotate_left
  · (intro w' hw'; first | (go_simp; done) | (go_simp; with_reducible rfl) | (obtain ⟨q0, q1, q2, q3, q4, q5, q6⟩ := hw'.out; first | (go_simp; done) | (go_simp; with_reducible rfl)))
  simp only [Act.put, List.setIfInBounds_toArray, List.set_cons_zero, List.set_cons_succ]
  refine mix_take (v := ?_) 3 rfl (by decide) (by kernel_rfl) (by kernel_rfl) (fun _ _ _ h => h) hS rfl ?_ ?_
  rotate_left
  · (intro w' hw'; first | (go_simp; done) | (go_simp; with_reducible rfl) | (obtain ⟨q0, q1, q2, q3, q4, q5, q6⟩ := hw'.out; first | (go_simp; done) | (go_simp; with_reducible rfl)))
  simp only [Act.put, List.setIfInBounds_toArray, List.set_cons_zero, List.set_cons_succ]
  refine mix_step 2 rfl (by decide) (by kernel_rfl) ?_
  have g := hS.out
  go_wp2_with fail
  refine (num7_c _ _).mono ?_
  rintro e wn ⟨rfl, rfl⟩
  go_wp2_with fail
  refine mix_out (Held.mk g) (fun hS => ?_)
  refine mix_take (v := ?_) 4 rfl (by decide) (by kernel_rfl) (by kernel_rfl) (fun _ _ _ h => h) hS rfl ?_ ?_
  rotate_left
  · (intro w' hw'; first | (go_simp; done) | (go_simp; with_reducible rfl) | (obtain ⟨q0, q1, q2, q3, q4, q5, q6⟩ := hw'.out; first | (go_simp; done) | (go_simp; with_reducible rfl)))
  simp only [Act.put, List.setIfInBounds_toArray, List.set_cons_zero, List.set_cons_succ]
  refine mix_step 5 rfl (by decide) (by kernel_rfl) ?_
  clear g
  have y0 := row_cell hE0.h2 0 rfl
  have y1 := row_cell hE0.h2 1 rfl
  have y2 := row_cell hE0.h2 2 rfl
  have y3 := row_cell hE0.h2 3 rfl
  have y4 := row_cell hE0.h2 4 rfl
  have y5 := row_cell hE0.h2 5 rfl
  have y6 := row_cell hE0.h2 6 rfl
  have z0 := row_fz hE0.h2
  go_wp2_with fail
  clear y0 y1 y2 y3 y4 y5 y6 z0
  have hq := store7 hE0.h2 (.int .i64 s'.room) (.string (strOf s'.f0)) (.string (strOf s'.f1)) (.int .i64 (s'.n0 : Int)) (.int .i64 (s'.n1 : Int)) (.int .i64 s'.now) (.int .i64 s'.left)
  have hg7 := grown7 w3 (w.heap.size + 1 + 1) (.int .i64 s'.room) (.string (strOf s'.f0)) (.string (strOf s'.f1)) (.int .i64 (s'.n0 : Int)) (.int .i64 (s'.n1 : Int)) (.int .i64 s'.now) (.int .i64 s'.left)
  have hE' := Lib.hid (hE0.stored2 hg7)
  have hD' := (hDE.past hg7 (by omega) hE0.h2 hq (Nat.le_refl _) row7_no).later (below_drew _)
  have hG' := grown_below (grown_past hGE hg7 (by omega)) (below_drew _)
  replace hq := Lib.hid hq
  refine mix_out (Held.mk ⟨row_cell_drew hE'.out 0 rfl, row_cell_drew hE'.out 1 rfl, row_cell_drew hE'.out 2 rfl, row_cell_drew hE'.out 3 rfl, row_cell_drew hE'.out 4 rfl, row_cell_drew hE'.out 5 rfl, row_cell_drew hE'.out 6 rfl⟩) (fun hS => ?_)
  refine mix_done (by kernel_rfl) ?_
  simp only [List.drop_succ_cons, List.drop_zero]
  go_wp2_with fail
  refine ret_RT (cs := #[.int .i64 s'.room, .string (strOf s'.f0), .string (strOf s'.f1), .int .i64 (s'.n0 : Int), .int .i64 (s'.n1 : Int), .int .i64 s'.now, .int .i64 s'.left]) rfl rfl (heap_drew' hq.out) rfl rfl ⟨by go_simp, hD', hG'⟩
set_option maxRecDepth 100000 in
set_option maxHeartbeats 1000000 in
theorem act_3 (b : Nat) (s s' : DS) (no : Int) (file n more : Int) (sa : Option Addr) (sn sc : Nat) (w : World) (h : IsD w b s)
    (hr : ∀ W, Calls Try.prog 47 #[RV s] W (Tells W (s', no))) (hd : ∀ W, IsD W b s → Calls Try.prog 26 #[.pointer (some ⟨b, 0, none⟩)] W fun e w' => e = .returned (.int .i64 no) ∧ IsD w' b s' ∧ W.grownBy w' (some b)) :
    Calls Try.prog 16 #[.pointer (some ⟨b, 0, none⟩), RV s, .agg #[.int .i64 3, .int .i64 file, .int .i64 n, .int .i64 more, .slice sa sn sc]] w fun e w' =>
      e = .returned (.tuple #[RV s', .bool true]) ∧ IsD w' b s' ∧ w.grownBy w' (some b) := by
  have HR := Lib.hid hr; clear hr
  have HD := Lib.hid hd; clear hd
  have HH := Lib.hid h
  have hblt := h.lt
  clear h
  unfold Tells RV at *
  go_enter Try.func16, Try.ntmps16
  go_wp2_with fail
  have hA := act_init w s #[.int .i64 3, .int .i64 file, .int .i64 n, .int .i64 more, .slice sa sn sc]
  obtain ⟨W0, hW0⟩ : ∃ W0, actW w s #[.int .i64 3, .int .i64 file, .int .i64 n, .int .i64 more, .slice sa sn sc] = W0 := ⟨_, rfl⟩
  rw [hW0] at hA
  unfold actW at hW0
  rw [hW0]
  clear hW0
  obtain ⟨hA, hB0⟩ := hA
  refine (HR.out _).mono ?_
  rintro e w1 ⟨rfl, hb1⟩
  have hA1 := hA.later hb1
  have hB1 := below_then hB0 hb1
  clear hA hB0 hb1
  have f0 := row_cell hA1.h3 0 rfl
  have f1 := row_cell hA1.h3 1 rfl
  have f2 := row_cell hA1.h3 2 rfl
  have f3 := row_cell hA1.h3 3 rfl
  have f4 := row_cell hA1.h3 4 rfl
  have f5 := row_cell hA1.h3 5 rfl
  have f6 := row_cell hA1.h3 6 rfl
  have fz := row_fz hA1.h3
  have x0 := row_cell hA1.h1 0 rfl
  have x1 := row_cell hA1.h1 1 rfl
  have x2 := row_cell hA1.h1 2 rfl
  have x3 := row_cell hA1.h1 3 rfl
  have x4 := row_cell hA1.h1 4 rfl
  have hD1 := HH.out.later hB1
  go_wp2_with fail
  have hq := store7 hA1.h3 (.int .i64 s'.room) (.string (strOf s'.f0)) (.string (strOf s'.f1)) (.int .i64 (s'.n0 : Int)) (.int .i64 (s'.n1 : Int)) (.int .i64 s'.now) (.int .i64 s'.left)
  have hg7 := grown7 w1 (w.heap.size + 1 + 1 + 1) (.int .i64 s'.room) (.string (strOf s'.f0)) (.string (strOf s'.f1)) (.int .i64 (s'.n0 : Int)) (.int .i64 (s'.n1 : Int)) (.int .i64 s'.now) (.int .i64 s'.left)
  clear f0 f1 f2 f3 f4 f5 f6 fz x0 x1 x2 x3 x4
  obtain ⟨w2, hw2⟩ : ∃ w2, (((((((w1.setCell ⟨w.heap.size + 1 + 1 + 1, 0, none⟩ (.int .i64 s'.room)).setCell ⟨w.heap.size + 1 + 1 + 1, 1, none⟩ (.string (strOf s'.f0))).setCell ⟨w.heap.size + 1 + 1 + 1, 2, none⟩ (.string (strOf s'.f1))).setCell ⟨w.heap.size + 1 + 1 + 1, 3, none⟩ (.int .i64 (s'.n0 : Int))).setCell ⟨w.heap.size + 1 + 1 + 1, 4, none⟩ (.int .i64 (s'.n1 : Int))).setCell ⟨w.heap.size + 1 + 1 + 1, 5, none⟩ (.int .i64 s'.now)).setCell ⟨w.heap.size + 1 + 1 + 1, 6, none⟩ (.int .i64 s'.left)) = w2 := ⟨_, rfl⟩
  rw [hw2] at hq hg7 ⊢
  clear hw2
  have hD2 := hD1.past hg7 (by omega) hA1.h3 hq (Nat.le_refl _) row7_no
  have hA2 := hA1.stored hg7 hq
  have hB2 := below_grown hB1 hg7 (by omega) (Nat.le_refl _)
  clear hA1 hB1 hD1 hg7 hq

  refine (HD.out _ hD2).mono ?_
  rintro e w3 ⟨rfl, hDE, hg3⟩
  have hE := hA2.grown hg3 hblt
  have hGE := grown_trans (grown_of_below (r := some b) hB2) hg3
  clear hA2 hB2 hD2 hg3
  go_wp2_with fail
  have hE0 := hE
  replace hE := hE.later (below_drew w3)
  refine mix_begin 6 (Held fun w' => w'.cell? ⟨w.heap.size + 1 + 1 + 1, 0, none⟩ = some (.int .i64 s'.room) ∧ w'.cell? ⟨w.heap.size + 1 + 1 + 1, 1, none⟩ = some (.string (strOf s'.f0)) ∧ w'.cell? ⟨w.heap.size + 1 + 1 + 1, 2, none⟩ = some (.string (strOf s'.f1)) ∧ w'.cell? ⟨w.heap.size + 1 + 1 + 1, 3, none⟩ = some (.int .i64 (s'.n0 : Int)) ∧ w'.cell? ⟨w.heap.size + 1 + 1 + 1, 4, none⟩ = some (.int .i64 (s'.n1 : Int)) ∧ w'.cell? ⟨w.heap.size + 1 + 1 + 1, 5, none⟩ = some (.int .i64 s'.now) ∧ w'.cell? ⟨w.heap.size + 1 + 1 + 1, 6, none⟩ = some (.int .i64 s'.left)) (by kernel_rfl) (by kernel_rfl) (Held.mk ⟨row_cell hE.h3 0 rfl, row_cell hE.h3 1 rfl, row_cell hE.h3 2 rfl, row_cell hE.h3 3 rfl, row_cell hE.h3 4 rfl, row_cell hE.h3 5 rfl, row_cell hE.h3 6 rfl⟩) (fun hS => ?_)
  refine mix_take (v := ?_) 0 rfl (by decide) (by kernel_rfl) (by kernel_rfl) (fun _ _ _ h => h) hS rfl ?_ ?_
  rotate_left
  · (intro w' hw'; first | (go_simp; done) | (go_simp; with_reducible rfl) | (obtain ⟨q0, q1, q2, q3, q4, q5, q6⟩ := hw'.out; first | (go_simp; done) | (go_simp; with_reducible rfl)))
  simp only [Act.put, List.setIfInBounds_toArray, List.set_cons_zero, List.set_cons_succ]
  refine mix_take (v := ?_) 1 rfl (by decide) (by kernel_rfl) (by kernel_rfl) (fun _ _ _ h => h) hS rfl ?_ ?_
  rotate_left
  · (intro w' hw'; first | (go_simp; done) | (go_simp; with_reducible rfl) | (obtain ⟨q0, q1, q2, q3, q4, q5, q6⟩ := hw'.out; first | (go_simp; done) | (go_simp; with_reducible rfl)))
  simp only [Act.put, List.setIfInBounds_toArray, List.set_cons_zero, List.set_cons_succ]
  refine mix_take (v := ?_) 3 rfl (by decide) (by kernel_rfl) (by kernel_rfl) (fun _ _ _ h => h) hS rfl ?_ ?_
  rotate_left
  · (intro w' hw'; first | (go_simp; done) | (go_simp; with_reducible rfl) | (obtain ⟨q0, q1, q2, q3, q4, q5, q6⟩ := hw'.out; first | (go_simp; done) | (go_simp; with_reducible rfl)))
  simp only [Act.put, List.setIfInBounds_toArray, List.set_cons_zero, List.set_cons_succ]
  refine mix_step 2 rfl (by decide) (by kernel_rfl) ?_
  have g := hS.out
  go_wp2_with fail
  refine (num7_c _ _).mono ?_
  rintro e wn ⟨rfl, rfl⟩
  go_wp2_with fail
  refine mix_out (Held.mk g) (fun hS => ?_)
  refine mix_take (v := ?_) 4 rfl (by decide) (by kernel_rfl) (by kernel_rfl) (fun _ _ _ h => h) hS rfl ?_ ?_
  rotate_left
  · (intro w' hw'; first | (go_simp; done) | (go_simp; with_reducible rfl) | (obtain ⟨q0, q1, q2, q3, q4, q5, q6⟩ := hw'.out; first | (go_simp; done) | (go_simp; with_reducible rfl)))
  simp only [Act.put, List.setIfInBounds_toArray, List.set_cons_zero, List.set_cons_succ]
  refine mix_step 5 rfl (by decide) (by kernel_rfl) ?_
  clear g
  have y0 := row_cell hE0.h2 0 rfl
  have y1 := row_cell hE0.h2 1 rfl
  have y2 := row_cell hE0.h2 2 rfl
  have y3 := row_cell hE0.h2 3 rfl
  have y4 := row_cell hE0.h2 4 rfl
  have y5 := row_cell hE0.h2 5 rfl
  have y6 := row_cell hE0.h2 6 rfl
  have z0 := row_fz hE0.h2
  go_wp2_with fail
  clear y0 y1 y2 y3 y4 y5 y6 z0
  have hq := store7 hE0.h2 (.int .i64 s'.room) (.string (strOf s'.f0)) (.string (strOf s'.f1)) (.int .i64 (s'.n0 : Int)) (.int .i64 (s'.n1 : Int)) (.int .i64 s'.now) (.int .i64 s'.left)
  have hg7 := grown7 w3 (w.heap.size + 1 + 1) (.int .i64 s'.room) (.string (strOf s'.f0)) (.string (strOf s'.f1)) (.int .i64 (s'.n0 : Int)) (.int .i64 (s'.n1 : Int)) (.int .i64 s'.now) (.int .i64 s'.left)
  have hE' := Lib.hid (hE0.stored2 hg7)
  have hD' := (hDE.past hg7 (by omega) hE0.h2 hq (Nat.le_refl _) row7_no).later (below_drew _)
  have hG' := grown_below (grown_past hGE hg7 (by omega)) (below_drew _)
  replace hq := Lib.hid hq
  refine mix_out (Held.mk ⟨row_cell_drew hE'.out 0 rfl, row_cell_drew hE'.out 1 rfl, row_cell_drew hE'.out 2 rfl, row_cell_drew hE'.out 3 rfl, row_cell_drew hE'.out 4 rfl, row_cell_drew hE'.out 5 rfl, row_cell_drew hE'.out 6 rfl⟩) (fun hS => ?_)
  refine mix_done (by kernel_rfl) ?_
  simp only [List.drop_succ_cons, List.drop_zero]
  go_wp2_with fail
  refine ret_RT (cs := #[.int .i64 s'.room, .string (strOf s'.f0), .string (strOf s'.f1), .int .i64 (s'.n0 : Int), .int .i64 (s'.n1 : Int), .int .i64 s'.now, .int .i64 s'.left]) rfl rfl (heap_drew' hq.out) rfl rfl ⟨by go_simp, hD', hG'⟩
set_option maxRecDepth 100000 in
set_option maxHeartbeats 1000000 in
theorem act_4 (b : Nat) (s s' : DS) (no : Int) (file n more : Int) (sa : Option Addr) (sn sc : Nat) (w : World) (h : IsD w b s)
    (hr : ∀ W, Calls Try.prog 48 #[RV s, .int .i64 n] W (Tells W (s', no))) (hd : ∀ W, IsD W b s → Calls Try.prog 27 #[.pointer (some ⟨b, 0, none⟩), .int .i64 n] W fun e w' => e = .returned (.int .i64 no) ∧ IsD w' b s' ∧ W.grownBy w' (some b)) :
    Calls Try.prog 16 #[.pointer (some ⟨b, 0, none⟩), RV s, .agg #[.int .i64 4, .int .i64 file, .int .i64 n, .int .i64 more, .slice sa sn sc]] w fun e w' =>
      e = .returned (.tuple #[RV s', .bool true]) ∧ IsD w' b s' ∧ w.grownBy w' (some b) := by
  have HR := Lib.hid hr; clear hr
  have HD := Lib.hid hd; clear hd
  have HH := Lib.hid h
  have hblt := h.lt
  clear h
  unfold Tells RV at *
  go_enter Try.func16, Try.ntmps16
  go_wp2_with fail
  have hA := act_init w s #[.int .i64 4, .int .i64 file, .int .i64 n, .int .i64 more, .slice sa sn sc]
  obtain ⟨W0, hW0⟩ : ∃ W0, actW w s #[.int .i64 4, .int .i64 file, .int .i64 n, .int .i64 more, .slice sa sn sc] = W0 := ⟨_, rfl⟩
  rw [hW0] at hA
  unfold actW at hW0
  rw [hW0]
  clear hW0
  obtain ⟨hA, hB0⟩ := hA
  refine (HR.out _).mono ?_
  rintro e w1 ⟨rfl, hb1⟩
  have hA1 := hA.later hb1
  have hB1 := below_then hB0 hb1
  clear hA hB0 hb1
  have f0 := row_cell hA1.h3 0 rfl
  have f1 := row_cell hA1.h3 1 rfl
  have f2 := row_cell hA1.h3 2 rfl
  have f3 := row_cell hA1.h3 3 rfl
  have f4 := row_cell hA1.h3 4 rfl
  have f5 := row_cell hA1.h3 5 rfl
  have f6 := row_cell hA1.h3 6 rfl
  have fz := row_fz hA1.h3
  have x0 := row_cell hA1.h1 0 rfl
  have x1 := row_cell hA1.h1 1 rfl
  have x2 := row_cell hA1.h1 2 rfl
  have x3 := row_cell hA1.h1 3 rfl
  have x4 := row_cell hA1.h1 4 rfl
  have hD1 := HH.out.later hB1
  go_wp2_with fail
  have hq := store7 hA1.h3 (.int .i64 s'.room) (.string (strOf s'.f0)) (.string (strOf s'.f1)) (.int .i64 (s'.n0 : Int)) (.int .i64 (s'.n1 : Int)) (.int .i64 s'.now) (.int .i64 s'.left)
  have hg7 := grown7 w1 (w.heap.size + 1 + 1 + 1) (.int .i64 s'.room) (.string (strOf s'.f0)) (.string (strOf s'.f1)) (.int .i64 (s'.n0 : Int)) (.int .i64 (s'.n1 : Int)) (.int .i64 s'.now) (.int .i64 s'.left)
  clear f0 f1 f2 f3 f4 f5 f6 fz x0 x1 x2 x3 x4
  obtain ⟨w2, hw2⟩ : ∃ w2, (((((((w1.setCell ⟨w.heap.size + 1 + 1 + 1, 0, none⟩ (.int .i64 s'.room)).setCell ⟨w.heap.size + 1 + 1 + 1, 1, none⟩ (.string (strOf s'.f0))).setCell ⟨w.heap.size + 1 + 1 + 1, 2, none⟩ (.string (strOf s'.f1))).setCell ⟨w.heap.size + 1 + 1 + 1, 3, none⟩ (.int .i64 (s'.n0 : Int))).setCell ⟨w.heap.size + 1 + 1 + 1, 4, none⟩ (.int .i64 (s'.n1 : Int))).setCell ⟨w.heap.size + 1 + 1 + 1, 5, none⟩ (.int .i64 s'.now)).setCell ⟨w.heap.size + 1 + 1 + 1, 6, none⟩ (.int .i64 s'.left)) = w2 := ⟨_, rfl⟩
  rw [hw2] at hq hg7 ⊢
  clear hw2
  have hD2 := hD1.past hg7 (by omega) hA1.h3 hq (Nat.le_refl _) row7_no
  have hA2 := hA1.stored hg7 hq
  have hB2 := below_grown hB1 hg7 (by omega) (Nat.le_refl _)
  clear hA1 hB1 hD1 hg7 hq

  refine (HD.out _ hD2).mono ?_
  rintro e w3 ⟨rfl, hDE, hg3⟩
  have hE := hA2.grown hg3 hblt
  have hGE := grown_trans (grown_of_below (r := some b) hB2) hg3
  clear hA2 hB2 hD2 hg3
  go_wp2_with fail
  have hE0 := hE
  replace hE := hE.later (below_drew w3)
  refine mix_begin 6 (Held fun w' => w'.cell? ⟨w.heap.size + 1 + 1 + 1, 0, none⟩ = some (.int .i64 s'.room) ∧ w'.cell? ⟨w.heap.size + 1 + 1 + 1, 1, none⟩ = some (.string (strOf s'.f0)) ∧ w'.cell? ⟨w.heap.size + 1 + 1 + 1, 2, none⟩ = some (.string (strOf s'.f1)) ∧ w'.cell? ⟨w.heap.size + 1 + 1 + 1, 3, none⟩ = some (.int .i64 (s'.n0 : Int)) ∧ w'.cell? ⟨w.heap.size + 1 + 1 + 1, 4, none⟩ = some (.int .i64 (s'.n1 : Int)) ∧ w'.cell? ⟨w.heap.size + 1 + 1 + 1, 5, none⟩ = some (.int .i64 s'.now) ∧ w'.cell? ⟨w.heap.size + 1 + 1 + 1, 6, none⟩ = some (.int .i64 s'.left)) (by kernel_rfl) (by kernel_rfl) (Held.mk ⟨row_cell hE.h3 0 rfl, row_cell hE.h3 1 rfl, row_cell hE.h3 2 rfl, row_cell hE.h3 3 rfl, row_cell hE.h3 4 rfl, row_cell hE.h3 5 rfl, row_cell hE.h3 6 rfl⟩) (fun hS => ?_)
  refine mix_take (v := ?_) 0 rfl (by decide) (by kernel_rfl) (by kernel_rfl) (fun _ _ _ h => h) hS rfl ?_ ?_
  rotate_left
  · (intro w' hw'; first | (go_simp; done) | (go_simp; with_reducible rfl) | (obtain ⟨q0, q1, q2, q3, q4, q5, q6⟩ := hw'.out; first | (go_simp; done) | (go_simp; with_reducible rfl)))
  simp only [Act.put, List.setIfInBounds_toArray, List.set_cons_zero, List.set_cons_succ]
  refine mix_take (v := ?_) 1 rfl (by decide) (by kernel_rfl) (by kernel_rfl) (fun _ _ _ h => h) hS rfl ?_ ?_
  rotate_left
  · (intro w' hw'; first | (go_simp; done) | (go_simp; with_reducible rfl) | (obtain ⟨q0, q1, q2, q3, q4, q5, q6⟩ := hw'.out; first | (go_simp; done) | (go_simp; with_reducible rfl)))
  simp only [Act.put, List.setIfInBounds_toArray, List.set_cons_zero, List.set_cons_succ]
  refine mix_take (v := ?_) 3 rfl (by decide) (by kernel_rfl) (by kernel_rfl) (fun _ _ _ h => h) hS rfl ?_ ?_
  rotate_left
  · (intro w' hw'; first | (go_simp; done) | (go_simp; with_reducible rfl) | (obtain ⟨q0, q1, q2, q3, q4, q5, q6⟩ := hw'.out; first | (go_simp; done) | (go_simp; with_reducible rfl)))
  simp only [Act.put, List.setIfInBounds_toArray, List.set_cons_zero, List.set_cons_succ]
  refine mix_step 2 rfl (by decide) (by kernel_rfl) ?_
  have g := hS.out
  go_wp2_with fail
  refine (num7_c _ _).mono ?_
  rintro e wn ⟨rfl, rfl⟩
  go_wp2_with fail
  refine mix_out (Held.mk g) (fun hS => ?_)
  refine mix_take (v := ?_) 4 rfl (by decide) (by kernel_rfl) (by kernel_rfl) (fun _ _ _ h => h) hS rfl ?_ ?_
  rotate_left
  · (intro w' hw'; first | (go_simp; done) | (go_simp; with_reducible rfl) | (obtain ⟨q0, q1, q2, q3, q4, q5, q6⟩ := hw'.out; first | (go_simp; done) | (go_simp; with_reducible rfl)))
  simp only [Act.put, List.setIfInBounds_toArray, List.set_cons_zero, List.set_cons_succ]
  refine mix_step 5 rfl (by decide) (by kernel_rfl) ?_
  clear g
  have y0 := row_cell hE0.h2 0 rfl
  have y1 := row_cell hE0.h2 1 rfl
  have y2 := row_cell hE0.h2 2 rfl
  have y3 := row_cell hE0.h2 3 rfl
  have y4 := row_cell hE0.h2 4 rfl
  have y5 := row_cell hE0.h2 5 rfl
  have y6 := row_cell hE0.h2 6 rfl
  have z0 := row_fz hE0.h2
  go_wp2_with fail
  clear y0 y1 y2 y3 y4 y5 y6 z0
  have hq := store7 hE0.h2 (.int .i64 s'.room) (.string (strOf s'.f0)) (.string (strOf s'.f1)) (.int .i64 (s'.n0 : Int)) (.int .i64 (s'.n1 : Int)) (.int .i64 s'.now) (.int .i64 s'.left)
  have hg7 := grown7 w3 (w.heap.size + 1 + 1) (.int .i64 s'.room) (.string (strOf s'.f0)) (.string (strOf s'.f1)) (.int .i64 (s'.n0 : Int)) (.int .i64 (s'.n1 : Int)) (.int .i64 s'.now) (.int .i64 s'.left)
  have hE' := Lib.hid (hE0.stored2 hg7)
  have hD' := (hDE.past hg7 (by omega) hE0.h2 hq (Nat.le_refl _) row7_no).later (below_drew _)
  have hG' := grown_below (grown_past hGE hg7 (by omega)) (below_drew _)
  replace hq := Lib.hid hq
  refine mix_out (Held.mk ⟨row_cell_drew hE'.out 0 rfl, row_cell_drew hE'.out 1 rfl, row_cell_drew hE'.out 2 rfl, row_cell_drew hE'.out 3 rfl, row_cell_drew hE'.out 4 rfl, row_cell_drew hE'.out 5 rfl, row_cell_drew hE'.out 6 rfl⟩) (fun hS => ?_)
  refine mix_done (by kernel_rfl) ?_
  simp only [List.drop_succ_cons, List.drop_zero]
  go_wp2_with fail
  refine ret_RT (cs := #[.int .i64 s'.room, .string (strOf s'.f0), .string (strOf s'.f1), .int .i64 (s'.n0 : Int), .int .i64 (s'.n1 : Int), .int .i64 s'.now, .int .i64 s'.left]) rfl rfl (heap_drew' hq.out) rfl rfl ⟨by go_simp, hD', hG'⟩
set_option maxRecDepth 100000 in
set_option maxHeartbeats 1000000 in
theorem act_5 (b : Nat) (s s' : DS) (no : Int) (file n more : Int) (sa : Option Addr) (sn sc : Nat) (w : World) (h : IsD w b s)
    (hr : ∀ W, Calls Try.prog 49 #[RV s, .agg #[.int .i64 n, .int .i64 more]] W (Tells W (s', no))) (hd : ∀ W, IsD W b s → Calls Try.prog 28 #[.pointer (some ⟨b, 0, none⟩), .agg #[.int .i64 n, .int .i64 more]] W fun e w' => e = .returned (.int .i64 no) ∧ IsD w' b s' ∧ W.grownBy w' (some b)) :
    Calls Try.prog 16 #[.pointer (some ⟨b, 0, none⟩), RV s, .agg #[.int .i64 5, .int .i64 file, .int .i64 n, .int .i64 more, .slice sa sn sc]] w fun e w' =>
      e = .returned (.tuple #[RV s', .bool true]) ∧ IsD w' b s' ∧ w.grownBy w' (some b) := by
  have HR := Lib.hid hr; clear hr
  have HD := Lib.hid hd; clear hd
  have HH := Lib.hid h
  have hblt := h.lt
  clear h
  unfold Tells RV at *
  go_enter Try.func16, Try.ntmps16
  go_wp2_with fail
  have hA := act_init w s #[.int .i64 5, .int .i64 file, .int .i64 n, .int .i64 more, .slice sa sn sc]
  obtain ⟨W0, hW0⟩ : ∃ W0, actW w s #[.int .i64 5, .int .i64 file, .int .i64 n, .int .i64 more, .slice sa sn sc] = W0 := ⟨_, rfl⟩
  rw [hW0] at hA
  unfold actW at hW0
  rw [hW0]
  clear hW0
  obtain ⟨hA, hB0⟩ := hA
  refine (HR.out _).mono ?_
  rintro e w1 ⟨rfl, hb1⟩
  have hA1 := hA.later hb1
  have hB1 := below_then hB0 hb1
  clear hA hB0 hb1
  have f0 := row_cell hA1.h3 0 rfl
  have f1 := row_cell hA1.h3 1 rfl
  have f2 := row_cell hA1.h3 2 rfl
  have f3 := row_cell hA1.h3 3 rfl
  have f4 := row_cell hA1.h3 4 rfl
  have f5 := row_cell hA1.h3 5 rfl
  have f6 := row_cell hA1.h3 6 rfl
  have fz := row_fz hA1.h3
  have x0 := row_cell hA1.h1 0 rfl
  have x1 := row_cell hA1.h1 1 rfl
  have x2 := row_cell hA1.h1 2 rfl
  have x3 := row_cell hA1.h1 3 rfl
  have x4 := row_cell hA1.h1 4 rfl
  have hD1 := HH.out.later hB1
  go_wp2_with fail
  have hq := store7 hA1.h3 (.int .i64 s'.room) (.string (strOf s'.f0)) (.string (strOf s'.f1)) (.int .i64 (s'.n0 : Int)) (.int .i64 (s'.n1 : Int)) (.int .i64 s'.now) (.int .i64 s'.left)
  have hg7 := grown7 w1 (w.heap.size + 1 + 1 + 1) (.int .i64 s'.room) (.string (strOf s'.f0)) (.string (strOf s'.f1)) (.int .i64 (s'.n0 : Int)) (.int .i64 (s'.n1 : Int)) (.int .i64 s'.now) (.int .i64 s'.left)
  clear f0 f1 f2 f3 f4 f5 f6 fz x0 x1 x2 x3 x4
  obtain ⟨w2, hw2⟩ : ∃ w2, (((((((w1.setCell ⟨w.heap.size + 1 + 1 + 1, 0, none⟩ (.int .i64 s'.room)).setCell ⟨w.heap.size + 1 + 1 + 1, 1, none⟩ (.string (strOf s'.f0))).setCell ⟨w.heap.size + 1 + 1 + 1, 2, none⟩ (.string (strOf s'.f1))).setCell ⟨w.heap.size + 1 + 1 + 1, 3, none⟩ (.int .i64 (s'.n0 : Int))).setCell ⟨w.heap.size + 1 + 1 + 1, 4, none⟩ (.int .i64 (s'.n1 : Int))).setCell ⟨w.heap.size + 1 + 1 + 1, 5, none⟩ (.int .i64 s'.now)).setCell ⟨w.heap.size + 1 + 1 + 1, 6, none⟩ (.int .i64 s'.left)) = w2 := ⟨_, rfl⟩
  rw [hw2] at hq hg7 ⊢
  clear hw2
  have hD2 := hD1.past hg7 (by omega) hA1.h3 hq (Nat.le_refl _) row7_no
  have hA2 := hA1.stored hg7 hq
  have hB2 := below_grown hB1 hg7 (by omega) (Nat.le_refl _)
  clear hA1 hB1 hD1 hg7 hq

  refine (HD.out _ hD2).mono ?_
  rintro e w3 ⟨rfl, hDE, hg3⟩
  have hE := hA2.grown hg3 hblt
  have hGE := grown_trans (grown_of_below (r := some b) hB2) hg3
  clear hA2 hB2 hD2 hg3
  go_wp2_with fail
  have hE0 := hE
  replace hE := hE.later (below_drew w3)
  refine mix_begin 6 (Held fun w' => w'.cell? ⟨w.heap.size + 1 + 1 + 1, 0, none⟩ = some (.int .i64 s'.room) ∧ w'.cell? ⟨w.heap.size + 1 + 1 + 1, 1, none⟩ = some (.string (strOf s'.f0)) ∧ w'.cell? ⟨w.heap.size + 1 + 1 + 1, 2, none⟩ = some (.string (strOf s'.f1)) ∧ w'.cell? ⟨w.heap.size + 1 + 1 + 1, 3, none⟩ = some (.int .i64 (s'.n0 : Int)) ∧ w'.cell? ⟨w.heap.size + 1 + 1 + 1, 4, none⟩ = some (.int .i64 (s'.n1 : Int)) ∧ w'.cell? ⟨w.heap.size + 1 + 1 + 1, 5, none⟩ = some (.int .i64 s'.now) ∧ w'.cell? ⟨w.heap.size + 1 + 1 + 1, 6, none⟩ = some (.int .i64 s'.left)) (by kernel_rfl) (by kernel_rfl) (Held.mk ⟨row_cell hE.h3 0 rfl, row_cell hE.h3 1 rfl, row_cell hE.h3 2 rfl, row_cell hE.h3 3 rfl, row_cell hE.h3 4 rfl, row_cell hE.h3 5 rfl, row_cell hE.h3 6 rfl⟩) (fun hS => ?_)
  refine mix_take (v := ?_) 0 rfl (by decide) (by kernel_rfl) (by kernel_rfl) (fun _ _ _ h => h) hS rfl ?_ ?_
  rotate_left
  · (intro w' hw'; first | (go_simp; done) | (go_simp; with_reducible rfl) | (obtain ⟨q0, q1, q2, q3, q4, q5, q6⟩ := hw'.out; first | (go_simp; done) | (go_simp; with_reducible rfl)))
  simp only [Act.put, List.setIfInBounds_toArray, List.set_cons_zero, List.set_cons_succ]
  refine mix_take (v := ?_) 1 rfl (by decide) (by kernel_rfl) (by kernel_rfl) (fun _ _ _ h => h) hS rfl ?_ ?_
  rotate_left
  · (intro w' hw'; first | (go_simp; done) | (go_simp; with_reducible rfl) | (obtain ⟨q0, q1, q2, q3, q4, q5, q6⟩ := hw'.out; first | (go_simp; done) | (go_simp; with_reducible rfl)))
  simp only [Act.put, List.setIfInBounds_toArray, List.set_cons_zero, List.set_cons_succ]
  refine mix_take (v := ?_) 3 rfl (by decide) (by kernel_rfl) (by kernel_rfl) (fun _ _ _ h => h) hS rfl ?_ ?_
  rotate_left
  · (intro w' hw'; first | (go_simp; done) | (go_simp; with_reducible rfl) | (obtain ⟨q0, q1, q2, q3, q4, q5, q6⟩ := hw'.out; first | (go_simp; done) | (go_simp; with_reducible rfl)))
  simp only [Act.put, List.setIfInBounds_toArray, List.set_cons_zero, List.set_cons_succ]
  refine mix_step 2 rfl (by decide) (by kernel_rfl) ?_
  have g := hS.out
  go_wp2_with fail
  refine (num7_c _ _).mono ?_
  rintro e wn ⟨rfl, rfl⟩
  go_wp2_with fail
  refine mix_out (Held.mk g) (fun hS => ?_)
  refine mix_take (v := ?_) 4 rfl (by decide) (by kernel_rfl) (by kernel_rfl) (fun _ _ _ h => h) hS rfl ?_ ?_
  rotate_left
  · (intro w' hw'; first | (go_simp; done) | (go_simp; with_reducible rfl) | (obtain ⟨q0, q1, q2, q3, q4, q5, q6⟩ := hw'.out; first | (go_simp; done) | (go_simp; with_reducible rfl)))
  simp only [Act.put, List.setIfInBounds_toArray, List.set_cons_zero, List.set_cons_succ]
  refine mix_step 5 rfl (by decide) (by kernel_rfl) ?_
  clear g
  have y0 := row_cell hE0.h2 0 rfl
  have y1 := row_cell hE0.h2 1 rfl
  have y2 := row_cell hE0.h2 2 rfl
  have y3 := row_cell hE0.h2 3 rfl
  have y4 := row_cell hE0.h2 4 rfl
  have y5 := row_cell hE0.h2 5 rfl
  have y6 := row_cell hE0.h2 6 rfl
  have z0 := row_fz hE0.h2
  go_wp2_with fail
  clear y0 y1 y2 y3 y4 y5 y6 z0
  have hq := store7 hE0.h2 (.int .i64 s'.room) (.string (strOf s'.f0)) (.string (strOf s'.f1)) (.int .i64 (s'.n0 : Int)) (.int .i64 (s'.n1 : Int)) (.int .i64 s'.now) (.int .i64 s'.left)
  have hg7 := grown7 w3 (w.heap.size + 1 + 1) (.int .i64 s'.room) (.string (strOf s'.f0)) (.string (strOf s'.f1)) (.int .i64 (s'.n0 : Int)) (.int .i64 (s'.n1 : Int)) (.int .i64 s'.now) (.int .i64 s'.left)
  have hE' := Lib.hid (hE0.stored2 hg7)
  have hD' := (hDE.past hg7 (by omega) hE0.h2 hq (Nat.le_refl _) row7_no).later (below_drew _)
  have hG' := grown_below (grown_past hGE hg7 (by omega)) (below_drew _)
  replace hq := Lib.hid hq
  refine mix_out (Held.mk ⟨row_cell_drew hE'.out 0 rfl, row_cell_drew hE'.out 1 rfl, row_cell_drew hE'.out 2 rfl, row_cell_drew hE'.out 3 rfl, row_cell_drew hE'.out 4 rfl, row_cell_drew hE'.out 5 rfl, row_cell_drew hE'.out 6 rfl⟩) (fun hS => ?_)
  refine mix_done (by kernel_rfl) ?_
  simp only [List.drop_succ_cons, List.drop_zero]
  go_wp2_with fail
  refine ret_RT (cs := #[.int .i64 s'.room, .string (strOf s'.f0), .string (strOf s'.f1), .int .i64 (s'.n0 : Int), .int .i64 (s'.n1 : Int), .int .i64 s'.now, .int .i64 s'.left]) rfl rfl (heap_drew' hq.out) rfl rfl ⟨by go_simp, hD', hG'⟩
set_option maxRecDepth 100000 in
set_option maxHeartbeats 1000000 in
theorem act_0 (b : Nat) (s s' : DS) (no : Int) (file n more : Int) (sa : Option Addr) (sn sc : Nat) (w : World) (bs : List UInt8) (h : IsD w b s) (hbs : IsB w sa sn sc bs) (hsn : sn ≤ 2000)
    (hr : ∀ W, IsB W sa sn sc bs → Calls Try.prog 44 #[RV s, .int .i64 file, .slice sa sn sc] W (Tells W (s', no))) (hd : ∀ W a c, IsD W b s → IsB W a sn c bs → (∀ ad', a = some ad' → 0 < c → ad'.block ≠ b) → Calls Try.prog 23 #[.pointer (some ⟨b, 0, none⟩), .int .i64 file, .slice a sn c] W fun e w' => e = .returned (.int .i64 no) ∧ IsD w' b s' ∧ W.grownBy w' (some b)) :
    Calls Try.prog 16 #[.pointer (some ⟨b, 0, none⟩), RV s, .agg #[.int .i64 0, .int .i64 file, .int .i64 n, .int .i64 more, .slice sa sn sc]] w fun e w' =>
      e = .returned (.tuple #[RV s', .bool true]) ∧ IsD w' b s' ∧ w.grownBy w' (some b) := by
  have HR := Lib.hid hr; clear hr
  have HD := Lib.hid hd; clear hd
  have HH := Lib.hid h
  have hblt := h.lt
  clear h
  unfold Tells RV at *
  go_enter Try.func16, Try.ntmps16
  go_wp2_with fail
  have hA := act_init w s #[.int .i64 0, .int .i64 file, .int .i64 n, .int .i64 more, .slice sa sn sc]
  obtain ⟨W0, hW0⟩ : ∃ W0, actW w s #[.int .i64 0, .int .i64 file, .int .i64 n, .int .i64 more, .slice sa sn sc] = W0 := ⟨_, rfl⟩
  rw [hW0] at hA
  unfold actW at hW0
  rw [hW0]
  clear hW0
  obtain ⟨hA, hB0⟩ := hA
  refine (HR.out _ (hbs.later hB0)).mono ?_
  rintro e w1 ⟨rfl, hb1⟩
  have hA1 := hA.later hb1
  have hB1 := below_then hB0 hb1
  clear hA hB0 hb1
  have f0 := row_cell hA1.h3 0 rfl
  have f1 := row_cell hA1.h3 1 rfl
  have f2 := row_cell hA1.h3 2 rfl
  have f3 := row_cell hA1.h3 3 rfl
  have f4 := row_cell hA1.h3 4 rfl
  have f5 := row_cell hA1.h3 5 rfl
  have f6 := row_cell hA1.h3 6 rfl
  have fz := row_fz hA1.h3
  have x0 := row_cell hA1.h1 0 rfl
  have x1 := row_cell hA1.h1 1 rfl
  have x2 := row_cell hA1.h1 2 rfl
  have x3 := row_cell hA1.h1 3 rfl
  have x4 := row_cell hA1.h1 4 rfl
  have hD1 := HH.out.later hB1
  go_wp2_with fail
  have hq := store7 hA1.h3 (.int .i64 s'.room) (.string (strOf s'.f0)) (.string (strOf s'.f1)) (.int .i64 (s'.n0 : Int)) (.int .i64 (s'.n1 : Int)) (.int .i64 s'.now) (.int .i64 s'.left)
  have hg7 := grown7 w1 (w.heap.size + 1 + 1 + 1) (.int .i64 s'.room) (.string (strOf s'.f0)) (.string (strOf s'.f1)) (.int .i64 (s'.n0 : Int)) (.int .i64 (s'.n1 : Int)) (.int .i64 s'.now) (.int .i64 s'.left)
  clear f0 f1 f2 f3 f4 f5 f6 fz x0 x1 x2 x3 x4
  obtain ⟨w2, hw2⟩ : ∃ w2, (((((((w1.setCell ⟨w.heap.size + 1 + 1 + 1, 0, none⟩ (.int .i64 s'.room)).setCell ⟨w.heap.size + 1 + 1 + 1, 1, none⟩ (.string (strOf s'.f0))).setCell ⟨w.heap.size + 1 + 1 + 1, 2, none⟩ (.string (strOf s'.f1))).setCell ⟨w.heap.size + 1 + 1 + 1, 3, none⟩ (.int .i64 (s'.n0 : Int))).setCell ⟨w.heap.size + 1 + 1 + 1, 4, none⟩ (.int .i64 (s'.n1 : Int))).setCell ⟨w.heap.size + 1 + 1 + 1, 5, none⟩ (.int .i64 s'.now)).setCell ⟨w.heap.size + 1 + 1 + 1, 6, none⟩ (.int .i64 s'.left)) = w2 := ⟨_, rfl⟩
  rw [hw2] at hq hg7 ⊢
  clear hw2
  have hD2 := hD1.past hg7 (by omega) hA1.h3 hq (Nat.le_refl _) row7_no
  have hA2 := hA1.stored hg7 hq
  have hB2 := below_grown hB1 hg7 (by omega) (Nat.le_refl _)
  clear hA1 hB1 hD1 hg7 hq
  refine mix_begin 8 (Held fun w' => w'.cell? ⟨w.heap.size + 1, 1, none⟩ = some (.int .i64 file) ∧ w'.cell? ⟨w.heap.size + 1, 4, none⟩ = some (.slice sa sn sc)) (by kernel_rfl) (by kernel_rfl) (Held.mk ⟨row_cell_drew hA2.h1 1 rfl, row_cell_drew hA2.h1 4 rfl⟩) (fun hS => ?_)
  refine mix_take (v := ?_) 0 rfl (by decide) (by kernel_rfl) (by kernel_rfl) (fun _ _ _ h => h) hS rfl ?_ ?_
  rotate_left
  · (intro w' hw'; first | (go_simp; done) | (go_simp; with_reducible rfl) | (obtain ⟨q0, q1⟩ := hw'.out; first | (go_simp; done) | (go_simp; with_reducible rfl)))
  simp only [Act.put, List.setIfInBounds_toArray, List.set_cons_zero, List.set_cons_succ]
  refine mix_take (v := ?_) 1 rfl (by decide) (by kernel_rfl) (by kernel_rfl) (fun _ _ _ h => h) hS rfl ?_ ?_
  rotate_left
  · (intro w' hw'; first | (go_simp; done) | (go_simp; with_reducible rfl) | (obtain ⟨q0, q1⟩ := hw'.out; first | (go_simp; done) | (go_simp; with_reducible rfl)))
  simp only [Act.put, List.setIfInBounds_toArray, List.set_cons_zero, List.set_cons_succ]
  refine mix_take (v := ?_) 2 rfl (by decide) (by kernel_rfl) (by kernel_rfl) (fun _ _ _ h => h) hS rfl ?_ ?_
  rotate_left
  · (intro w' hw'; first | (go_simp; done) | (go_simp; with_reducible rfl) | (obtain ⟨q0, q1⟩ := hw'.out; first | (go_simp; done) | (go_simp; with_reducible rfl)))
  simp only [Act.put, List.setIfInBounds_toArray, List.set_cons_zero, List.set_cons_succ]
  refine mix_take (v := ?_) 4 rfl (by decide) (by kernel_rfl) (by kernel_rfl) (fun _ _ _ h => h) hS rfl ?_ ?_
  rotate_left
  · (intro w' hw'; first | (go_simp; done) | (go_simp; with_reducible rfl) | (obtain ⟨q0, q1⟩ := hw'.out; first | (go_simp; done) | (go_simp; with_reducible rfl)))
  simp only [Act.put, List.setIfInBounds_toArray, List.set_cons_zero, List.set_cons_succ]
  refine mix_take (v := ?_) 5 rfl (by decide) (by kernel_rfl) (by kernel_rfl) (fun _ _ _ h => h) hS rfl ?_ ?_
  rotate_left
  · (intro w' hw'; first | (go_simp; done) | (go_simp; with_reducible rfl) | (obtain ⟨q0, q1⟩ := hw'.out; first | (go_simp; done) | (go_simp; with_reducible rfl)))
  simp only [Act.put, List.setIfInBounds_toArray, List.set_cons_zero, List.set_cons_succ]
  refine mix_step 3 rfl (by decide) (by kernel_rfl) ?_
  have hbk := below_alloc w2 (.cells #[] 5)
  have hnew := ownB_new w2 5 [] (by decide) (cs := #[]) rfl
  have hA3 := hA2.later hbk
  go_wp2_with fail
  refine mix_out (Held.mk ⟨row_cell_drew hA3.h1 1 rfl, row_cell_drew hA3.h1 4 rfl⟩) (fun hS => ?_)
  refine mix_step 6 rfl (by decide) (by kernel_rfl) ?_
  have hs3 := (hbs.later hB2).later hbk
  refine wpList_append_bs rfl _ _ 36 rfl w2.heap.size 5 _ Try.underlying36 infoU8 rfl [] rfl hnew _ sn sc bs rfl hs3 (by simp; omega) (by simp) ?_
  intro a5 c5 w5 ho5 hb5' _
  have hb5 := (Below.drew hbk).trans hb5'
  clear hb5'
  have hA5 := hA2.later hb5
  go_wp2_with fail
  refine mix_out (Held.mk ⟨row_cell hA5.h1 1 rfl, row_cell hA5.h1 4 rfl⟩) (fun hS => ?_)
  refine mix_step 7 rfl (by decide) (by kernel_rfl) ?_
  have hne5 : ∀ ad', a5 = some ad' → 0 < c5 → ad'.block ≠ b := fun ad' had _ => by have h1 := own_block ho5 ad' had; have h2 := hD2.lt; omega
  have hs5 := ho5.isB
  rw [List.nil_append] at hs5
  simp only [Nat.zero_add] at hs5 ⊢
  go_wp2_with fail
  refine (HD.out _ _ _ (hD2.later hb5) hs5 hne5).mono ?_
  rintro e w3 ⟨rfl, hDE, hg3⟩
  have hE := hA5.grown hg3 hblt
  have hGE := grown_trans (grown_of_below (r := some b) (below_then hB2 hb5)) hg3
  clear hA2 hA3 hA5 hB2 hD2 hg3 hbk hb5 hs5 ho5 hne5 hnew
  go_wp2_with fail
  refine mix_out (Held.mk ⟨row_cell hE.h1 1 rfl, row_cell hE.h1 4 rfl⟩) (fun hS => ?_)
  refine mix_done (by kernel_rfl) ?_
  simp only [List.drop_succ_cons, List.drop_zero]
  clear hS
  go_wp2_with fail
  have hE0 := hE
  replace hE := hE.later (below_drew w3)
  refine mix_begin 6 (Held fun w' => w'.cell? ⟨w.heap.size + 1 + 1 + 1, 0, none⟩ = some (.int .i64 s'.room) ∧ w'.cell? ⟨w.heap.size + 1 + 1 + 1, 1, none⟩ = some (.string (strOf s'.f0)) ∧ w'.cell? ⟨w.heap.size + 1 + 1 + 1, 2, none⟩ = some (.string (strOf s'.f1)) ∧ w'.cell? ⟨w.heap.size + 1 + 1 + 1, 3, none⟩ = some (.int .i64 (s'.n0 : Int)) ∧ w'.cell? ⟨w.heap.size + 1 + 1 + 1, 4, none⟩ = some (.int .i64 (s'.n1 : Int)) ∧ w'.cell? ⟨w.heap.size + 1 + 1 + 1, 5, none⟩ = some (.int .i64 s'.now) ∧ w'.cell? ⟨w.heap.size + 1 + 1 + 1, 6, none⟩ = some (.int .i64 s'.left)) (by kernel_rfl) (by kernel_rfl) (Held.mk ⟨row_cell hE.h3 0 rfl, row_cell hE.h3 1 rfl, row_cell hE.h3 2 rfl, row_cell hE.h3 3 rfl, row_cell hE.h3 4 rfl, row_cell hE.h3 5 rfl, row_cell hE.h3 6 rfl⟩) (fun hS => ?_)
  refine mix_take (v := ?_) 0 rfl (by decide) (by kernel_rfl) (by kernel_rfl) (fun _ _ _ h => h) hS rfl ?_ ?_
  rotate_left
  · (intro w' hw'; first | (go_simp; done) | (go_simp; with_reducible rfl) | (obtain ⟨q0, q1, q2, q3, q4, q5, q6⟩ := hw'.out; first | (go_simp; done) | (go_simp; with_reducible rfl)))
  simp only [Act.put, List.setIfInBounds_toArray, List.set_cons_zero, List.set_cons_succ]
  refine mix_take (v := ?_) 1 rfl (by decide) (by kernel_rfl) (by kernel_rfl) (fun _ _ _ h => h) hS rfl ?_ ?_
  rotate_left
  · (intro w' hw'; first | (go_simp; done) | (go_simp; with_reducible rfl) | (obtain ⟨q0, q1, q2, q3, q4, q5, q6⟩ := hw'.out; first | (go_simp; done) | (go_simp; with_reducible rfl)))
  simp only [Act.put, List.setIfInBounds_toArray, List.set_cons_zero, List.set_cons_succ]
  refine mix_take (v := ?_) 3 rfl (by decide) (by kernel_rfl) (by kernel_rfl) (fun _ _ _ h => h) hS rfl ?_ ?_
  rotate_left
  · (intro w' hw'; first | (go_simp; done) | (go_simp; with_reducible rfl) | (obtain ⟨q0, q1, q2, q3, q4, q5, q6⟩ := hw'.out; first | (go_simp; done) | (go_simp; with_reducible rfl)))
  simp only [Act.put, List.setIfInBounds_toArray, List.set_cons_zero, List.set_cons_succ]
  refine mix_step 2 rfl (by decide) (by kernel_rfl) ?_
  have g := hS.out
  go_wp2_with fail
  refine (num7_c _ _).mono ?_
  rintro e wn ⟨rfl, rfl⟩
  go_wp2_with fail
  refine mix_out (Held.mk g) (fun hS => ?_)
  refine mix_take (v := ?_) 4 rfl (by decide) (by kernel_rfl) (by kernel_rfl) (fun _ _ _ h => h) hS rfl ?_ ?_
  rotate_left
  · (intro w' hw'; first | (go_simp; done) | (go_simp; with_reducible rfl) | (obtain ⟨q0, q1, q2, q3, q4, q5, q6⟩ := hw'.out; first | (go_simp; done) | (go_simp; with_reducible rfl)))
  simp only [Act.put, List.setIfInBounds_toArray, List.set_cons_zero, List.set_cons_succ]
  refine mix_step 5 rfl (by decide) (by kernel_rfl) ?_
  clear g
  have y0 := row_cell hE0.h2 0 rfl
  have y1 := row_cell hE0.h2 1 rfl
  have y2 := row_cell hE0.h2 2 rfl
  have y3 := row_cell hE0.h2 3 rfl
  have y4 := row_cell hE0.h2 4 rfl
  have y5 := row_cell hE0.h2 5 rfl
  have y6 := row_cell hE0.h2 6 rfl
  have z0 := row_fz hE0.h2
  go_wp2_with fail
  clear y0 y1 y2 y3 y4 y5 y6 z0
  have hq := store7 hE0.h2 (.int .i64 s'.room) (.string (strOf s'.f0)) (.string (strOf s'.f1)) (.int .i64 (s'.n0 : Int)) (.int .i64 (s'.n1 : Int)) (.int .i64 s'.now) (.int .i64 s'.left)
  have hg7 := grown7 w3 (w.heap.size + 1 + 1) (.int .i64 s'.room) (.string (strOf s'.f0)) (.string (strOf s'.f1)) (.int .i64 (s'.n0 : Int)) (.int .i64 (s'.n1 : Int)) (.int .i64 s'.now) (.int .i64 s'.left)
  have hE' := Lib.hid (hE0.stored2 hg7)
  have hD' := (hDE.past hg7 (by omega) hE0.h2 hq (Nat.le_refl _) row7_no).later (below_drew _)
  have hG' := grown_below (grown_past hGE hg7 (by omega)) (below_drew _)
  replace hq := Lib.hid hq
  refine mix_out (Held.mk ⟨row_cell_drew hE'.out 0 rfl, row_cell_drew hE'.out 1 rfl, row_cell_drew hE'.out 2 rfl, row_cell_drew hE'.out 3 rfl, row_cell_drew hE'.out 4 rfl, row_cell_drew hE'.out 5 rfl, row_cell_drew hE'.out 6 rfl⟩) (fun hS => ?_)
  refine mix_done (by kernel_rfl) ?_
  simp only [List.drop_succ_cons, List.drop_zero]
  go_wp2_with fail
  refine ret_RT (cs := #[.int .i64 s'.room, .string (strOf s'.f0), .string (strOf s'.f1), .int .i64 (s'.n0 : Int), .int .i64 (s'.n1 : Int), .int .i64 s'.now, .int .i64 s'.left]) rfl rfl (heap_drew' hq.out) rfl rfl ⟨by go_simp, hD', hG'⟩
set_option maxRecDepth 100000 in
set_option maxHeartbeats 1000000 in
theorem act_6 (b : Nat) (s' : DS) (what file n more : Int) (sa : Option Addr) (sn sc : Nat) (w : World) (h : IsD w b s') (hw0 : what ≠ 0) (hw1 : what ≠ 1) (hw2 : what ≠ 2) (hw3 : what ≠ 3) (hw4 : what ≠ 4) (hw5 : what ≠ 5) :
    Calls Try.prog 16 #[.pointer (some ⟨b, 0, none⟩), RV s', .agg #[.int .i64 what, .int .i64 file, .int .i64 n, .int .i64 more, .slice sa sn sc]] w fun e w' =>
      e = .returned (.tuple #[RV s', .bool true]) ∧ IsD w' b s' ∧ w.grownBy w' (some b) := by
  have hblt := h.lt
  replace hw0 : (what == 0) = false := by simpa using hw0
  replace hw1 : (what == 1) = false := by simpa using hw1
  replace hw2 : (what == 2) = false := by simpa using hw2
  replace hw3 : (what == 3) = false := by simpa using hw3
  replace hw4 : (what == 4) = false := by simpa using hw4
  replace hw5 : (what == 5) = false := by simpa using hw5
  have HH := Lib.hid h
  clear h
  unfold RV at *
  have hA := act_init w s' #[.int .i64 what, .int .i64 file, .int .i64 n, .int .i64 more, .slice sa sn sc]
  obtain ⟨w3, hw3'⟩ : ∃ w3, actW w s' #[.int .i64 what, .int .i64 file, .int .i64 n, .int .i64 more, .slice sa sn sc] = w3 := ⟨_, rfl⟩
  rw [hw3'] at hA
  unfold actW at hw3'
  obtain ⟨hE, hB0⟩ := hA
  have HE := Lib.hid hE
  have HW := Lib.hid hw3'
  clear hE hw3'
  go_enter Try.func16, Try.ntmps16
  go_wp2_with fail
  rw [HW.out]
  have hE := HE.out
  have hDE := HH.out.later hB0
  have hGE := grown_of_below (r := some b) hB0
  have hE0 := hE
  replace hE := hE.later (below_drew w3)
  refine mix_begin 6 (Held fun w' => w'.cell? ⟨w.heap.size + 1 + 1 + 1, 0, none⟩ = some (.int .i64 s'.room) ∧ w'.cell? ⟨w.heap.size + 1 + 1 + 1, 1, none⟩ = some (.string (strOf s'.f0)) ∧ w'.cell? ⟨w.heap.size + 1 + 1 + 1, 2, none⟩ = some (.string (strOf s'.f1)) ∧ w'.cell? ⟨w.heap.size + 1 + 1 + 1, 3, none⟩ = some (.int .i64 (s'.n0 : Int)) ∧ w'.cell? ⟨w.heap.size + 1 + 1 + 1, 4, none⟩ = some (.int .i64 (s'.n1 : Int)) ∧ w'.cell? ⟨w.heap.size + 1 + 1 + 1, 5, none⟩ = some (.int .i64 s'.now) ∧ w'.cell? ⟨w.heap.size + 1 + 1 + 1, 6, none⟩ = some (.int .i64 s'.left)) (by kernel_rfl) (by kernel_rfl) (Held.mk ⟨row_cell hE.h3 0 rfl, row_cell hE.h3 1 rfl, row_cell hE.h3 2 rfl, row_cell hE.h3 3 rfl, row_cell hE.h3 4 rfl, row_cell hE.h3 5 rfl, row_cell hE.h3 6 rfl⟩) (fun hS => ?_)
  refine mix_take (v := ?_) 0 rfl (by decide) (by kernel_rfl) (by kernel_rfl) (fun _ _ _ h => h) hS rfl ?_ ?_
  rotate_left
  · (intro w' hw'; first | (go_simp; done) | (go_simp; with_reducible rfl) | (obtain ⟨q0, q1, q2, q3, q4, q5, q6⟩ := hw'.out; first | (go_simp; done) | (go_simp; with_reducible rfl)))
  simp only [Act.put, List.setIfInBounds_toArray, List.set_cons_zero, List.set_cons_succ]
  refine mix_take (v := ?_) 1 rfl (by decide) (by kernel_rfl) (by kernel_rfl) (fun _ _ _ h => h) hS rfl ?_ ?_
  rotate_left
  · (intro w' hw'; first | (go_simp; done) | (go_simp; with_reducible rfl) | (obtain ⟨q0, q1, q2, q3, q4, q5, q6⟩ := hw'.out; first | (go_simp; done) | (go_simp; with_reducible rfl)))
  simp only [Act.put, List.setIfInBounds_toArray, List.set_cons_zero, List.set_cons_succ]
  refine mix_take (v := ?_) 3 rfl (by decide) (by kernel_rfl) (by kernel_rfl) (fun _ _ _ h => h) hS rfl ?_ ?_
  rotate_left
  · (intro w' hw'; first | (go_simp; done) | (go_simp; with_reducible rfl) | (obtain ⟨q0, q1, q2, q3, q4, q5, q6⟩ := hw'.out; first | (go_simp; done) | (go_simp; with_reducible rfl)))
  simp only [Act.put, List.setIfInBounds_toArray, List.set_cons_zero, List.set_cons_succ]
  refine mix_step 2 rfl (by decide) (by kernel_rfl) ?_
  have g := hS.out
  go_wp2_with fail
  refine (num7_c _ _).mono ?_
  rintro e wn ⟨rfl, rfl⟩
  go_wp2_with fail
  refine mix_out (Held.mk g) (fun hS => ?_)
  refine mix_take (v := ?_) 4 rfl (by decide) (by kernel_rfl) (by kernel_rfl) (fun _ _ _ h => h) hS rfl ?_ ?_
  rotate_left
  · (intro w' hw'; first | (go_simp; done) | (go_simp; with_reducible rfl) | (obtain ⟨q0, q1, q2, q3, q4, q5, q6⟩ := hw'.out; first | (go_simp; done) | (go_simp; with_reducible rfl)))
  simp only [Act.put, List.setIfInBounds_toArray, List.set_cons_zero, List.set_cons_succ]
  refine mix_step 5 rfl (by decide) (by kernel_rfl) ?_
  clear g
  have y0 := row_cell hE0.h2 0 rfl
  have y1 := row_cell hE0.h2 1 rfl
  have y2 := row_cell hE0.h2 2 rfl
  have y3 := row_cell hE0.h2 3 rfl
  have y4 := row_cell hE0.h2 4 rfl
  have y5 := row_cell hE0.h2 5 rfl
  have y6 := row_cell hE0.h2 6 rfl
  have z0 := row_fz hE0.h2
  go_wp2_with fail
  clear y0 y1 y2 y3 y4 y5 y6 z0
  have hq := store7 hE0.h2 (.int .i64 s'.room) (.string (strOf s'.f0)) (.string (strOf s'.f1)) (.int .i64 (s'.n0 : Int)) (.int .i64 (s'.n1 : Int)) (.int .i64 s'.now) (.int .i64 s'.left)
  have hg7 := grown7 w3 (w.heap.size + 1 + 1) (.int .i64 s'.room) (.string (strOf s'.f0)) (.string (strOf s'.f1)) (.int .i64 (s'.n0 : Int)) (.int .i64 (s'.n1 : Int)) (.int .i64 s'.now) (.int .i64 s'.left)
  have hE' := Lib.hid (hE0.stored2 hg7)
  have hD' := (hDE.past hg7 (by omega) hE0.h2 hq (Nat.le_refl _) row7_no).later (below_drew _)
  have hG' := grown_below (grown_past hGE hg7 (by omega)) (below_drew _)
  replace hq := Lib.hid hq
  refine mix_out (Held.mk ⟨row_cell_drew hE'.out 0 rfl, row_cell_drew hE'.out 1 rfl, row_cell_drew hE'.out 2 rfl, row_cell_drew hE'.out 3 rfl, row_cell_drew hE'.out 4 rfl, row_cell_drew hE'.out 5 rfl, row_cell_drew hE'.out 6 rfl⟩) (fun hS => ?_)
  refine mix_done (by kernel_rfl) ?_
  simp only [List.drop_succ_cons, List.drop_zero]
  go_wp2_with fail
  refine ret_RT (cs := #[.int .i64 s'.room, .string (strOf s'.f0), .string (strOf s'.f1), .int .i64 (s'.n0 : Int), .int .i64 (s'.n1 : Int), .int .i64 s'.now, .int .i64 s'.left]) rfl rfl (heap_drew' hq.out) rfl rfl ⟨by go_simp, hD', hG'⟩
theorem act_all (b : Nat) (s : DS) (x : AV) (w : World) (h : IsD w b s) (hg : s.good) (hx : x.at w) (hb : x.bs.length ≤ 2000) :
    Calls Try.prog 16 #[.pointer (some ⟨b, 0, none⟩), RV s, .agg #[.int .i64 x.what, .int .i64 x.file, .int .i64 x.n, .int .i64 x.more, .slice x.sa x.sn x.sc]] w fun e w' =>
      e = .returned (.tuple #[RV (s.does x).1, .bool true]) ∧ IsD w' b (s.does x).1 ∧ w.grownBy w' (some b) := by
  obtain ⟨what, file, n, more, sa, sn, sc, bs⟩ := x
  obtain ⟨hbs, hln⟩ := hx
  dsimp only at *
  have hsn := hbs.len
  unfold DS.does
  dsimp only
  obtain ⟨hf, hnow, hleft, hroom⟩ := hg
  by_cases h0 : what = 0
  · subst h0
    rw [if_pos rfl]
    refine act_0 b s _ (s.append file bs).2 file n more sa sn sc w bs h hbs (by omega) ?_ ?_
    · intro W hB
      exact rappend_all s file sa sn sc bs W hB (by omega) hroom hleft
    · intro W a c hW hB hne
      exact append_all b s file W hW hleft hroom a sn c bs hB (by omega) hf hne
  rw [if_neg h0]
  by_cases h1 : what = 1
  · subst h1
    rw [if_pos rfl]
    exact act_1 b s _ (s.sync file).2 file n more sa sn sc w h (fun W => rsync_all s file W hleft) (fun W hW => sync_c b s file W hW hleft)
  rw [if_neg h1]
  by_cases h2 : what = 2
  · subst h2
    rw [if_pos rfl]
    exact act_2 b s _ (s.cut file n).2 file n more sa sn sc w h (fun W => rcut_all s file n W hleft) (fun W hW => cut_all b s file n W hW hleft hf)
  rw [if_neg h2]
  by_cases h3 : what = 3
  · subst h3
    rw [if_pos rfl]
    exact act_3 b s _ s.switch.2 file n more sa sn sc w h (fun W => rswitch_all s W hleft hnow) (fun W hW => switch_c b s W hW hnow hleft)
  rw [if_neg h3]
  by_cases h4 : what = 4
  · subst h4
    rw [if_pos rfl]
    exact act_4 b s _ (s.stop n).2 file n more sa sn sc w h (fun W => rstop_all s n W) (fun W hW => stop_c b s n W hW)
  rw [if_neg h4]
  by_cases h5 : what = 5
  · subst h5
    rw [if_pos rfl]
    exact act_5 b s _ (s.crash n more).2 file n more sa sn sc w h (fun W => rcrash_all s n more W hf) (fun W hW => crash_all b s n more W hW hf)
  rw [if_neg h5]
  exact act_6 b s what file n more sa sn sc w h h0 h1 h2 h3 h4 h5
end Go.Proofs.Ytpobnbiakneoiaa
