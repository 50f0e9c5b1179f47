import Derived.Test.YtknndpncdnhnpaaFrC
import Derived.Test.YtknndpncdnhnpaaDiskAC
import Derived.Test.YtknndpncdnhnpaaIterW
namespace Go.Proofs.Ytknndpncdnhnpaa
open Go.RowKit Go.Cas
set_option linter.unusedSimpArgs false
set_option linter.unusedVariables false
attribute [local go_sem] Oper.semAt_some

theorem row_cell {w : World} {g : Nat} {cs : Array Value} {t : TypeId} {fr : Nat × Nat} (h : w.heap[g]? = some (.cells cs t fr)) (i : Nat) {v : Value} (hv : cs[i]? = some v) : w.cell? ⟨g, i, none⟩ = some v := by simp [World.cell?, h, hv]
theorem row_cell_drew {w : World} {g : Nat} {cs : Array Value} {t : TypeId} {fr : Nat × Nat} (h : w.heap[g]? = some (.cells cs t fr)) (i : Nat) {v : Value} (hv : cs[i]? = some v) : w.drew.cell? ⟨g, i, none⟩ = some v := row_cell (w := w.drew) h i hv
theorem row_fz {w : World} {g : Nat} {cs : Array Value} {t : TypeId} (h : w.heap[g]? = some (.cells cs t (0, 0))) (i : Nat) : w.frozen? ⟨g, i, none⟩ = false := by simp [World.frozen?, h]
theorem row_later {w w' : World} {g : Nat} {o : Obj} (h : w.heap[g]? = some o) (hb : Below w.heap.size w w') : w'.heap[g]? = some o := (hb.block _ (Array.getElem?_eq_some_iff.1 h).1).trans h
theorem row_grown {w w' : World} {g b : Nat} {o : Obj} (h : w.heap[g]? = some o) (hb : w.grownBy w' (some b)) (hn : g ≠ b) : w'.heap[g]? = some o := (hb.block _ (Array.getElem?_eq_some_iff.1 h).1 (by intro e; exact hn (Option.some.inj e))).trans h
theorem row_lt {w : World} {g : Nat} {o : Obj} (h : w.heap[g]? = some o) : g < w.heap.size := (Array.getElem?_eq_some_iff.1 h).1
/-- a journal in its block -/
def JC (w : World) (jb b : Nat) (file : Int) : Prop := w.heap[jb]? = some (.cells #[.pointer (some ⟨b, 0, none⟩), .int .i64 file] 59 (0, 0))
theorem jnone_c (jb b : Nat) (file : Int) (w : World) (h : JC w jb b file) : Calls Try.prog 33 #[.pointer (some ⟨jb, 0, none⟩)] w fun e w' => e = .returned (.bool false) ∧ w = w' := by
  have hc := row_cell h 0 rfl
  go_enter Try.func33, Try.ntmps33
  go_wp2
  go_ret
  exact ⟨rfl, rfl⟩
/-- no journal -/
def NoJ (w : World) (v : Value) : Prop := v = .pointer none ∨ ∃ jb, v = .pointer (some ⟨jb, 0, none⟩) ∧ w.cell? ⟨jb, 0, none⟩ = some (.pointer none)
theorem NoJ.later {w w' : World} {v : Value} (h : NoJ w v) (hb : Below w.heap.size w w') : NoJ w' v := by
  rcases h with h | ⟨b, h, hc⟩
  · exact .inl h
  · exact .inr ⟨b, h, below_cell hb hc⟩
theorem jnone_no (v : Value) (w : World) (h : NoJ w v) : Calls Try.prog 33 #[v] w fun e w' => e = .returned (.bool true) ∧ w = w' := by
  rcases h with rfl | ⟨jb, rfl, hc⟩
  all_goals
    go_enter Try.func33, Try.ntmps33
    go_wp2
    go_ret
    exact ⟨rfl, rfl⟩
theorem pread_c (b : Nat) (s : DS) (file : Int) (w : World) (h : IsD w b s) (hf : s.fine) (hok : fileOk file = true) : Calls Try.prog 50 #[.agg #[.pointer (some ⟨b, 0, none⟩), .int .i64 file]] w (RetB 5 w (s.fl file)) := by
  have hb0 := below_alloc w (.cells #[.pointer (some ⟨b, 0, none⟩), .int .i64 file] 57)
  have hr := dread_c b s file _ (h.later hb0) hf hok
  clear h
  go_enter Try.func50, Try.ntmps50
  go_wp2_with fail
  refine hr.mono ?_
  rintro e w1 ⟨v, rfl, ho, hb1⟩
  go_wp2_with fail
  go_ret
  exact ⟨_, rfl, OwnB.mono ho hb0.size, below_then hb0 hb1⟩
def jopen (s : DS) (file : Int) : DS × Int := if fileOk file = true then (if wholeB (s.fl file) = (s.fl file).length then (s, 0) else s.cut file (wholeB (s.fl file) : Int)) else (s, 2)
theorem framesF_le : ∀ (k at_ : Nat) (l : List UInt8), (framesF k at_ l).2 ≤ at_ + l.length
  | 0, at_, l => by rw [framesF]; exact Nat.le_add_right _ _
  | k + 1, at_, l => by
    rw [framesF]
    split
    · rename_i h0
      have hb := ((openB_bound l).1 h0).2.1
      have := framesF_le k (at_ + (openB l).2.1) (l.drop (openB l).2.1)
      rw [List.length_drop] at this
      dsimp only
      omega
    · exact Nat.le_add_right _ _
theorem wholeB_le (l : List UInt8) : wholeB l ≤ l.length := by
  have := framesF_le (l.length + 1) 0 l
  unfold wholeB
  omega
/-- what Open tells -/
def Opened (w : World) (b : Nat) (file : Int) (r : DS × Int) (e : Ending) (w' : World) : Prop :=
  ((r.2 = 0 ∧ ∃ jb, e = .returned (.tuple #[.pointer (some ⟨jb, 0, none⟩), .int .i64 0]) ∧ JC w' jb b file ∧ w.heap.size ≤ jb) ∨ (r.2 ≠ 0 ∧ e = .returned (.tuple #[.pointer none, .int .i64 r.2]))) ∧ IsD w' b r.1 ∧ w.grownBy w' (some b)
theorem build_place (p : Option Addr) (z : Int) (w : World) : (Instr.build 57 #[(0, .pointer p), (1, .int .i64 z)]).run Try.prog w = .ok (.agg #[.pointer p, .int .i64 z]) w := by kernel_rfl
theorem build_jou (x y : Value) (w : World) : (Instr.build 59 #[(0, .agg #[x, y])]).run Try.prog w = .ok (.agg #[x, y]) w := by kernel_rfl
theorem wholeB_nil : wholeB [] = 0 := by have := wholeB_le []; simpa using this
set_option maxRecDepth 100000 in
set_option maxHeartbeats 1000000 in
theorem jopen_bad (b : Nat) (s : DS) (file : Int) (w : World) (h : IsD w b s) (hok : fileOk file = false) : Calls Try.prog 10 #[.pointer (some ⟨b, 0, none⟩), .int .i64 file] w fun e w' => e = .returned (.tuple #[.pointer none, .int .i64 2]) ∧ Below w.heap.size w w' := by
  have h1 := build_place
  have h2 := build_jou
  have hb0 := below_alloc w (.cells #[.pointer (some ⟨b, 0, none⟩), .int .i64 file] 59)
  have hr := read2 (.pointer (some ⟨b, 0, none⟩)) file _ (h.later hb0).noneIs hok
  clear h
  go_enter Try.func10, Try.ntmps10
  go_wp2_with fail
  refine wp_scope_ahead 0 (fun a1 w1 => ∃ T : Array Value, T.size = 38 ∧ T[8]? = some (.int .i64 2) ∧ a1 = { tmps := T, defers := [] } ∧ Below w.heap.size w w1) rfl ?_ ?_
  · go_wp2_with fail
    refine hr.mono ?_
    rintro e w1 ⟨rfl, hb1⟩
    have hwh := whole_c none 0 0 [] (by decide) w1 (IsB.nil w1)
    rw [wholeB_nil] at hwh
    go_wp2_with fail
    refine hwh.mono ?_
    rintro e w2 ⟨rfl, hb2⟩
    go_wp2_with fail
    go_step3
    simp only [Exit.then]
    exact ⟨rfl, _, by rfl, by rfl, rfl, below_then (below_then hb0 hb1) hb2⟩
  · rintro a1 w1 ⟨T, hT, h4, rfl, hb⟩
    obtain ⟨l⟩ := T
    match l, hT, h4 with
    | t0 :: t1 :: t2 :: t3 :: t4 :: t5 :: t6 :: t7 :: t8 :: t9 :: t10 :: t11 :: t12 :: t13 :: t14 :: t15 :: t16 :: t17 :: t18 :: t19 :: t20 :: t21 :: t22 :: t23 :: t24 :: t25 :: t26 :: t27 :: t28 :: t29 :: t30 :: t31 :: t32 :: t33 :: t34 :: t35 :: t36 :: t37 :: [], _, h4 =>
      obtain rfl : t8 = .int .i64 2 := by simpa using h4
      clear h4
      go_wp2_with fail
      simp only [jump_ret]
      go_ret2
      exact ⟨by rfl, hb⟩
set_option maxRecDepth 100000 in
set_option maxHeartbeats 1000000 in
theorem jopen_c (b : Nat) (s : DS) (file : Int) (w : World) (h : IsD w b s) (hg : s.good) (hok : fileOk file = true) : Calls Try.prog 10 #[.pointer (some ⟨b, 0, none⟩), .int .i64 file] w (Opened w b file (jopen s file)) := by
  have h1 := build_place
  have h2 := build_jou
  have hb0 := below_alloc w (.cells #[.pointer (some ⟨b, 0, none⟩), .int .i64 file] 59)
  have hnew := heap_alloc_new w (.cells #[.pointer (some ⟨b, 0, none⟩), .int .i64 file] 59)
  have hd0 := h.later hb0
  have hr := dread_c b s file _ hd0 hg.1 hok
  have hblt := h.lt
  have hbig := fl_big hg.1 file
  have hle := wholeB_le (s.fl file)
  have hjo : jopen s file = if wholeB (s.fl file) = (s.fl file).length then (s, 0) else s.cut file (wholeB (s.fl file) : Int) := by unfold jopen; rw [if_pos hok]
  have HD := Lib.hid hd0
  have HNEW := Lib.hid hnew
  clear h hd0 hnew
  obtain ⟨F, hF⟩ : ∃ F, s.fl file = F := ⟨_, rfl⟩
  rw [hF] at hr hbig hle hjo
  clear hF
  by_cases hw : wholeB F = F.length
  · rw [if_pos hw] at hjo
    have HJ := Lib.hid hjo
    clear hjo
    go_enter Try.func10, Try.ntmps10
    go_wp2_with fail
    refine wp_scope_straight ?_
    go_wp2_with fail
    refine hr.mono ?_
    rintro e w1 ⟨v, rfl, ho, hb1⟩
    obtain ⟨a1, n1, c1, rfl, hs1⟩ := ho.slice'
    have hn1 := hs1.len
    subst hn1
    have hwh := whole_c a1 _ c1 F hbig w1 hs1
    rw [hw] at hwh
    have HW := Lib.hid hwh
    clear hwh hw hr
    go_wp2_with fail
    refine HW.out.mono ?_
    rintro e w2 ⟨rfl, hb2⟩
    go_wp2_with fail
    rw [Exit.noGoto_ret]
    go_ret2
    have hb12 := below_then hb1 hb2
    rw [HJ.out]
    exact ⟨.inl ⟨rfl, w.heap.size, by rfl, row_later HNEW.out hb12, Nat.le_refl _⟩, HD.out.later hb12, grown_of_below (below_then hb0 hb12)⟩
  · rw [if_neg hw] at hjo
    have hcut := fun W hW => cut_all b s file (wholeB F : Int) W hW hg.2.2.1 hg.1
    rw [← hjo] at hcut
    have HCUT := Lib.hid hcut
    clear hcut hjo
    obtain ⟨r, hr2⟩ : ∃ r, jopen s file = r := ⟨_, rfl⟩
    rw [hr2] at HCUT ⊢
    clear hr2
    obtain ⟨s', no⟩ := r
    dsimp only at HCUT
    by_cases hno : no = 0
    · subst hno
      go_enter Try.func10, Try.ntmps10
      go_wp2_with fail
      refine wp_scope_straight ?_
      go_wp2_with fail
      refine hr.mono ?_
      rintro e w1 ⟨v, rfl, ho, hb1⟩
      obtain ⟨a1, n1, c1, rfl, hs1⟩ := ho.slice'
      have hn1 := hs1.len
      subst hn1
      have hwh := whole_c a1 _ c1 F hbig w1 hs1
      have hne : ((wholeB F : Int) == (F.length : Int)) = false := by simp; omega
      generalize wholeB F = wb at *
      have HW := Lib.hid hwh
      clear hwh hw hr
      go_wp2_with fail
      refine HW.out.mono ?_
      rintro e w2 ⟨rfl, hb2⟩
      have hb12 := below_then hb1 hb2
      go_wp2_with fail
      refine (HCUT.out _ (HD.out.later hb12)).mono ?_
      rintro e w3 ⟨rfl, hd3, hg3⟩
      go_wp2_with fail
      rw [Exit.noGoto_ret]
      go_ret2
      exact ⟨.inl ⟨rfl, w.heap.size, by rfl, row_grown (row_later HNEW.out hb12) hg3 (by omega), Nat.le_refl _⟩, hd3, grown_trans (grown_of_below (below_then hb0 hb12)) hg3⟩
    · have hnz : (no != 0) = true := by simpa using hno
      go_enter Try.func10, Try.ntmps10
      go_wp2_with fail
      refine wp_scope_ahead 0 (fun a1 w1 => ∃ T : Array Value, T.size = 38 ∧ T[8]? = some (.int .i64 no) ∧ a1 = { tmps := T, defers := [] } ∧ IsD w1 b s' ∧ w.grownBy w1 (some b)) rfl ?_ ?_
      · go_wp2_with fail
        refine hr.mono ?_
        rintro e w1 ⟨v, rfl, ho, hb1⟩
        obtain ⟨a1, n1, c1, rfl, hs1⟩ := ho.slice'
        have hn1 := hs1.len
        subst hn1
        have hwh := whole_c a1 _ c1 F hbig w1 hs1
        have hne : ((wholeB F : Int) == (F.length : Int)) = false := by simp; omega
        generalize wholeB F = wb at *
        have HW := Lib.hid hwh
        clear hwh hw hr
        go_wp2_with fail
        refine HW.out.mono ?_
        rintro e w2 ⟨rfl, hb2⟩
        have hb12 := below_then hb1 hb2
        go_wp2_with fail
        refine (HCUT.out _ (HD.out.later hb12)).mono ?_
        rintro e w3 ⟨rfl, hd3, hg3⟩
        go_wp2_with fail
        go_step3
        simp only [Exit.then]
        exact ⟨rfl, _, by rfl, by rfl, rfl, hd3, grown_trans (grown_of_below (below_then hb0 hb12)) hg3⟩
      · rintro a1 w1 ⟨T, hT, h4, rfl, hd3, hgg⟩
        obtain ⟨l⟩ := T
        match l, hT, h4 with
        | t0 :: t1 :: t2 :: t3 :: t4 :: t5 :: t6 :: t7 :: t8 :: t9 :: t10 :: t11 :: t12 :: t13 :: t14 :: t15 :: t16 :: t17 :: t18 :: t19 :: t20 :: t21 :: t22 :: t23 :: t24 :: t25 :: t26 :: t27 :: t28 :: t29 :: t30 :: t31 :: t32 :: t33 :: t34 :: t35 :: t36 :: t37 :: [], _, h4 =>
          obtain rfl : t8 = .int .i64 no := by simpa using h4
          clear h4 hr
          go_wp2_with fail
          simp only [jump_ret]
          go_ret2
          exact ⟨.inr ⟨hno, by rfl⟩, hd3, hgg⟩
end Go.Proofs.Ytknndpncdnhnpaa
