import Derived.Test.YtpobnbiakneoiaaStatB
namespace Go.Proofs.Ytpobnbiakneoiaa
open Go.RowKit Go.Cas
set_option linter.unusedSimpArgs false
set_option linter.unusedVariables false
attribute [local go_sem] Oper.semAt_some

/-! ### Statuses -/
structure St where
  over : Int
  pend : Bool
  mode : Int
  prio : Int
def okSt (s : St) : Bool := if s.pend = true then decide (0 ≤ s.over ∧ s.over ≤ 1099511627775 ∧ 1 ≤ s.mode ∧ s.mode ≤ 5 ∧ 0 ≤ s.prio ∧ s.prio ≤ 3) else decide (0 ≤ s.over ∧ s.over ≤ 1099511627776 ∧ s.mode = 0 ∧ s.prio = 0)
def moreSt (a b : St) : Bool := decide (b.over < a.over ∨ (a.over = b.over ∧ a.pend = true ∧ b.pend = false))
theorem bi (x y z : Int) (w : World) : (Instr.build 124 #[(0, .int .i64 x), (1, .int .i64 y), (2, .int .i64 z)]).run Try.prog w = .ok (.agg #[.int .i64 x, .int .i64 y, .int .i64 z]) w := by kernel_rfl
theorem b3 (x0 x1 x2 y0 y1 y2 z0 z1 z2 : Value) (w : World) : (Instr.build 125 #[(0, .agg #[x0, x1, x2]), (1, .agg #[y0, y1, y2]), (2, .agg #[z0, z1, z2])]).run Try.prog w = .ok (.agg #[x0, x1, x2, y0, y1, y2, z0, z1, z2]) w := by kernel_rfl
def bnds (s : St) : Array Value := if s.pend = true then #[.int .i64 s.over, .int .i64 0, .int .i64 1099511627775, .int .i64 s.mode, .int .i64 1, .int .i64 5, .int .i64 s.prio, .int .i64 0, .int .i64 3] else #[.int .i64 s.over, .int .i64 0, .int .i64 1099511627776, .int .i64 s.mode, .int .i64 0, .int .i64 0, .int .i64 s.prio, .int .i64 0, .int .i64 0]
theorem heap_new1 (w : World) (o : Obj) (i : Nat) (h : i = w.heap.size) : (w.alloc o).heap[i]? = some o := by subst h; exact heap_alloc_new w o
set_option maxRecDepth 100000 in
theorem bounds_c (s : St) (w : World) : Calls Try.prog 79 #[.agg #[.int .i64 s.over, .bool s.pend, .int .i64 s.mode, .int .i64 s.prio]] w fun e w' => e = .returned (.agg (bnds s)) ∧ Below w.heap.size w w' := by
  have h1 := bi
  have h2 := b3
  obtain ⟨over, pend, mode, prio⟩ := s
  cases pend with
  | true =>
    go_enter Try.func79, Try.ntmps79
    go_wp2
    refine bodyPost_ret_by (results_cell_row rfl _ _ (w.heap.size + 1) 125 (bnds ⟨over, true, mode, prio⟩) (0, 0) _ rfl (heap_new1 _ _ _ (by simp)) Try.underlying125 rfl (by kernel_rfl)) rfl ⟨rfl, below_then (below_alloc _ _) (below_alloc _ _)⟩
  | false =>
    go_enter Try.func79, Try.ntmps79
    go_wp2
    refine bodyPost_ret_by (results_cell_row rfl _ _ (w.heap.size + 1) 125 (bnds ⟨over, false, mode, prio⟩) (0, 0) _ rfl (heap_new1 _ _ _ (by simp)) Try.underlying125 rfl (by kernel_rfl)) rfl ⟨rfl, below_then (below_alloc _ _) (below_alloc _ _)⟩
theorem ix0 (x0 x1 x2 y0 y1 y2 z0 z1 z2 : Value) (w : World) : (Instr.index 125 (.agg #[x0, x1, x2, y0, y1, y2, z0, z1, z2]) (.int .i64 0)).run Try.prog w = .ok (.agg #[x0, x1, x2]) w := by kernel_rfl
theorem ix1 (x0 x1 x2 y0 y1 y2 z0 z1 z2 : Value) (w : World) : (Instr.index 125 (.agg #[x0, x1, x2, y0, y1, y2, z0, z1, z2]) (.int .i64 1)).run Try.prog w = .ok (.agg #[y0, y1, y2]) w := by kernel_rfl
theorem ix2 (x0 x1 x2 y0 y1 y2 z0 z1 z2 : Value) (w : World) : (Instr.index 125 (.agg #[x0, x1, x2, y0, y1, y2, z0, z1, z2]) (.int .i64 2)).run Try.prog w = .ok (.agg #[z0, z1, z2]) w := by kernel_rfl
/-- are three numbers within their bounds? -/
def may3 (x0 l0 h0 x1 l1 h1 x2 l2 h2 : Int) : Bool := decide ((l0 ≤ x0 ∧ x0 ≤ h0) ∧ (l1 ≤ x1 ∧ x1 ≤ h1) ∧ (l2 ≤ x2 ∧ x2 ≤ h2))
set_option maxRecDepth 100000 in
set_option maxHeartbeats 1000000 in
theorem may_of (v : Value) (x0 l0 h0 x1 l1 h1 x2 l2 h2 : Int) (w : World) (hbn : ∀ W, Calls Try.prog 79 #[v] W fun e w' => e = .returned (.agg #[.int .i64 x0, .int .i64 l0, .int .i64 h0, .int .i64 x1, .int .i64 l1, .int .i64 h1, .int .i64 x2, .int .i64 l2, .int .i64 h2]) ∧ Below W.heap.size W w')
    (a0 a3 : Int) (a1 : Bool) (a2 : Int) (hv : v = .agg #[.int .i64 a0, .bool a1, .int .i64 a2, .int .i64 a3]) :
    Calls Try.prog 66 #[v] w fun e w' => e = .returned (.bool (may3 x0 l0 h0 x1 l1 h1 x2 l2 h2)) ∧ Below w.heap.size w w' := by
  subst hv
  have j0 := ix0
  have j1 := ix1
  have j2 := ix2
  go_enter Try.func66, Try.ntmps66
  go_wp2_with fail
  refine (hbn _).mono ?_
  rintro e w1 ⟨rfl, hb1⟩
  have hb := below_then (below_alloc _ _) hb1
  clear hb1 hbn
  go_wp2_with fail
  go_loopw [7] (fun i wr => ∃ k : Nat, k ≤ 3 ∧ i = .int .i64 (k : Int) ∧ Below w.heap.size w wr ∧ (0 < k → l0 ≤ x0 ∧ x0 ≤ h0) ∧ (1 < k → l1 ≤ x1 ∧ x1 ≤ h1) ∧ (2 < k → l2 ≤ x2 ∧ x2 ≤ h2)) (fun i _ => 3 - (intOf i).toNat)
  case atStart => exact ⟨0, by decide, rfl, hb, by omega, by omega, by omega⟩
  case round =>
    obtain ⟨k, hk, rfl, hbr, e0, e1, e2⟩ := hrel
    have E0 := Lib.hid e0
    have E1 := Lib.hid e1
    have E2 := Lib.hid e2
    clear e0 e1 e2 hb
    obtain rfl | rfl | rfl | rfl : k = 0 ∨ k = 1 ∨ k = 2 ∨ k = 3 := by omega
    · by_cases hlo : x0 < l0
      · have hd : may3 x0 l0 h0 x1 l1 h1 x2 l2 h2 = false := decide_eq_false (by omega)
        have HD := Lib.hid hd; clear hd
        go_wp2_with fail
        go_ret
        exact ⟨by rw [HD.out]; rfl, hbr.trans ((below_alloc _ _).mono hbr.size)⟩
      · by_cases hhi : h0 < x0
        · have hd : may3 x0 l0 h0 x1 l1 h1 x2 l2 h2 = false := decide_eq_false (by omega)
          have HD := Lib.hid hd; clear hd
          go_wp2_with fail
          go_ret
          exact ⟨by rw [HD.out]; rfl, hbr.trans ((below_alloc _ _).mono hbr.size)⟩
        · go_wp2_with fail
          exact ⟨⟨1, by decide, rfl, hbr.trans ((below_alloc _ _).mono hbr.size), by omega, by omega, by omega⟩, by simp [intOf]⟩
    · by_cases hlo : x1 < l1
      · have hd : may3 x0 l0 h0 x1 l1 h1 x2 l2 h2 = false := decide_eq_false (by omega)
        have HD := Lib.hid hd; clear hd
        go_wp2_with fail
        go_ret
        exact ⟨by rw [HD.out]; rfl, hbr.trans ((below_alloc _ _).mono hbr.size)⟩
      · by_cases hhi : h1 < x1
        · have hd : may3 x0 l0 h0 x1 l1 h1 x2 l2 h2 = false := decide_eq_false (by omega)
          have HD := Lib.hid hd; clear hd
          go_wp2_with fail
          go_ret
          exact ⟨by rw [HD.out]; rfl, hbr.trans ((below_alloc _ _).mono hbr.size)⟩
        · go_wp2_with fail
          exact ⟨⟨2, by decide, rfl, hbr.trans ((below_alloc _ _).mono hbr.size), fun _ => E0.out (by decide), by omega, by omega⟩, by simp [intOf]⟩
    · by_cases hlo : x2 < l2
      · have hd : may3 x0 l0 h0 x1 l1 h1 x2 l2 h2 = false := decide_eq_false (by omega)
        have HD := Lib.hid hd; clear hd
        go_wp2_with fail
        go_ret
        exact ⟨by rw [HD.out]; rfl, hbr.trans ((below_alloc _ _).mono hbr.size)⟩
      · by_cases hhi : h2 < x2
        · have hd : may3 x0 l0 h0 x1 l1 h1 x2 l2 h2 = false := decide_eq_false (by omega)
          have HD := Lib.hid hd; clear hd
          go_wp2_with fail
          go_ret
          exact ⟨by rw [HD.out]; rfl, hbr.trans ((below_alloc _ _).mono hbr.size)⟩
        · go_wp2_with fail
          exact ⟨⟨3, by decide, rfl, hbr.trans ((below_alloc _ _).mono hbr.size), fun _ => E0.out (by decide), fun _ => E1.out (by decide), by omega⟩, by simp [intOf]⟩
    · have hd : may3 x0 l0 h0 x1 l1 h1 x2 l2 h2 = true := decide_eq_true ⟨E0.out (by decide), E1.out (by decide), E2.out (by decide)⟩
      have HD := Lib.hid hd; clear hd
      go_wp2_with fail
      go_ret
      exact ⟨by rw [HD.out]; rfl, hbr⟩
theorem may_c (s : St) (w : World) : Calls Try.prog 66 #[.agg #[.int .i64 s.over, .bool s.pend, .int .i64 s.mode, .int .i64 s.prio]] w fun e w' => e = .returned (.bool (okSt s)) ∧ Below w.heap.size w w' := by
  obtain ⟨over, pend, mode, prio⟩ := s
  cases pend with
  | true =>
    refine (may_of _ over 0 1099511627775 mode 1 5 prio 0 3 w (fun W => bounds_c ⟨over, true, mode, prio⟩ W) over prio true mode rfl).mono fun e w' ⟨h1, h2⟩ => ⟨?_, h2⟩
    rw [h1]
    congr 2
    unfold okSt may3
    simp only [if_true, decide_eq_decide]
    omega
  | false =>
    refine (may_of _ over 0 1099511627776 mode 0 0 prio 0 0 w (fun W => bounds_c ⟨over, false, mode, prio⟩ W) over prio false mode rfl).mono fun e w' ⟨h1, h2⟩ => ⟨?_, h2⟩
    rw [h1]
    congr 2
    unfold okSt may3
    simp only [Bool.false_eq_true, if_false, decide_eq_decide]
    omega
theorem build_su (x y z u : Value) (w : World) : (Instr.build 110 #[(0, .agg #[x, y, z, u])]).run Try.prog w = .ok (.agg #[x, y, z, u]) w := by kernel_rfl
def errSt (s : St) : Int := if okSt s = true then 0 else 2
theorem check_c (s : St) (w : World) : Calls Try.prog 33 #[.agg #[.int .i64 s.over, .bool s.pend, .int .i64 s.mode, .int .i64 s.prio]] w fun e w' => e = .returned (.int .i64 (errSt s)) ∧ Below w.heap.size w w' := by
  have hm := may_c s
  have hbu := build_su
  have he : errSt s = if okSt s = true then 0 else 2 := rfl
  cases hk : okSt s
  all_goals
    rw [hk] at he hm
    have HE := Lib.hid he
    clear he hk
    go_enter Try.func33, Try.ntmps33
    go_wp2_with fail
    refine (hm _).mono ?_
    rintro e w1 ⟨rfl, hb1⟩
    go_wp2_with fail
    go_ret
    exact ⟨by rw [HE.out]; rfl, below_then (below_alloc _ _) hb1⟩
theorem notOk_c (s : St) (w : World) : Calls Try.prog 70 #[.agg #[.int .i64 s.over, .bool s.pend, .int .i64 s.mode, .int .i64 s.prio]] w fun e w' => e = .returned (.bool (!okSt s)) ∧ Below w.heap.size w w' := by
  have hm := check_c s
  have he : errSt s = if okSt s = true then 0 else 2 := rfl
  cases hk : okSt s
  all_goals
    rw [hk] at he
    simp only [if_true, Bool.false_eq_true, if_false] at he
    rw [he] at hm
    clear he hk
    go_enter Try.func70, Try.ntmps70
    go_wp2_with fail
    refine (hm _).mono ?_
    rintro e w1 ⟨rfl, hb1⟩
    go_wp2_with fail
    go_ret
    exact ⟨rfl, below_then (below_alloc _ _) hb1⟩
theorem umore_c (a b : St) (w : World) : Calls Try.prog 64 #[.agg #[.int .i64 a.over, .bool a.pend, .int .i64 a.mode, .int .i64 a.prio], .agg #[.int .i64 b.over, .bool b.pend, .int .i64 b.mode, .int .i64 b.prio]] w fun e w' =>
    e = .returned (.bool (moreSt a b)) ∧ Below w.heap.size w w' := by
  have hb := fun A B => below_then (below_alloc w A) (below_alloc (w.alloc A) B)
  by_cases h : a.over = b.over
  · have h1 : (a.over != b.over) = false := by simp [h]
    have hm : moreSt a b = (a.pend && !b.pend) := by unfold moreSt; rw [h]; cases a.pend <;> cases b.pend <;> simp
    have HM := Lib.hid hm
    clear h hm
    obtain ⟨ao, ap, am, apr⟩ := a
    obtain ⟨bo, bp, bm, bpr⟩ := b
    cases ap <;> cases bp
    all_goals
      go_enter Try.func64, Try.ntmps64
      go_wp2_with fail
      go_ret
      exact ⟨by rw [HM.out]; rfl, hb _ _⟩
  · have h1 : (a.over != b.over) = true := by simp [h]
    by_cases hg : b.over < a.over
    · have hm : moreSt a b = true := decide_eq_true (.inl hg)
      have hd : decide (a.over > b.over) = true := by simpa using hg
      have HM := Lib.hid hm
      clear h hm hg
      go_enter Try.func64, Try.ntmps64
      go_wp2_with fail
      go_ret
      exact ⟨by rw [HM.out]; rfl, hb _ _⟩
    · have hm : moreSt a b = false := decide_eq_false (by rintro (h' | ⟨h', _⟩); exact hg h'; exact h h')
      have hd : decide (a.over > b.over) = false := by simpa using hg
      have HM := Lib.hid hm
      clear h hm hg
      go_enter Try.func64, Try.ntmps64
      go_wp2_with fail
      go_ret
      exact ⟨by rw [HM.out]; rfl, hb _ _⟩
theorem more_c (a b : St) (w : World) : Calls Try.prog 32 #[.agg #[.int .i64 a.over, .bool a.pend, .int .i64 a.mode, .int .i64 a.prio], .agg #[.int .i64 b.over, .bool b.pend, .int .i64 b.mode, .int .i64 b.prio]] w fun e w' =>
    e = .returned (.bool (moreSt a b)) ∧ Below w.heap.size w w' := by
  have hb := fun A B => below_then (below_alloc w A) (below_alloc (w.alloc A) B)
  have hm := umore_c a b
  have hbu := build_su
  go_enter Try.func32, Try.ntmps32
  go_wp2_with fail
  refine (hm _).mono ?_
  rintro e w1 ⟨rfl, hb1⟩
  go_wp2_with fail
  go_ret
  exact ⟨rfl, below_then (hb _ _) hb1⟩
theorem rmore_c (a b : St) (w : World) : Calls Try.prog 43 #[.agg #[.int .i64 a.over, .bool a.pend, .int .i64 a.mode, .int .i64 a.prio], .agg #[.int .i64 b.over, .bool b.pend, .int .i64 b.mode, .int .i64 b.prio]] w fun e w' =>
    e = .returned (.bool (moreSt a b)) ∧ Below w.heap.size w w' := by
  have hb := fun A B => below_then (below_alloc w A) (below_alloc (w.alloc A) B)
  by_cases hg : b.over < a.over
  · have hm : moreSt a b = true := decide_eq_true (.inl hg)
    have hd : decide (a.over > b.over) = true := by simpa using hg
    have HM := Lib.hid hm
    clear hm hg
    go_enter Try.func43, Try.ntmps43
    go_wp2_with fail
    go_ret
    exact ⟨by rw [HM.out]; rfl, hb _ _⟩
  · have hd : decide (a.over > b.over) = false := by simpa using hg
    by_cases h : a.over = b.over
    · have h1 : (a.over == b.over) = true := by simp [h]
      have hm : moreSt a b = (a.pend && !b.pend) := by unfold moreSt; rw [h]; cases a.pend <;> cases b.pend <;> simp
      have HM := Lib.hid hm
      clear h hm hg
      obtain ⟨ao, ap, am, apr⟩ := a
      obtain ⟨bo, bp, bm, bpr⟩ := b
      cases ap <;> cases bp
      all_goals
        go_enter Try.func43, Try.ntmps43
        go_wp2_with fail
        go_ret
        exact ⟨by rw [HM.out]; rfl, hb _ _⟩
    · have h1 : (a.over == b.over) = false := by simp [h]
      have hm : moreSt a b = false := decide_eq_false (by rintro (h' | ⟨h', _⟩); exact hg h'; exact h h')
      have HM := Lib.hid hm
      clear h hm hg
      go_enter Try.func43, Try.ntmps43
      go_wp2_with fail
      go_ret
      exact ⟨by rw [HM.out]; rfl, hb _ _⟩
theorem mode_c (m : Int) (w : World) : Calls Try.prog 84 #[.int .i64 m] w fun e w' => e = .returned (.bool (decide (0 ≤ m) && decide (m ≤ 5))) ∧ w = w' := by
  by_cases h : 0 ≤ m <;> by_cases h2 : m ≤ 5
  all_goals
    go_enter Try.func84, Try.ntmps84
    go_wp2_with fail
    go_ret
    exact ⟨by simp_all, rfl⟩
set_option maxRecDepth 100000 in
theorem rright_c (s : St) (w : World) : Calls Try.prog 72 #[.agg #[.int .i64 s.over, .bool s.pend, .int .i64 s.mode, .int .i64 s.prio]] w fun e w' => e = .returned (.bool (okSt s)) ∧ Below w.heap.size w w' := by
  have hm := mode_c
  obtain ⟨over, pend, mode, prio⟩ := s
  cases pend
  all_goals
    go_enter Try.func72, Try.ntmps72
    go_wp2_with (go_at_call 84; refine (hm _ _).mono ?_; rintro e w' ⟨rfl, rfl⟩)
    all_goals
      go_ret
      refine ⟨ret_bool ?_, below_alloc _ _⟩
      rw [Bool.eq_iff_iff]
      simp only [okSt, Bool.false_eq_true, if_false, if_true, decide_eq_true_eq, Bool.and_eq_true, bne_iff_ne, beq_iff_eq, ne_eq, false_iff, true_iff, iff_true, iff_false]
      omega
theorem num14_c (n : Int) (w : World) : Calls Try.prog 10 #[.int .i64 n] w fun e w' => e = .returned (.int .i64 n) ∧ w = w' := by
  go_enter Try.func10, Try.ntmps10
  go_wp2
  go_ret
  exact ⟨rfl, rfl⟩
end Go.Proofs.Ytpobnbiakneoiaa
