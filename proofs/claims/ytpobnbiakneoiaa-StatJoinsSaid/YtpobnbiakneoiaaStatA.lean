import Derived.Test.YtpobnbiakneoiaaByteFn
import Derived.Test.YtpobnbiakneoiaaMix
import Derived.Test.YtpobnbiakneoiaaIter
import Derived.Test.YtpobnbiakneoiaaScope
namespace Go.Proofs.Ytpobnbiakneoiaa
open Go.RowKit Go.Cas
set_option linter.unusedSimpArgs false
attribute [local go_sem] Oper.semAt_some

theorem below_drew (w : World) : Below w.heap.size w w.drew := (Below.refl _ _).drew
theorem grown_of_below {w w' : World} {r : Option Nat} (h : Below w.heap.size w w') : w.grownBy w' r := ⟨h.os, h.tape, h.output, h.size, fun k hk _ => h.block k hk⟩
/-- No panic comes out of it. -/
def calm (Q : Exit → Act → World → Prop) : Exit → Act → World → Prop
  | .panic _, _, _ => False
  | e, a, w => Q e a w
theorem calm_normal {Q : Exit → Act → World → Prop} {a : Act} {w : World} : calm Q .normal a w = Q .normal a w := rfl
theorem mix_calm {P : Program} {id : Nat} {l : List Oper} {Q : Exit → Act → World → Prop} {a : Act} {w : World} (h : (Code.region id l.toArray true).wp P (calm Q) a w) : (Code.region id l.toArray true).wp P Q a w :=
  Code.wp_mono (fun e a w hq => by cases e <;> first | exact hq | exact hq.elim) h
/-! ### Shapes -/
def okShape (a b c : Int) : Bool := decide (1 ≤ a ∧ a ≤ 64 ∧ 1 ≤ b ∧ b ≤ 8 ∧ 1 ≤ c ∧ c ≤ 4)
theorem okShape_iff (a b c : Int) : okShape a b c = true ↔ 1 ≤ a ∧ a ≤ 64 ∧ 1 ≤ b ∧ b ≤ 8 ∧ 1 ≤ c ∧ c ≤ 4 := by unfold okShape; simp
theorem ret_bool {a b : Bool} (h : a = b) : Ending.returned (.bool a) = .returned (.bool b) := by rw [h]
theorem within_c (n l m : Int) (w : World) : Calls Try.prog 93 #[.int .i64 n, .int .i64 l, .int .i64 m] w fun e w' => e = .returned (.bool (decide (l ≤ n ∧ n ≤ m))) ∧ w = w' := by
  by_cases h : l ≤ n
  · by_cases h2 : n ≤ m
    · have hd : decide (l ≤ n ∧ n ≤ m) = true := decide_eq_true ⟨h, h2⟩
      rw [hd]
      go_enter Try.func93, Try.ntmps93
      go_wp2
      go_ret
      exact ⟨by simp_all, rfl⟩
    · have hd : decide (l ≤ n ∧ n ≤ m) = false := decide_eq_false (fun h => h2 h.2)
      rw [hd]
      go_enter Try.func93, Try.ntmps93
      go_wp2
      go_ret
      exact ⟨by simp_all, rfl⟩
  · have hd : decide (l ≤ n ∧ n ≤ m) = false := decide_eq_false (fun h' => h h'.1)
    rw [hd]
    go_enter Try.func93, Try.ntmps93
    go_wp2
    go_ret
    exact ⟨by simp_all, rfl⟩
set_option maxRecDepth 100000 in
theorem uright_c (a b c : Int) (w : World) : Calls Try.prog 90 #[.agg #[.int .i64 a, .int .i64 b, .int .i64 c]] w fun e w' => e = .returned (.bool (okShape a b c)) ∧ Below w.heap.size w w' := by
  have hw := within_c
  by_cases h1 : (1 ≤ a ∧ a ≤ 64)
  · by_cases h2 : (1 ≤ b ∧ b ≤ 8)
    · by_cases h3 : (1 ≤ c ∧ c ≤ 4)
      · have hd : okShape a b c = true := (okShape_iff a b c).2 ⟨h1.1, h1.2, h2.1, h2.2, h3.1, h3.2⟩
        have e1 := hw a 1 64
        have e2 := hw b 1 8
        have e3 := hw c 1 4
        rw [decide_eq_true h1] at e1
        rw [decide_eq_true h2] at e2
        rw [decide_eq_true h3] at e3
        clear h1 h2 h3 hw
        rw [hd]
        go_enter Try.func90, Try.ntmps90
        go_wp2_with fail
        refine (e1 _).mono ?_
        rintro e w' ⟨rfl, rfl⟩
        go_wp2_with fail
        refine (e2 _).mono ?_
        rintro e w' ⟨rfl, rfl⟩
        go_wp2_with fail
        refine (e3 _).mono ?_
        rintro e w' ⟨rfl, rfl⟩
        go_wp2_with fail
        go_ret
        exact ⟨rfl, below_alloc _ _⟩
      · have hd : okShape a b c = false := Bool.eq_false_iff.2 (fun h => h3 ⟨((okShape_iff a b c).1 h).2.2.2.2.1, ((okShape_iff a b c).1 h).2.2.2.2.2⟩)
        have e1 := hw a 1 64
        have e2 := hw b 1 8
        have e3 := hw c 1 4
        rw [decide_eq_true h1] at e1
        rw [decide_eq_true h2] at e2
        rw [decide_eq_false h3] at e3
        clear h1 h2 h3 hw
        rw [hd]
        go_enter Try.func90, Try.ntmps90
        go_wp2_with fail
        refine (e1 _).mono ?_
        rintro e w' ⟨rfl, rfl⟩
        go_wp2_with fail
        refine (e2 _).mono ?_
        rintro e w' ⟨rfl, rfl⟩
        go_wp2_with fail
        refine (e3 _).mono ?_
        rintro e w' ⟨rfl, rfl⟩
        go_wp2_with fail
        go_ret
        exact ⟨rfl, below_alloc _ _⟩
    · have hd : okShape a b c = false := Bool.eq_false_iff.2 (fun h => h2 ⟨((okShape_iff a b c).1 h).2.2.1, ((okShape_iff a b c).1 h).2.2.2.1⟩)
      have e1 := hw a 1 64
      have e2 := hw b 1 8
      rw [decide_eq_true h1] at e1
      rw [decide_eq_false h2] at e2
      clear h1 h2 hw
      rw [hd]
      go_enter Try.func90, Try.ntmps90
      go_wp2_with fail
      refine (e1 _).mono ?_
      rintro e w' ⟨rfl, rfl⟩
      go_wp2_with fail
      refine (e2 _).mono ?_
      rintro e w' ⟨rfl, rfl⟩
      go_wp2_with fail
      go_ret
      exact ⟨rfl, below_alloc _ _⟩
  · have hd : okShape a b c = false := Bool.eq_false_iff.2 (fun h => h1 ⟨((okShape_iff a b c).1 h).1, ((okShape_iff a b c).1 h).2.1⟩)
    have e1 := hw a 1 64
    rw [decide_eq_false h1] at e1
    clear h1 hw
    rw [hd]
    go_enter Try.func90, Try.ntmps90
    go_wp2_with fail
    refine (e1 _).mono ?_
    rintro e w' ⟨rfl, rfl⟩
    go_wp2_with fail
    go_ret
    exact ⟨rfl, below_alloc _ _⟩
theorem idxNil_c (f : Value) (w : World) : Calls Try.prog 94 #[.slice none 0 0, f] w fun e w' => e = .returned (.int .i64 (-1)) ∧ w = w' := by
  go_enter Try.func94, Try.ntmps94
  go_wp2
  go_loop [8] (fun i => i = .int .i64 0) (fun _ => 0)
  case atStart => rfl
  case round =>
    subst hrel
    go_wp2
    go_ret
    exact ⟨rfl, rfl⟩
theorem contNil_c (f : Value) (w : World) : Calls Try.prog 91 #[.slice none 0 0, f] w fun e w' => e = .returned (.bool false) ∧ w = w' := by
  go_enter Try.func91, Try.ntmps91
  go_wp2_with (go_at_call 94; refine (idxNil_c f _).mono ?_; rintro e w' ⟨rfl, rfl⟩)
  go_ret
  exact ⟨rfl, rfl⟩
theorem build_under (x y z : Value) (w : World) : (Instr.build 137 #[(0, .agg #[x, y, z])]).run Try.prog w = .ok (.agg #[x, y, z]) w := by kernel_rfl
def errShape (a b c : Int) : Int := if okShape a b c = true then 0 else 2
set_option maxRecDepth 100000 in
theorem asked_c (a b c : Int) (w : World) : Calls Try.prog 81 #[.agg #[.int .i64 a, .int .i64 b, .int .i64 c], .slice none 0 0] w fun e w' => e = .returned (.int .i64 (errShape a b c)) ∧ Below w.heap.size w w' := by
  have hu := uright_c a b c
  have hbu := build_under
  have hE : errShape a b c = if okShape a b c = true then 0 else 2 := rfl
  cases hk : okShape a b c with
  | true =>
    rw [hk] at hu hE
    simp only [if_true] at hE
    have HE := Lib.hid hE
    clear hk hE
    go_enter Try.func81, Try.ntmps81
    go_wp2_with fail
    refine wp_scope_straight ?_
    go_wp2_with fail
    refine (hu _).mono ?_
    rintro e w1 ⟨rfl, hb1⟩
    go_wp2_with fail
    refine (contNil_c _ _).mono ?_
    rintro e w2 ⟨rfl, rfl⟩
    go_wp2_with fail
    rw [Exit.noGoto_ret]
    go_ret
    exact ⟨by rw [HE.out]; rfl, below_then (below_alloc _ _) hb1⟩
  | false =>
    rw [hk] at hu hE
    simp only [Bool.false_eq_true, if_false] at hE
    have HE := Lib.hid hE
    clear hk hE
    go_enter Try.func81, Try.ntmps81
    go_wp2_with fail
    refine wp_scope_ahead 0 (fun a1 w1 => ∃ T : Array Value, T.size = 12 ∧ T[4]? = some (.int .i64 2) ∧ a1 = { tmps := T, defers := [] } ∧ Below w.heap.size w w1) rfl ?_ ?_
    · go_wp2_with fail
      refine (hu _).mono ?_
      rintro e w1 ⟨rfl, hb1⟩
      go_wp2_with fail
      go_step3
      simp only [Exit.then]
      exact ⟨rfl, _, by rfl, by rfl, rfl, below_then (below_alloc _ _) hb1⟩
    · rintro a1 w1 ⟨T, hT, h4, rfl, hb⟩
      obtain ⟨t0, t1, t2, t3, t4, t5, t6, t7, t8, t9, t10, t11, rfl⟩ : ∃ t0 t1 t2 t3 t4 t5 t6 t7 t8 t9 t10 t11, T = #[t0, t1, t2, t3, t4, t5, t6, t7, t8, t9, t10, t11] := by
        obtain ⟨l⟩ := T
        match l, hT with
        | [t0, t1, t2, t3, t4, t5, t6, t7, t8, t9, t10, t11], _ => exact ⟨t0, t1, t2, t3, t4, t5, t6, t7, t8, t9, t10, t11, rfl⟩
      obtain rfl : t4 = .int .i64 2 := by simpa using h4
      clear hT h4
      go_wp2_with fail
      simp only [jump_ret]
      go_ret
      exact ⟨by rw [HE.out]; rfl, hb⟩
theorem scheck_c (a b c : Int) (w : World) : Calls Try.prog 87 #[.agg #[.int .i64 a, .int .i64 b, .int .i64 c]] w fun e w' => e = .returned (.int .i64 (errShape a b c)) ∧ Below w.heap.size w w' := by
  go_enter Try.func87, Try.ntmps87
  go_wp2_with fail
  refine (asked_c a b c _).mono ?_
  rintro e w1 ⟨rfl, hb1⟩
  go_wp2_with fail
  go_ret
  exact ⟨rfl, below_then (below_alloc _ _) hb1⟩
theorem many_c (a b c : Int) (w : World) (h : okShape a b c = true) : Calls Try.prog 89 #[.agg #[.int .i64 a, .int .i64 b, .int .i64 c]] w fun e w' => e = .returned (.int .i64 (a * c)) ∧ Below w.heap.size w w' := by
  obtain ⟨h1, h2, h3, h4, h5, h6⟩ := (okShape_iff a b c).1 h
  have hw : IntKind.i64.wrap (a * c) = a * c := Go.IntWalk.i64_in _ (by
    have hx : 0 ≤ a * c := Int.mul_nonneg (by omega) (by omega)
    have hy : a * c ≤ 64 * 4 := Int.mul_le_mul h2 h6 (by omega) (by omega)
    omega)
  clear h h1 h2 h3 h4 h5 h6
  go_enter Try.func89, Try.ntmps89
  go_wp2
  go_ret
  exact ⟨rfl, below_alloc _ _⟩
end Go.Proofs.Ytpobnbiakneoiaa
