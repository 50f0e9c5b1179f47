import Derived.Test.YtpobnbiakneoiaaStatC
import Derived.Laws.MakeOwn
namespace Go.Proofs.Ytpobnbiakneoiaa
open Go.RowKit Go.Cas
set_option linter.unusedSimpArgs false
set_option linter.unusedVariables false
attribute [local go_sem] Oper.semAt_some

def stV (l : List St) : List Value := l.flatMap fun s => [.int .i64 s.over, .bool s.pend, .int .i64 s.mode, .int .i64 s.prio]
theorem stV_len (l : List St) : (stV l).length = l.length * 4 := by
  induction l with
  | nil => rfl
  | cons x l ih => simp [stV] at ih ⊢; omega
theorem stV_get (l : List St) {i : Nat} (h : i < l.length) : (stV l)[i * 4]? = some (.int .i64 l[i].over) ∧ (stV l)[i * 4 + 1]? = some (.bool l[i].pend) ∧ (stV l)[i * 4 + 2]? = some (.int .i64 l[i].mode) ∧ (stV l)[i * 4 + 3]? = some (.int .i64 l[i].prio) := by
  induction l generalizing i with
  | nil => simp at h
  | cons x l ih =>
    cases i with
    | zero => exact ⟨rfl, rfl, rfl, rfl⟩
    | succ i =>
      have h' : i < l.length := by simpa using h
      have := ih h'
      rw [show (i + 1) * 4 = i * 4 + 4 from by omega]
      simpa [stV] using this
/-- a list of statuses -/
def IsSt (w : World) (a : Option Addr) (n cap : Nat) (l : List St) : Prop := Sl w 4 a n cap (stV l) ∧ l.length = n
theorem IsSt.later {w w' : World} {a : Option Addr} {n cap : Nat} {l : List St} (h : IsSt w a n cap l) (hb : Below w.heap.size w w') : IsSt w' a n cap l := ⟨h.1.later hb, h.2⟩
/-- the cells of one -/
theorem IsSt.cells {w : World} {b off n cap : Nat} {l : List St} (h : IsSt w (some ⟨b, off, none⟩) n cap l) {k : Nat} (hk : k < l.length) :
    w.cell? ⟨b, off + k * 4, none⟩ = some (.int .i64 l[k].over) ∧ w.cell? ⟨b, off + k * 4 + 1, none⟩ = some (.bool l[k].pend) ∧ w.cell? ⟨b, off + k * 4 + 2, none⟩ = some (.int .i64 l[k].mode) ∧ w.cell? ⟨b, off + k * 4 + 3, none⟩ = some (.int .i64 l[k].prio) := by
  have hl := h.2
  have hg := stV_get l hk
  have hkn : k * 4 + 3 < n * 4 := by omega
  refine ⟨(h.1.cell (by omega)).trans hg.1, ?_, ?_, ?_⟩
  · rw [Nat.add_assoc]; exact (h.1.cell (by omega)).trans hg.2.1
  · rw [Nat.add_assoc]; exact (h.1.cell (by omega)).trans hg.2.2.1
  · rw [Nat.add_assoc]; exact (h.1.cell (by omega)).trans hg.2.2.2
set_option maxRecDepth 100000 in
set_option maxHeartbeats 1000000 in
theorem idxSt_c (a : Option Addr) (n cap : Nat) (l : List St) (hn : n ≤ 2 ^ 40) (w : World) (h : IsSt w a n cap l) :
    Calls Try.prog 82 #[.slice a n cap, .func (.func 70) #[] #[]] w fun e w' => ∃ x : Int, e = .returned (.int .i64 x) ∧ (0 ≤ x ↔ l.all okSt = false) ∧ Below w.heap.size w w' := by
  have HL := Lib.hid h.2
  go_enter Try.func82, Try.ntmps82
  go_wp2
  go_loopw [5, 8] (fun _ i wr => ∃ k : Nat, k ≤ n ∧ i = .int .i64 (k : Int) ∧ Hid (∀ x ∈ l.take k, okSt x = true) ∧ Below w.heap.size w wr) (fun _ i _ => n - (intOf i).toNat)
  case atStart => exact ⟨0, by omega, rfl, Lib.hid (by simp), Below.refl _ _⟩
  case round =>
    obtain ⟨k, hk, rfl, HF, hb⟩ := hrel
    by_cases hlt : k < n
    · have hkl : k < l.length := by have := HL.out; omega
      obtain ⟨b, off, rfl, hbl⟩ := h.1.some_of_lt (by have := h.1.le; omega)
      obtain ⟨c0, c1, c2, c3⟩ := (h.later hb).cells hkl
      obtain ⟨x, hx⟩ : ∃ x, l[k] = x := ⟨_, rfl⟩
      rw [hx] at c0 c1 c2 c3
      have hnot := notOk_c x
      have HX := Lib.hid hx; clear hx
      go_wp2_with fail
      refine (hnot _).mono ?_
      rintro e w1 ⟨rfl, hb1⟩
      have hbb := hb.trans (hb1.mono hb.size)
      cases hok : okSt x with
      | false =>
        go_wp2_with fail
        go_ret
        refine ⟨_, rfl, ⟨fun _ => ?_, fun _ => by omega⟩, hbb⟩
        rw [List.all_eq_false]
        exact ⟨x, by rw [← HX.out]; exact List.getElem_mem hkl, by simp [hok]⟩
      | true =>
        go_wp2_with fail
        refine ⟨⟨k + 1, by omega, by go_num, Lib.hid ?_, hbb⟩, by simp [intOf]; omega⟩
        intro y hy
        rw [List.take_succ_eq_append_getElem hkl, HX.out] at hy
        rcases List.mem_append.1 hy with hy | hy
        · exact HF.out y hy
        · obtain rfl := List.mem_singleton.1 hy; exact hok
    · obtain rfl : k = n := by omega
      go_wp2_with fail
      go_ret
      refine ⟨_, rfl, ⟨fun h => absurd h (by decide), fun hf => ?_⟩, hb⟩
      rw [List.all_eq_false] at hf
      obtain ⟨y, hy, hy2⟩ := hf
      have := HF.out y (by rw [List.take_of_length_le (by have := HL.out; omega)]; exact hy)
      exact absurd this hy2
theorem badSt_c (a : Option Addr) (n cap : Nat) (l : List St) (hn : n ≤ 2 ^ 40) (w : World) (h : IsSt w a n cap l) :
    Calls Try.prog 69 #[.slice a n cap, .func (.func 70) #[] #[]] w fun e w' => e = .returned (.bool (!l.all okSt)) ∧ Below w.heap.size w w' := by
  have hi := idxSt_c a n cap l hn w h
  clear h
  go_enter Try.func69, Try.ntmps69
  go_wp2_with fail
  refine hi.mono ?_
  rintro e w1 ⟨x, rfl, hx, hb1⟩
  have HX := Lib.hid hx
  clear hi hx
  go_wp2_with fail
  go_ret
  refine ⟨ret_bool ?_, hb1⟩
  by_cases h0 : 0 ≤ x
  · rw [HX.out.1 h0]; simpa using h0
  · have : l.all okSt = true := by
      cases hq : l.all okSt with
      | true => rfl
      | false => exact absurd (HX.out.2 hq) h0
    rw [this]; simpa using h0
/-- is it a list of a shape's? -/
def okList (a b c : Int) (l : List St) : Bool := okShape a b c && decide (l.length = sites a b c) && l.all okSt
set_option maxRecDepth 100000 in
theorem right_c (x y z : Int) (a : Option Addr) (n cap : Nat) (l : List St) (hn : n ≤ 2 ^ 40) (w : World) (h : IsSt w a n cap l) :
    Calls Try.prog 37 #[.agg #[.int .i64 x, .int .i64 y, .int .i64 z], .slice a n cap] w fun e w' => e = .returned (.bool (okList x y z l)) ∧ Below w.heap.size w w' := by
  have hs := sites_c x y z
  have hb0 := below_alloc w (.cells #[.int .i64 x, .int .i64 y, .int .i64 z] 23)
  have he : errShape x y z = if okShape x y z = true then 0 else 2 := rfl
  have hl : okList x y z l = (okShape x y z && decide (l.length = sites x y z) && l.all okSt) := rfl
  have hln := h.2
  cases hk : okShape x y z with
  | false =>
    rw [hk] at he hl
    simp only [Bool.false_and, Bool.false_eq_true, if_false] at he hl
    rw [he] at hs
    have HE := Lib.hid hl
    clear he hl
    go_enter Try.func37, Try.ntmps37
    go_wp2_with fail
    refine (hs _).mono ?_
    rintro e w1 ⟨rfl, hb1⟩
    go_wp2_with fail
    go_ret
    exact ⟨by rw [HE.out]; rfl, below_then hb0 hb1⟩
  | true =>
    rw [hk] at he hl
    simp only [Bool.true_and, if_true] at he hl
    rw [he] at hs
    by_cases hq : n = sites x y z
    · have hqq : ((n : Int) == (sites x y z : Int)) = true := by simp [hq]
      have hl2 : okList x y z l = l.all okSt := by rw [hl, decide_eq_true (by omega), Bool.true_and]
      have HE := Lib.hid hl2
      have HQ := Lib.hid hq
      generalize sites x y z = N at *
      clear he hl hq hl2
      go_enter Try.func37, Try.ntmps37
      go_wp2_with fail
      refine (hs _).mono ?_
      rintro e w1 ⟨rfl, hb1⟩
      have hbb := below_then hb0 hb1
      have hbad := badSt_c a n cap l hn w1 (h.later hbb)
      have HBAD := Lib.hid hbad
      clear hbad hln
      go_wp2_with fail
      refine HBAD.out.mono ?_
      rintro e w2 ⟨rfl, hb2⟩
      cases hall : l.all okSt
      all_goals
        go_wp2_with fail
        go_ret
        exact ⟨by rw [HE.out, hall]; rfl, below_then hbb hb2⟩
    · have hqq : ((n : Int) == (sites x y z : Int)) = false := by simp; omega
      have hl2 : okList x y z l = false := by rw [hl, decide_eq_false (by omega), Bool.false_and]
      have HE := Lib.hid hl2
      clear he hl hq hl2
      generalize sites x y z = N at *
      go_enter Try.func37, Try.ntmps37
      go_wp2_with fail
      refine (hs _).mono ?_
      rintro e w1 ⟨rfl, hb1⟩
      go_wp2_with fail
      go_ret
      exact ⟨by rw [HE.out]; rfl, below_then hb0 hb1⟩
end Go.Proofs.Ytpobnbiakneoiaa
