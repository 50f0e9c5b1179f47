import Derived.Test.YtpobnbiakneoiaaStatD
namespace Go.Proofs.Ytpobnbiakneoiaa
open Go.RowKit Go.Cas
set_option linter.unusedSimpArgs false
set_option linter.unusedVariables false
attribute [local go_sem] Oper.semAt_some

def st0 : St := ⟨0, false, 0, 0⟩
def OwnSt (w : World) (base : Nat) (v : Value) (l : List St) : Prop := w.ownsRow base 77 4 v l.length (stV l)
theorem OwnSt.later {w w' : World} {base : Nat} {v : Value} {l : List St} (h : OwnSt w base v l) (hb : Below w.heap.size w w') : OwnSt w' base v l := ownsRow_later h hb
theorem OwnSt.mono {w : World} {base base' : Nat} {v : Value} {l : List St} (h : OwnSt w base v l) (hb : base' ≤ base) : OwnSt w base' v l := ownsRow_mono h hb
theorem OwnSt.isSt {w : World} {base : Nat} {v : Value} {l : List St} (h : OwnSt w base v l) : ∃ a cap, v = .slice a l.length cap ∧ IsSt w a l.length cap l := by
  obtain ⟨a, cap, hv, hs⟩ := ownsRow_slice h
  exact ⟨a, cap, hv, hs, rfl⟩
theorem infoSt : (Try.prog.info? 77).map (fun i => (i.zero, i.size, i.bytes)) = some (some (.agg #[.int .i64 0, .bool false, .int .i64 0, .int .i64 0]), 4, 32) := by kernel_rfl
theorem stV_rep (n : Nat) : ∀ i, i < n * 4 → (stV (List.replicate n st0))[i]? = (#[Value.int .i64 0, .bool false, .int .i64 0, .int .i64 0] : Array Value)[i % 4]? := by
  intro i hi
  have hk : i / 4 < (List.replicate n st0).length := by rw [List.length_replicate]; omega
  have hg := stV_get (List.replicate n st0) hk
  rw [List.getElem_replicate] at hg
  obtain ⟨h0, h1, h2, h3⟩ := hg
  have hi4 : i % 4 < 4 := Nat.mod_lt _ (by decide)
  have he : i = i / 4 * 4 + i % 4 := by omega
  rw [he, show (i / 4 * 4 + i % 4) % 4 = i % 4 by omega]
  match hr : i % 4, hi4 with
  | 0, _ => exact h0
  | 1, _ => exact h1
  | 2, _ => exact h2
  | 3, _ => exact h3
theorem make_st (w : World) (n : Nat) {x : Int} (hx : x = (n : Int)) (hn : n ≤ 2 ^ 40) :
    ∃ cs, (Instr.makeSlice 25 (.int .i64 x) (.int .i64 x)).run Try.prog w = .ok (.slice (some ⟨w.heap.size, 0, none⟩) n n) (w.alloc (.cells cs 77)) ∧ cs.toList = stV (List.replicate n st0) := by
  subst hx
  have hi := infoSt
  cases hq : Try.prog.info? 77 with
  | none => rw [hq] at hi; cases hi
  | some i =>
    rw [hq] at hi
    simp only [Option.map_some, Option.some.injEq, Prod.mk.injEq] at hi
    obtain ⟨hz, hs, hb⟩ := hi
    have := run_make (P := Try.prog) w 25 77 i _ Try.underlying25 hq hz .i64 .i64 (n : Int) (n : Int) (by omega) (by omega)
    rw [Int.toNat_natCast, hs] at this
    refine ⟨_, this (by rw [hb]; omega) (by omega), ?_⟩
    apply List.ext_getElem?
    intro k
    by_cases hk : k < n * 4
    · rw [stV_rep n k hk]
      have h4 : k % 4 < 4 := Nat.mod_lt _ (by decide)
      simp only [madeCells, Value.cells, Array.toList_map, Array.toList_range, List.getElem?_map, List.getElem?_range hk, Option.map_some]
      match k % 4, h4 with
      | 0, _ => rfl
      | 1, _ => rfl
      | 2, _ => rfl
      | 3, _ => rfl
    · rw [List.getElem?_eq_none (by simp [madeCells]; omega), List.getElem?_eq_none (by rw [stV_len, List.length_replicate]; omega)]
theorem ownSt_new (w : World) (l : List St) (hl : l.length ≤ maxLen) {cs : Array Value} (hc : cs.toList = stV l) : OwnSt (w.alloc (.cells cs 77)) w.heap.size (.slice (some ⟨w.heap.size, 0, none⟩) l.length l.length) l := by
  have hs : cs.size = l.length * 4 := by rw [← Array.length_toList, hc, stV_len]
  refine ⟨by rw [stV_len], .inr ⟨w.heap.size, l.length, cs, rfl, Nat.le_refl _, heap_alloc_new w _, Nat.le_refl _, hl, by omega, ?_⟩⟩
  rw [hc, List.take_of_length_le (by rw [stV_len]; omega)]
set_option maxRecDepth 100000 in
theorem newSt_c (x y z : Int) (w : World) : Calls Try.prog 34 #[.agg #[.int .i64 x, .int .i64 y, .int .i64 z]] w fun e w' =>
    (okShape x y z = true ∧ ∃ v, e = .returned (.tuple #[v, .int .i64 0]) ∧ OwnSt w' w.heap.size v (List.replicate (sites x y z) st0) ∧ Below w.heap.size w w') ∨ (okShape x y z = false ∧ e = .returned (.tuple #[.slice none 0 0, .int .i64 2]) ∧ Below w.heap.size w w') := by
  have hs := sites_c x y z
  have hb0 := below_alloc w (.cells #[.int .i64 x, .int .i64 y, .int .i64 z] 23)
  have he : errShape x y z = if okShape x y z = true then 0 else 2 := rfl
  have hle := sites_le x y z
  cases hk : okShape x y z with
  | false =>
    rw [hk] at he
    simp only [Bool.false_eq_true, if_false] at he
    rw [he] at hs
    clear he hk
    go_enter Try.func34, Try.ntmps34
    go_wp2_with fail
    refine (hs _).mono ?_
    rintro e w1 ⟨rfl, hb1⟩
    go_wp2_with fail
    go_ret2
    exact .inr ⟨by trivial, rfl, below_then hb0 hb1⟩
  | true =>
    rw [hk] at he
    simp only [if_true] at he
    rw [he] at hs
    generalize sites x y z = N at *
    clear he hk
    go_enter Try.func34, Try.ntmps34
    go_wp2_with fail
    refine (hs _).mono ?_
    rintro e w1 ⟨rfl, hb1⟩
    obtain ⟨cs, hmk, hcs⟩ := make_st w1 N rfl (by omega)
    have hown := ownSt_new w1 (List.replicate N st0) (by rw [List.length_replicate]; unfold maxLen; omega) hcs
    rw [List.length_replicate] at hown
    have HO := Lib.hid hown
    clear hown hcs
    go_wp2_with fail
    go_ret2
    exact .inl ⟨by trivial, _, rfl, HO.out.mono (below_then hb0 hb1).size, below_then (below_then hb0 hb1) (below_alloc _ _)⟩
end Go.Proofs.Ytpobnbiakneoiaa
