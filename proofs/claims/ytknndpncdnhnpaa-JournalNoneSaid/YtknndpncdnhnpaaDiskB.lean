import Derived.Test.YtknndpncdnhnpaaDiskA
namespace Go.Proofs.Ytknndpncdnhnpaa
open Go.RowKit Go.Cas

theorem isNot_c (x : Bool) (y : Int) (w : World) : Calls Try.prog 65 #[.agg #[.bool x, .int .i64 y]] w fun e w' => e = .returned (.bool x) ∧ Below w.heap.size w w' := by
  go_enter Try.func65, Try.ntmps65
  go_wp2
  go_ret
  exact ⟨rfl, below_alloc _ _⟩
/-- The place of the first one that is so, or -1. -/
def idxA (l : List (Bool × Int)) : Int := match l.findIdx? (·.1) with | some i => (i : Int) | none => -1
theorem idxA_at {l : List (Bool × Int)} {k : Nat} (hk : k < l.length) (ht : l[k].1 = true) (hf : ∀ j, j < k → (l.getD j (false, 0)).1 = false) : idxA l = (k : Int) := by
  have : l.findIdx? (·.1) = some k := by
    rw [List.findIdx?_eq_some_iff_getElem]
    refine ⟨hk, ht, fun j hj => ?_⟩
    have := hf j hj
    simp [List.getD, show j < l.length by omega] at this
    simp [this]
  simp [idxA, this]
theorem idxA_no {l : List (Bool × Int)} (hf : ∀ j, j < l.length → (l.getD j (false, 0)).1 = false) : idxA l = -1 := by
  have : l.findIdx? (·.1) = none := by
    rw [List.findIdx?_eq_none_iff]
    intro x hx
    obtain ⟨j, hj, rfl⟩ := List.mem_iff_getElem.1 hx
    have := hf j hj
    simpa [List.getD, hj] using this
  simp [idxA, this]
set_option maxRecDepth 100000 in
set_option maxHeartbeats 1000000 in
theorem indexFunc_c (a : Option Addr) (n cap : Nat) (l : List (Bool × Int)) (hn : n ≤ 2 ^ 40) (w : World) (hl : l.length = n) (h : Sl w 2 a n cap (askV l)) :
    Calls Try.prog 80 #[.slice a n cap, .func (.func 65) #[] #[]] w fun e w' => e = .returned (.int .i64 (idxA l)) ∧ Below w.heap.size w w' := by
  have HL := Lib.hid hl; clear hl
  go_enter Try.func80, Try.ntmps80
  go_wp2
  go_loopw [5, 8] (fun _ i wr => ∃ k : Nat, k ≤ n ∧ i = .int .i64 (k : Int) ∧ (∀ j, j < k → (l.getD j (false, 0)).1 = false) ∧ Below w.heap.size w wr) (fun _ i _ => n - (intOf i).toNat)
  case atStart => exact ⟨0, by omega, rfl, fun j hj => by omega, Below.refl _ _⟩
  case round =>
    obtain ⟨k, hk, rfl, hf, hb⟩ := hrel
    have HF := Lib.hid hf; clear hf
    by_cases hlt : k < n
    · have hkl : k < l.length := by have := HL.out; omega
      obtain ⟨b, off, rfl, hbl⟩ := h.some_of_lt (by have := h.le; omega)
      have hs := h.later hb
      have hg := askV_get l hkl
      have hc0 := (hs.cell (i := k * 2) (by omega)).trans hg.1
      have hc1 := (hs.cell (i := k * 2 + 1) (by omega)).trans hg.2
      clear hg
      rw [← Nat.add_assoc] at hc1
      obtain ⟨x, hx⟩ : ∃ x, l[k] = x := ⟨_, rfl⟩
      rw [hx] at hc0 hc1
      have HX := Lib.hid hx; clear hx
      obtain ⟨x, y⟩ := x
      dsimp only at hc0 hc1
      go_wp2_with fail
      refine (isNot_c x y _).mono ?_
      rintro e w1 ⟨rfl, hb1⟩
      cases x with
      | true =>
        go_wp2_with fail
        go_ret
        exact ⟨ret_int (idxA_at hkl (by rw [HX.out]) HF.out).symm, hb.trans (hb1.mono hb.size)⟩
      | false =>
        go_wp2_with fail
        go_roundw
        case rel =>
          refine ⟨k + 1, by omega, by go_num, fun j hj => ?_, hb.trans (hb1.mono hb.size)⟩
          by_cases hjk : j < k
          · exact HF.out j hjk
          · obtain rfl : j = k := by omega
            simp [List.getD, hkl, HX.out]
        case measure => simp [intOf]; omega
    · obtain rfl : k = n := by omega
      go_wp2_with fail
      go_ret
      exact ⟨ret_int (idxA_no (fun j hj => HF.out j (by have := HL.out; omega))).symm, hb⟩
theorem two_set {w : World} {b : Nat} {x y u v : Value} {t : TypeId} (h : w.heap[b]? = some (.cells #[x, y] t (0, 0))) : ((w.setCell ⟨b, 0, none⟩ u).setCell ⟨b, 1, none⟩ v).heap[b]? = some (.cells #[u, v] t (0, 0)) := by
  simp [World.setCell, Array.getElem?_modify, h]
theorem firstA_idx (l : List (Bool × Int)) : (idxA l = -1 ∧ firstA l = 0) ∨ ∃ k, ∃ hk : k < l.length, idxA l = (k : Int) ∧ l[k].2 = firstA l := by
  cases h : l.findIdx? (·.1) with
  | none =>
    left
    refine ⟨by simp [idxA, h], ?_⟩
    rw [List.findIdx?_eq_none_iff] at h
    have : l.find? (·.1) = none := List.find?_eq_none.2 fun x hx => by simpa using h x hx
    simp [firstA, this]
  | some k =>
    right
    rw [List.findIdx?_eq_some_iff_getElem] at h
    obtain ⟨hk, ht, hf⟩ := h
    refine ⟨k, hk, idxA_at hk (by simpa using ht) (fun j hj => ?_), ?_⟩
    · have := hf j hj
      simp [List.getD, show j < l.length by omega]
      simpa using this
    · have : l.find? (·.1) = some l[k] := by
        rw [List.find?_eq_some_iff_getElem]
        exact ⟨by simpa using ht, k, hk, rfl, fun j hj => by simpa using hf j hj⟩
      simp [firstA, this]
set_option maxRecDepth 100000 in
theorem found_c (a : Option Addr) (n cap : Nat) (l : List (Bool × Int)) (hn : n ≤ 2 ^ 40) (w : World) (hl : l.length = n) (h : Sl w 2 a n cap (askV l)) :
    Calls Try.prog 64 #[.slice a n cap, .func (.func 65) #[] #[]] w fun e w' => ∃ x, e = .returned (.agg #[.bool x, .int .i64 (firstA l)]) ∧ Below w.heap.size w w' := by
  have hfi := firstA_idx l
  have hix := fun w1 (h1 : Sl w1 2 a n cap (askV l)) => indexFunc_c a n cap l hn w1 hl h1
  have HL := Lib.hid hl; clear hl
  rcases hfi with ⟨e1, e2⟩ | ⟨k, hk, e1, e2⟩
  · rw [e1] at hix
    have HE := Lib.hid e2; clear e1 e2
    go_enter Try.func64, Try.ntmps64
    go_wp2_with fail
    refine (hix _ (h.alloc _)).mono ?_
    rintro e w1 ⟨rfl, hb1⟩
    have hz : w.heap.size + 1 ≤ w1.heap.size := by have := hb1.size; simpa using this
    have hh : w1.heap[w.heap.size]? = some (.cells #[.bool false, .int .i64 0] 88) := (hb1.block _ (by simp)).trans (heap_alloc_new w _)
    have hc0 : w1.cell? ⟨w.heap.size, 0, none⟩ = some (.bool false) := by simp [World.cell?, hh]
    have hc1 : w1.cell? ⟨w.heap.size, 1, none⟩ = some (.int .i64 0) := by simp [World.cell?, hh]
    have hf0 : w1.frozen? ⟨w.heap.size, 0, none⟩ = false := by simp [World.frozen?, hh]
    have hf1 : w1.frozen? ⟨w.heap.size, 1, none⟩ = false := by simp [World.frozen?, hh]
    clear hix
    go_wp2_with fail
    have h2 := two_set (u := (.bool false)) (v := (.int .i64 0)) hh
    have q0 : ((w1.setCell ⟨w.heap.size, 0, none⟩ (.bool false)).setCell ⟨w.heap.size, 1, none⟩ (.int .i64 0)).cell? ⟨w.heap.size, 0, none⟩ = some (.bool false) := by simp only [World.cell?, h2]; rfl
    have q1 : ((w1.setCell ⟨w.heap.size, 0, none⟩ (.bool false)).setCell ⟨w.heap.size, 1, none⟩ (.int .i64 0)).cell? ⟨w.heap.size, 1, none⟩ = some (.int .i64 0) := by simp only [World.cell?, h2]; rfl
    refine bodyPost_ret (v := .agg #[.bool false, (.int .i64 0)]) (by simp [results, Try.results64, go_sem, q0, q1]) rfl ⟨_, by rw [HE.out], ?_⟩
    exact ((below_then (below_alloc _ _) hb1).setCell (by simp) _).setCell (by simp) _
  · rw [e1] at hix
    have hkn : k < n := by have := HL.out; omega
    obtain ⟨b, off, rfl, -⟩ := h.some_of_lt (by have := h.le; omega)
    have hg := askV_get l hk
    have hc0 := (h.cell (i := k * 2) (by omega)).trans hg.1
    have hc1 := (h.cell (i := k * 2 + 1) (by omega)).trans hg.2
    rw [← Nat.add_assoc, e2] at hc1
    obtain ⟨x, hx⟩ : ∃ x, l[k].1 = x := ⟨_, rfl⟩
    rw [hx] at hc0
    clear hg e1 e2 hx
    obtain ⟨y, hy⟩ : ∃ y, firstA l = y := ⟨_, rfl⟩
    rw [hy] at hc1
    have HE := Lib.hid hy; clear hy
    go_enter Try.func64, Try.ntmps64
    go_wp2_with fail
    refine (hix _ (h.alloc _)).mono ?_
    rintro e w1 ⟨rfl, hb1⟩
    have hz : w.heap.size + 1 ≤ w1.heap.size := by have := hb1.size; simpa using this
    have hh : w1.heap[w.heap.size]? = some (.cells #[.bool false, .int .i64 0] 88) := (hb1.block _ (by simp)).trans (heap_alloc_new w _)
    have hf0 : w1.frozen? ⟨w.heap.size, 0, none⟩ = false := by simp [World.frozen?, hh]
    have hf1 : w1.frozen? ⟨w.heap.size, 1, none⟩ = false := by simp [World.frozen?, hh]
    have hd0 : w1.cell? ⟨w.heap.size, 0, none⟩ = some (.bool false) := by simp [World.cell?, hh]
    have hd1 : w1.cell? ⟨w.heap.size, 1, none⟩ = some (.int .i64 0) := by simp [World.cell?, hh]
    have hb : Below w.heap.size w w1 := below_then (below_alloc _ _) hb1
    have hc0' := below_cell hb hc0
    have hc1' := below_cell hb hc1
    clear hix
    go_wp2_with fail
    have h2 := two_set (u := (.bool x)) (v := (.int .i64 y)) hh
    have q0 : ((w1.setCell ⟨w.heap.size, 0, none⟩ (.bool x)).setCell ⟨w.heap.size, 1, none⟩ (.int .i64 y)).cell? ⟨w.heap.size, 0, none⟩ = some (.bool x) := by simp only [World.cell?, h2]; rfl
    have q1 : ((w1.setCell ⟨w.heap.size, 0, none⟩ (.bool x)).setCell ⟨w.heap.size, 1, none⟩ (.int .i64 y)).cell? ⟨w.heap.size, 1, none⟩ = some (.int .i64 y) := by simp only [World.cell?, h2]; rfl
    refine bodyPost_ret (v := .agg #[.bool x, (.int .i64 y)]) (by simp [results, Try.results64, go_sem, q0, q1]) rfl ⟨_, by rw [HE.out], ?_⟩
    exact (hb.setCell (by simp) _).setCell (by simp) _
theorem ask_why (x : Bool) (z : Int) (w : World) : (Instr.field 88 (.agg #[.bool x, .int .i64 z]) 1).run Try.prog w = .ok (.int .i64 z) w := by kernel_rfl
set_option maxRecDepth 100000 in
theorem first_c (a : Option Addr) (n cap : Nat) (l : List (Bool × Int)) (hn : n ≤ 2 ^ 40) (w : World) (hl : l.length = n) (h : Sl w 2 a n cap (askV l)) :
    Calls Try.prog 42 #[.slice a n cap] w fun e w' => e = .returned (.int .i64 (firstA l)) ∧ Below w.heap.size w w' := by
  have HL := Lib.hid hl; clear hl
  have hfd := ask_why
  go_enter Try.func42, Try.ntmps42
  go_wp2_with fail
  refine (found_c a n cap l hn w HL.out h).mono ?_
  rintro e w1 ⟨x, rfl, hb1⟩
  go_wp2_with fail
  go_ret
  exact ⟨rfl, hb1⟩
end Go.Proofs.Ytknndpncdnhnpaa
