import Derived.Test.YtpobnbiakneoiaaStatE
namespace Go.Proofs.Ytpobnbiakneoiaa
open Go.RowKit Go.Cas
set_option linter.unusedSimpArgs false
set_option linter.unusedVariables false
attribute [local go_sem] Oper.semAt_some

/-- a list of lists -/
structure SL where
  sa : Option Addr
  sn : Nat
  sc : Nat
  st : List St
def slV (ls : List SL) : List Value := ls.map fun s => .slice s.sa s.sn s.sc
def SL.at (w : World) (s : SL) : Prop := IsSt w s.sa s.sn s.sc s.st ∧ s.sn ≤ 300
def IsL (w : World) (a : Option Addr) (n cap : Nat) (ls : List SL) : Prop := Sl w 1 a n cap (slV ls) ∧ ls.length = n ∧ ∀ s ∈ ls, s.at w
theorem IsL.later {w w' : World} {a : Option Addr} {n cap : Nat} {ls : List SL} (h : IsL w a n cap ls) (hb : Below w.heap.size w w') : IsL w' a n cap ls := ⟨h.1.later hb, h.2.1, fun s hs => ⟨(h.2.2 s hs).1.later hb, (h.2.2 s hs).2⟩⟩
theorem IsL.cell {w : World} {b off n cap : Nat} {ls : List SL} (h : IsL w (some ⟨b, off, none⟩) n cap ls) {k : Nat} (hk : k < ls.length) : w.cell? ⟨b, off + k, none⟩ = some (.slice ls[k].sa ls[k].sn ls[k].sc) := by
  have hl := h.2.1
  rw [h.1.cell (by omega)]
  simp [slV, hk]
theorem joinBad_c (Bs : Nat) (x y z : Int) (s : SL) (w : World) (h : Cell3 w Bs x y z) (hs : s.at w) : Calls Try.prog 36 #[.slice s.sa s.sn s.sc, .pointer (some ⟨Bs, 0, none⟩)] w fun e w' => e = .returned (.bool (!okList x y z s.st)) ∧ Below w.heap.size w w' := by
  obtain ⟨q0, q1, q2⟩ := h
  have hr := right_c x y z s.sa s.sn s.sc s.st (by have := hs.2; omega) w hs.1
  go_enter Try.func36, Try.ntmps36
  go_wp2_with fail
  refine hr.mono ?_
  rintro e w1 ⟨rfl, hb1⟩
  go_wp2_with fail
  go_ret
  exact ⟨rfl, hb1⟩
set_option maxRecDepth 100000 in
set_option maxHeartbeats 1000000 in
theorem idxL_c (Bs : Nat) (x y z : Int) (a : Option Addr) (n cap : Nat) (ls : List SL) (hn : n ≤ 2 ^ 40) (w : World) (hc : Cell3 w Bs x y z) (h : IsL w a n cap ls) :
    Calls Try.prog 68 #[.slice a n cap, .func (.func 36) #[] #[.pointer (some ⟨Bs, 0, none⟩)]] w fun e w' =>
      ∃ r : Int, e = .returned (.int .i64 r) ∧ (0 ≤ r ↔ ls.all (fun s => okList x y z s.st) = false) ∧ Below w.heap.size w w' := by
  have HL := Lib.hid h.2.1
  go_enter Try.func68, Try.ntmps68
  go_wp2
  go_loopw [5, 8] (fun _ i wr => ∃ k : Nat, k ≤ n ∧ i = .int .i64 (k : Int) ∧ Hid (∀ s ∈ ls.take k, okList x y z s.st = true) ∧ Below w.heap.size w wr) (fun _ i _ => n - (intOf i).toNat)
  case atStart => exact ⟨0, by omega, rfl, Lib.hid (by simp), Below.refl _ _⟩
  case round =>
    obtain ⟨k, hk, rfl, HF, hb⟩ := hrel
    by_cases hlt : k < n
    · have hkl : k < ls.length := by have := HL.out; omega
      obtain ⟨b, off, rfl, hbl⟩ := h.1.some_of_lt (by have := h.1.le; omega)
      have c0 := (h.later hb).cell hkl
      have hat := (h.later hb).2.2 _ (List.getElem_mem hkl)
      obtain ⟨s, hs⟩ : ∃ s, ls[k] = s := ⟨_, rfl⟩
      rw [hs] at c0 hat
      have hnot := joinBad_c Bs x y z s _ (hc.later hb) hat
      have HX := Lib.hid hs
      have HN := Lib.hid hnot
      clear hs hnot
      go_wp2_with fail
      refine HN.out.mono ?_
      rintro e w1 ⟨rfl, hb1⟩
      have hbb := hb.trans (hb1.mono hb.size)
      cases hok : okList x y z s.st with
      | false =>
        go_wp2_with fail
        go_ret
        refine ⟨_, rfl, ⟨fun _ => ?_, fun _ => by omega⟩, hbb⟩
        rw [List.all_eq_false]
        exact ⟨s, by rw [← HX.out]; exact List.getElem_mem hkl, by simp [hok]⟩
      | true =>
        go_wp2_with fail
        refine ⟨⟨k + 1, by omega, by go_num, Lib.hid ?_, hbb⟩, by simp [intOf]; omega⟩
        intro y hy
        rw [List.take_succ_eq_append_getElem hkl, HX.out] at hy
        rcases List.mem_append.1 hy with hy | hy
        · exact HF.out y hy
        · obtain rfl := List.mem_singleton.1 hy; exact hok
    · obtain rfl : k = n := by omega
      go_wp2_with fail
      go_ret
      refine ⟨_, rfl, ⟨fun h => absurd h (by decide), fun hf => ?_⟩, hb⟩
      rw [List.all_eq_false] at hf
      obtain ⟨y, hy, hy2⟩ := hf
      have := HF.out y (by rw [List.take_of_length_le (by have := HL.out; omega)]; exact hy)
      exact absurd this hy2
theorem badL_c (Bs : Nat) (x y z : Int) (a : Option Addr) (n cap : Nat) (ls : List SL) (hn : n ≤ 2 ^ 40) (w : World) (hc : Cell3 w Bs x y z) (h : IsL w a n cap ls) :
    Calls Try.prog 35 #[.slice a n cap, .func (.func 36) #[] #[.pointer (some ⟨Bs, 0, none⟩)]] w fun e w' =>
      e = .returned (.bool (!ls.all (fun s => okList x y z s.st))) ∧ Below w.heap.size w w' := by
  have hi := idxL_c Bs x y z a n cap ls hn w hc h
  clear h hc
  obtain ⟨B, hB⟩ : ∃ B, ls.all (fun s => okList x y z s.st) = B := ⟨_, rfl⟩
  rw [hB] at hi ⊢
  clear hB
  go_enter Try.func35, Try.ntmps35
  go_wp2_with fail
  refine hi.mono ?_
  rintro e w1 ⟨r, rfl, hx, hb1⟩
  have HX := Lib.hid hx
  clear hi hx
  go_wp2_with fail
  go_ret
  refine ⟨ret_bool ?_, hb1⟩
  by_cases h0 : 0 ≤ r
  · rw [HX.out.1 h0]; simpa using h0
  · have : B = true := by
      cases hq : B with
      | true => rfl
      | false => exact absurd (HX.out.2 hq) h0
    rw [this]; simpa using h0
/-! ### Two lists joined -/
def pickSt (o y : St) : St := if moreSt y o = true then y else o
def joinedK (out x : List St) (k : Nat) : List St := (List.range out.length).map fun i => if i < k then pickSt (out.getD i st0) (x.getD i st0) else out.getD i st0
def joinL (out x : List St) : List St := joinedK out x out.length
theorem joinedK_len (out x : List St) (k : Nat) : (joinedK out x k).length = out.length := by simp [joinedK]
theorem joinL_len (out x : List St) : (joinL out x).length = out.length := joinedK_len _ _ _
theorem joinedK_zero (out x : List St) : joinedK out x 0 = out := by
  refine List.ext_getElem (joinedK_len _ _ _) fun i h1 h2 => ?_
  simp [joinedK, List.getD, h2]
theorem joinedK_get (out x : List St) (k : Nat) (hk : k < out.length) (h : k < (joinedK out x k).length) : (joinedK out x k)[k] = out[k] := by simp [joinedK, List.getD, hk]
theorem joinedK_succ (out x : List St) (k : Nat) (hk : k < out.length) (hx : k < x.length) : joinedK out x (k + 1) = (joinedK out x k).set k (pickSt out[k] x[k]) := by
  refine List.ext_getElem (by rw [List.length_set, joinedK_len, joinedK_len]) fun i h1 h2 => ?_
  rw [joinedK_len] at h1
  rw [List.getElem_set]
  by_cases hi : k = i
  · subst hi; simp [joinedK, List.getD, hk, hx]
  · rw [if_neg hi]
    simp only [joinedK, List.getElem_map, List.getElem_range]
    by_cases hik : i < k
    · rw [if_pos (by omega), if_pos hik]
    · rw [if_neg (by omega), if_neg hik]
theorem joinedK_same (out x : List St) (k : Nat) (hk : k < out.length) (hx : k < x.length) (hm : moreSt x[k] out[k] = false) : joinedK out x (k + 1) = joinedK out x k := by
  rw [joinedK_succ out x k hk hx]
  unfold pickSt
  rw [if_neg (by simp [hm])]
  refine List.ext_getElem (by simp) fun i h1 h2 => ?_
  rw [List.getElem_set]
  split
  · rename_i h; subst h; exact (joinedK_get out x k hk h2).symm
  · rfl
theorem ownsRow_cell {w : World} {base : Nat} {e : TypeId} {k : Nat} {v : Value} {n : Nat} {vs : List Value} (h : w.ownsRow base e k v n vs) {g cap : Nat} (hv : v = .slice (some ⟨g, 0, none⟩) n cap) {i : Nat} (hi : i < n * k) (u : Value) :
    (w.setCell ⟨g, i, none⟩ u).ownsRow base e k v n (vs.set i u) := by
  refine ⟨by rw [List.length_set]; exact h.1, ?_⟩
  rcases h.2 with ⟨hv', _⟩ | ⟨g', cap', cur, hv', hb, hh, hn, hm, hsz, ht⟩
  · rw [hv] at hv'; cases hv'
  · rw [hv] at hv'
    simp only [Value.slice.injEq, Option.some.injEq, Addr.mk.injEq, and_true, true_and] at hv'
    obtain ⟨rfl, rfl⟩ := hv'
    refine .inr ⟨g, cap, cur.setIfInBounds i u, hv, hb, ?_, hn, hm, by rw [Array.size_setIfInBounds]; exact hsz, ?_⟩
    · simp [World.setCell, Array.getElem?_modify, hh]
    · rw [← ht, Array.toList_setIfInBounds, List.take_set]
theorem stV_set (l : List St) {k : Nat} (hk : k < l.length) (s : St) : stV (l.set k s) = ((((stV l).set (k * 4) (.int .i64 s.over)).set (k * 4 + 1) (.bool s.pend)).set (k * 4 + 2) (.int .i64 s.mode)).set (k * 4 + 3) (.int .i64 s.prio) := by
  induction l generalizing k with
  | nil => simp at hk
  | cons x l ih =>
    cases k with
    | zero => rfl
    | succ k =>
      have hk' : k < l.length := by simpa using hk
      rw [List.set_cons_succ, show (k + 1) * 4 = k * 4 + 4 from by omega]
      have := ih hk'
      simp only [stV, List.flatMap_cons] at this ⊢
      rw [this]
      rfl
/-- one status is stored -/
theorem OwnSt.store {w : World} {base : Nat} {g n cap : Nat} {l : List St} (h : OwnSt w base (.slice (some ⟨g, 0, none⟩) n cap) l) {k : Nat} (hk : k < l.length) (hn : l.length = n) (s : St) :
    OwnSt ((((w.setCell ⟨g, k * 4, none⟩ (.int .i64 s.over)).setCell ⟨g, k * 4 + 1, none⟩ (.bool s.pend)).setCell ⟨g, k * 4 + 2, none⟩ (.int .i64 s.mode)).setCell ⟨g, k * 4 + 3, none⟩ (.int .i64 s.prio)) base (.slice (some ⟨g, 0, none⟩) n cap) (l.set k s) := by
  unfold OwnSt at *
  rw [stV_set l hk s, List.length_set]
  subst hn
  exact ownsRow_cell (ownsRow_cell (ownsRow_cell (ownsRow_cell h rfl (by omega) _) rfl (by omega) _) rfl (by omega) _) rfl (by omega) _
/-- the block of a row of the call's own -/
theorem OwnSt.blk {w : World} {base : Nat} {v : Value} {l : List St} (h : OwnSt w base v l) (h0 : 0 < l.length) : ∃ g cap cur, v = .slice (some ⟨g, 0, none⟩) l.length cap ∧ base ≤ g ∧ w.heap[g]? = some (.cells cur 77 (0, 0)) ∧ l.length * 4 ≤ cur.size := by
  rcases h.2 with ⟨_, hn⟩ | ⟨g, cap, cur, hv, hb, hh, hn, hm, hs, ht⟩
  · omega
  · exact ⟨g, cap, cur, hv, hb, hh, by rw [hs]; exact Nat.mul_le_mul_right 4 hn⟩
end Go.Proofs.Ytpobnbiakneoiaa
