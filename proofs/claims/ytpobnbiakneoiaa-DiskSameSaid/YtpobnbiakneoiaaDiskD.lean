import Derived.Test.YtpobnbiakneoiaaDiskC
import Derived.Deep.Upon
import Derived.ArgAppend
namespace Go.Proofs.Ytpobnbiakneoiaa
open Go.RowKit Go.Cas

/-- 'append(s[:n:n], xs...)' -/
theorem wpList_append_capped {w : World} {ops : Array Oper} {rest : List Oper} {o : Oper} {a : Act} {Q : Exit → Act → World → Prop} (hgd : o.guard = none) (s x : Operand)
    (ho : o.op = .call { callee := .builtin .append, args := #[s, x], argTypes := #[36, 36] })
    (sa : Option Addr) (n : Nat) (l : List UInt8) (hs : a.eval s = .slice sa n n) (hsl : IsB w sa n n l) (ad : Option Addr) (m c : Nat) (l' : List UInt8) (hx : a.eval x = .slice ad m c) (hxl : IsB w ad m c l') (hbig : n + m ≤ 2 ^ 46)
    (h : ∀ a' c' w', IsB w' a' (n + m) c' (l ++ l') → Below w.heap.size w w' → ((a' = sa ∧ c' = n) ∨ ∀ ad', a' = some ad' → w.heap.size ≤ ad'.block) → wpList Try.prog ops Q rest (a.put o.dst (.slice a' (n + m) c')) w') :
    wpList Try.prog ops Q (o :: rest) a w := by
  have hin := infoU8
  obtain ⟨i, hi, hz, hsize, hby⟩ := info_parts hin
  cases m with
  | zero =>
    have hl' : l' = [] := List.eq_nil_of_length_eq_zero hxl.len
    subst hl'
    have hsrc : Src Try.prog i.size 36 (.slice ad 0 c) 0 [] w := by
      cases ad with
      | none => exact Src.ofNil w Try.underlying36 c
      | some ad => exact Src.ofSlice w Try.underlying36 ad 0 c [] (by simp) (fun j u hu => by simp at hu) (fun u hu => by simp at hu)
    have hrun := run_append_nothing (P := Try.prog) w 36 36 o.type 5 i Try.underlying36 hi sa n n (Nat.le_refl _) _ hsrc
    refine wpList_plain hgd fun K hK' => ?_
    unfold Oper.wp
    simp [execOp, ho, resolve, invoke, builtin, hs, hx, hrun, Result.andThen]
    exact hK' _ _ (by have := h sa n w (by simpa using hsl) (Below.refl _ _) (.inl ⟨rfl, rfl⟩); simpa using this)
  | succ m =>
    obtain ⟨b', off', rfl, _⟩ := hxl.some_of_lt (by have := hxl.le; omega)
    have hll := hsl.len
    have hxx := hxl.len
    refine wpList_append_grows w hgd s x 36 ho 5 i _ 1 1 Try.underlying36 hi hz hsize hby rfl (by decide) sa n n (bvs l) hs (fun hn => by have := hsl.2.2.2.1 hn; omega) (by rw [bvs_len]; omega) ?_ ⟨b', off', none⟩ (m + 1) c (bvs l') hx (by rw [bvs_len]; omega) ?_ (bvs_one _) (by omega) (by unfold maxLen; omega) (by omega) ?_
    · rintro bb rfl j u hu
      have hj : j < n := by have := (List.getElem?_eq_some_iff.1 hu).1; rw [bvs_len] at this; omega
      obtain ⟨b2, off2, he, _⟩ := hsl.some_of_lt (by omega)
      obtain rfl := Option.some.inj he
      rw [show (⟨b2, off2, none⟩ : Addr).add j = ⟨b2, off2 + j, none⟩ from by unfold Addr.add; split <;> simp_all]
      exact (Sl.cell hsl (by omega)).trans hu
    · intro j u hu
      have hj : j < m + 1 := by have := (List.getElem?_eq_some_iff.1 hu).1; rw [bvs_len] at this; omega
      rw [show (⟨b', off', none⟩ : Addr).add j = ⟨b', off' + j, none⟩ from by unfold Addr.add; split <;> simp_all]
      exact (Sl.cell hxl (by omega)).trans hu
    · intro v' w' hown hg
      have hob : OwnB w' w.heap.size 5 v' (l ++ l') := by
        unfold OwnB
        rw [bvs_append, List.length_append, hll, hxx]
        exact hown
      obtain ⟨a', c', rfl, hsl'⟩ := hob.slice
      rw [List.length_append, hll, hxx] at hsl' hob
      have hbel : Below w.heap.size w w' := ⟨hg.os, hg.tape, hg.output, hg.size, fun k hk => hg.block k hk (by simp)⟩
      have := h a' c' w' hsl' hbel (.inr (own_block hob))
      rw [List.length_append, hll, hxx]
      exact this

/-- a file's bytes, how many of them last -/
def DS.fl (s : DS) (n : Int) : List UInt8 := if n = 0 then s.f0 else s.f1
def DS.la (s : DS) (n : Int) : Nat := if n = 0 then s.n0 else s.n1
def DS.setF (s : DS) (n : Int) (f : List UInt8) : DS := if n = 0 then { s with f0 := f } else { s with f1 := f }
def DS.setN (s : DS) (n : Int) (x : Nat) : DS := if n = 0 then { s with n0 := x } else { s with n1 := x }
def DS.acted (s : DS) : DS := { s with left := decr s.left }
theorem fileOk_iff (n : Int) : fileOk n = true ↔ 0 ≤ n ∧ n < 2 := by simp [fileOk]
theorem file_two {n : Int} (h : fileOk n = true) : n = 0 ∨ n = 1 := by have := (fileOk_iff n).1 h; omega
theorem below_drew (w : World) : Below w.heap.size w w.drew := (Below.refl _ _).drew
theorem grown_cell {w w' : World} {b c i : Nat} {v : Value} (hg : w.grownBy w' (some b)) (hc : w.cell? ⟨c, i, none⟩ = some v) (hne : c ≠ b) : w'.cell? ⟨c, i, none⟩ = some v :=
  (World.cell?_of_block (hg.block c (World.block_lt_of_cell? w ⟨c, i, none⟩ hc) (fun e => hne (Option.some.inj e)))).trans hc

theorem NoD.ptr {w : World} {v : Value} (h : NoD w v) : ∃ p, v = .pointer p := by
  rcases h with rfl | ⟨b, rfl, _⟩
  · exact ⟨_, rfl⟩
  · exact ⟨_, rfl⟩
/-- An act, whatever comes of it. -/
theorem act_c (b : Nat) (s s' : DS) (g : FuncId) (cs : Array Value) (a : Option Addr) (n cap : Nat) (l : List (Bool × Int)) (hn : n ≤ 2 ^ 40) (w : World) (hd : IsD w b s) (hsl : LeftOk s.left) (hl : l.length = n) (h : Sl w 2 a n cap (askV l))
    (eg : ∀ args w, (callFunc g args).run Try.prog w = .ok (.enter g args) w)
    (hdo : firstA l = 0 → s.left ≠ 0 → ∀ w1, IsD w1 b s.acted → w.grownBy w1 (some b) → Calls Try.prog g cs w1 fun e w2 => e = .returned (.tuple #[]) ∧ IsD w2 b s' ∧ w1.grownBy w2 (some b)) :
    Calls Try.prog 58 #[.pointer (some ⟨b, 0, none⟩), .func (.func g) #[] cs, .slice a n cap] w fun e w' =>
      e = .returned (.int .i64 (if firstA l ≠ 0 then firstA l else if s.left = 0 then 171 else 0)) ∧ IsD w' b (if firstA l ≠ 0 then s else if s.left = 0 then s else s') ∧ w.grownBy w' (some b) := by
  by_cases h1 : firstA l = 0
  · simp only [h1, ne_eq, not_true_eq_false, if_false]
    by_cases h2 : s.left = 0
    · simp only [h2, if_true]
      exact (act_stop b s _ a n cap l hn w hd hl h h1 h2).mono fun e w' ⟨he, hb⟩ => ⟨he, hd.later hb, grown_of_below hb⟩
    · simp only [h2, if_false]
      refine (act_do b s g cs a n cap l hn w hd hsl hl h h1 h2 eg (fun w2 => IsD w2 b s' ∧ w.grownBy w2 (some b)) fun w1 hd1 hg1 => ?_).mono fun e w' ⟨he, hd', hg⟩ => ⟨he, hd', hg⟩
      exact (hdo h1 h2 w1 hd1 hg1).mono fun e w2 ⟨he, hd2, hg2⟩ => ⟨he, hd2, grown_trans hg1 hg2⟩
  · simp only [h1, ne_eq, not_false_eq_true, if_true]
    exact (act_no _ _ a n cap l hn w hl h h1).mono fun e w' ⟨he, hb⟩ => ⟨he, hd.later hb, grown_of_below hb⟩

/-! ### Switch -/
def DS.switch (s : DS) : DS × Int := if s.left = 0 then (s, 171) else ({ s.acted with now := 1 - s.now }, 0)
set_option maxRecDepth 100000 in
theorem switch_do (b Bd : Nat) (s : DS) (w : World) (h : IsD w b s) (hs : 0 ≤ s.now ∧ s.now ≤ 1) (hc : w.cell? ⟨Bd, 0, none⟩ = some (.pointer (some ⟨b, 0, none⟩))) :
    Calls Try.prog 63 #[.pointer (some ⟨Bd, 0, none⟩)] w fun e w' => e = .returned (.tuple #[]) ∧ IsD w' b { s with now := 1 - s.now } ∧ w.grownBy w' (some b) := by
  obtain ⟨a0, l0, c0, a1, l1, c1, h⟩ := h
  have hg := h.g1
  have hf := h.fz 1
  have hw : IntKind.i64.wrap (1 - s.now) = 1 - s.now := i64_in (by omega) (by omega)
  go_enter Try.func63, Try.ntmps63
  go_wp2_with fail
  refine mix_begin 7 (Held fun w' => w'.cell? ⟨Bd, 0, none⟩ = some (.pointer (some ⟨b, 0, none⟩)) ∧ w'.cell? ⟨b, 1, none⟩ = some (.int .i64 s.now)) (by kernel_rfl) (by kernel_rfl) (Held.mk ⟨hc, hg⟩) (fun hS => ?_)
  refine mix_take (v := ?_) 0 rfl (by decide) (by kernel_rfl) (by kernel_rfl) (fun _ _ _ h => h) hS rfl ?_ ?_
  rotate_left
  · (intro w' hw'; first | (go_simp; done) | (go_simp; with_reducible rfl) | (obtain ⟨g1, g2⟩ := hw'.out; first | (go_simp; done) | (go_simp; with_reducible rfl)))
  simp only [Act.put, List.setIfInBounds_toArray, List.set_cons_zero, List.set_cons_succ]
  refine mix_take (v := ?_) 1 rfl (by decide) (by kernel_rfl) (by kernel_rfl) (fun _ _ _ h => h) hS rfl ?_ ?_
  rotate_left
  · (intro w' hw'; first | (go_simp; done) | (go_simp; with_reducible rfl) | (obtain ⟨g1, g2⟩ := hw'.out; first | (go_simp; done) | (go_simp; with_reducible rfl)))
  simp only [Act.put, List.setIfInBounds_toArray, List.set_cons_zero, List.set_cons_succ]
  refine mix_take (v := ?_) 2 rfl (by decide) (by kernel_rfl) (by kernel_rfl) (fun _ _ _ h => h) hS rfl ?_ ?_
  rotate_left
  · (intro w' hw'; first | (go_simp; done) | (go_simp; with_reducible rfl) | (obtain ⟨g1, g2⟩ := hw'.out; first | (go_simp; done) | (go_simp; with_reducible rfl)))
  simp only [Act.put, List.setIfInBounds_toArray, List.set_cons_zero, List.set_cons_succ]
  refine mix_take (v := ?_) 3 rfl (by decide) (by kernel_rfl) (by kernel_rfl) (fun _ _ _ h => h) hS rfl ?_ ?_
  rotate_left
  · (intro w' hw'; first | (go_simp; done) | (go_simp; with_reducible rfl) | (obtain ⟨g1, g2⟩ := hw'.out; first | (go_simp; done) | (go_simp; with_reducible rfl)))
  simp only [Act.put, List.setIfInBounds_toArray, List.set_cons_zero, List.set_cons_succ]
  refine mix_take (v := ?_) 4 rfl (by decide) (by kernel_rfl) (by kernel_rfl) (fun _ _ _ h => h) hS rfl ?_ ?_
  rotate_left
  · (intro w' hw'; first | (go_simp; done) | (go_simp; with_reducible rfl) | (obtain ⟨g1, g2⟩ := hw'.out; first | (go_simp; done) | (go_simp; with_reducible rfl)))
  simp only [Act.put, List.setIfInBounds_toArray, List.set_cons_zero, List.set_cons_succ]
  refine mix_take (v := ?_) 5 rfl (by decide) (by kernel_rfl) (by kernel_rfl) (fun _ _ _ h => h) hS rfl ?_ ?_
  rotate_left
  · (intro w' hw'; first | (go_simp; done) | (go_simp; with_reducible rfl) | (obtain ⟨g1, g2⟩ := hw'.out; first | (go_simp; done) | (go_simp; with_reducible rfl)))
  simp only [Act.put, List.setIfInBounds_toArray, List.set_cons_zero, List.set_cons_succ]
  refine mix_take (v := ?_) 6 rfl (by decide) (by kernel_rfl) (by kernel_rfl) (fun _ _ _ h => h) hS rfl ?_ ?_
  rotate_left
  · (intro w' hw'; first | (go_simp; done) | (go_simp; with_reducible rfl) | (obtain ⟨g1, g2⟩ := hw'.out; first | (go_simp; done) | (go_simp; with_reducible rfl)))
  simp only [Act.put, List.setIfInBounds_toArray, List.set_cons_zero, List.set_cons_succ]
  refine mix_done (by kernel_rfl) ?_
  simp only [List.drop_succ_cons, List.drop_zero]
  have hd := h.later (below_drew w)
  have hf2 := hd.fz 1
  have hg2 := hd.g1
  go_wp2_with fail
  go_end0
  exact ⟨rfl, (hd.now _).isD, grown_trans (grown_of_below (below_drew w)) (grown_set _ _ _ _)⟩
set_option maxRecDepth 100000 in
theorem switch_c (b : Nat) (s : DS) (w : World) (h : IsD w b s) (hs : 0 ≤ s.now ∧ s.now ≤ 1) (hsl : LeftOk s.left) :
    Calls Try.prog 26 #[.pointer (some ⟨b, 0, none⟩)] w fun e w' => e = .returned (.int .i64 s.switch.2) ∧ IsD w' b s.switch.1 ∧ w.grownBy w' (some b) := by
  have hblt := h.lt
  go_enter Try.func26, Try.ntmps26
  go_wp2_with fail
  obtain ⟨w0, hw0⟩ : ∃ w0, w.alloc (.cells #[.pointer (some ⟨b, 0, none⟩)] 40) = w0 := ⟨_, rfl⟩
  have hb0 : Below w.heap.size w w0 := by rw [← hw0]; exact below_alloc _ _
  have hc0 : w0.cell? ⟨w.heap.size, 0, none⟩ = some (.pointer (some ⟨b, 0, none⟩)) := by rw [← hw0]; exact (Box.new w _ _).cell
  have h0 := h.later hb0
  rw [hw0]
  clear hw0
  have hof := fun W (hW : IsD W b s) => of_c _ _ 0 W hW.noneIs
  refine mix_begin 4 (Held fun w' => w'.cell? ⟨w.heap.size, 0, none⟩ = some (.pointer (some ⟨b, 0, none⟩)) ∧ IsD w' b s ∧ Below w0.heap.size w0 w') (by kernel_rfl) (by kernel_rfl) (Held.mk ⟨hc0, h0.later (below_drew _), below_drew _⟩) (fun hS => ?_)
  refine mix_take (v := ?_) 0 rfl (by decide) (by kernel_rfl) (by kernel_rfl) (fun _ _ _ h => h) hS rfl ?_ ?_
  rotate_left
  · (intro w' hw'; first | (go_simp; done) | (go_simp; with_reducible rfl) | (obtain ⟨g1, g2, g3⟩ := hw'.out; first | (go_simp; done) | (go_simp; with_reducible rfl)))
  simp only [Act.put, List.setIfInBounds_toArray, List.set_cons_zero, List.set_cons_succ]
  refine mix_take (v := ?_) 1 rfl (by decide) (by kernel_rfl) (by kernel_rfl) (fun _ _ _ h => h) hS rfl ?_ ?_
  rotate_left
  · (intro w' hw'; first | (go_simp; done) | (go_simp; with_reducible rfl) | (obtain ⟨g1, g2, g3⟩ := hw'.out; first | (go_simp; done) | (go_simp; with_reducible rfl)))
  simp only [Act.put, List.setIfInBounds_toArray, List.set_cons_zero, List.set_cons_succ]
  refine mix_take (v := ?_) 2 rfl (by decide) (by kernel_rfl) (by kernel_rfl) (fun _ _ _ h => h) hS rfl ?_ ?_
  rotate_left
  · (intro w' hw'; first | (go_simp; done) | (go_simp; with_reducible rfl) | (obtain ⟨g1, g2, g3⟩ := hw'.out; first | (go_simp; done) | (go_simp; with_reducible rfl)))
  simp only [Act.put, List.setIfInBounds_toArray, List.set_cons_zero, List.set_cons_succ]
  refine mix_step 3 rfl (by decide) (by kernel_rfl) ?_
  have g := hS.out
  go_wp2_with fail
  refine (hof _ g.2.1).mono ?_
  rintro e w2 ⟨v2, rfl, ho2, hb2⟩
  obtain ⟨a2, c2, rfl, hs2⟩ := ho2.slice
  go_wp2_with fail
  refine mix_out (Held.mk ⟨below_cell hb2 g.1, g.2.1.later hb2, below_then g.2.2 hb2⟩) (fun hS => ?_)
  refine mix_done (by kernel_rfl) ?_
  simp only [List.drop_succ_cons, List.drop_zero]
  obtain ⟨g1, g2, g3⟩ := hS.out
  have hact := act_c b s { s.acted with now := 1 - s.now } 63 #[.pointer (some ⟨w.heap.size, 0, none⟩)] a2 2 c2 _ (by decide) _ g2 hsl rfl hs2 (enters_of Try.func63 (by kernel_rfl) rfl) (fun _ _ w1 hd1 hg1 => switch_do b w.heap.size s.acted w1 hd1 hs (grown_cell hg1 g1 (by omega)))
  rw [show firstA [(false, 1), (!fileOk 0, 2)] = 0 from rfl] at hact
  simp only [ne_eq, not_true_eq_false, if_false] at hact
  have hact2 := hact.mono (R' := fun e w' => e = .returned (.int .i64 s.switch.2) ∧ IsD w' b s.switch.1 ∧ World.grownBy _ w' (some b)) fun e w' ⟨he, h1, h2⟩ => by
    unfold DS.switch
    by_cases hl : s.left = 0
    · simp only [hl, if_true] at he h1 ⊢; exact ⟨he, h1, h2⟩
    · simp only [hl, if_false] at he h1 ⊢; exact ⟨he, h1, h2⟩
  clear hact
  have HA := Lib.hid hact2; clear hact2
  go_wp2_with fail
  refine HA.out.mono ?_
  rintro e w3 ⟨rfl, hd3, hg3⟩
  go_wp2_with fail
  go_ret
  exact ⟨rfl, hd3, grown_trans (grown_of_below hb0) (grown_trans (grown_of_below g3) hg3)⟩
theorem switch_no (dv : Value) (w : World) (h : NoD w dv) : Calls Try.prog 26 #[dv] w fun e w' => e = .returned (.int .i64 1) ∧ Below w.heap.size w w' := by
  obtain ⟨p, rfl⟩ := h.ptr
  have HH := Lib.hid h; clear h
  go_enter Try.func26, Try.ntmps26
  go_wp2_with fail
  have h := HH.out
  obtain ⟨w0, hw0⟩ : ∃ w0, w.alloc (.cells #[.pointer p] 40) = w0 := ⟨_, rfl⟩
  have hb0 : Below w.heap.size w w0 := by rw [← hw0]; exact below_alloc _ _
  have hc0 : w0.cell? ⟨w.heap.size, 0, none⟩ = some (.pointer p) := by rw [← hw0]; exact (Box.new w _ _).cell
  have h0 := h.later hb0
  rw [hw0]
  clear hw0
  have hof := fun W (hW : NoD W (.pointer p)) => of_c _ _ 0 W hW.noneIs
  refine mix_begin 4 (Held fun w' => w'.cell? ⟨w.heap.size, 0, none⟩ = some (.pointer p) ∧ NoD w' (.pointer p) ∧ Below w0.heap.size w0 w') (by kernel_rfl) (by kernel_rfl) (Held.mk ⟨hc0, h0.later (below_drew _), below_drew _⟩) (fun hS => ?_)
  refine mix_take (v := ?_) 0 rfl (by decide) (by kernel_rfl) (by kernel_rfl) (fun _ _ _ h => h) hS rfl ?_ ?_
  rotate_left
  · (intro w' hw'; first | (go_simp; done) | (go_simp; with_reducible rfl) | (obtain ⟨g1, g2, g3⟩ := hw'.out; first | (go_simp; done) | (go_simp; with_reducible rfl)))
  simp only [Act.put, List.setIfInBounds_toArray, List.set_cons_zero, List.set_cons_succ]
  refine mix_take (v := ?_) 1 rfl (by decide) (by kernel_rfl) (by kernel_rfl) (fun _ _ _ h => h) hS rfl ?_ ?_
  rotate_left
  · (intro w' hw'; first | (go_simp; done) | (go_simp; with_reducible rfl) | (obtain ⟨g1, g2, g3⟩ := hw'.out; first | (go_simp; done) | (go_simp; with_reducible rfl)))
  simp only [Act.put, List.setIfInBounds_toArray, List.set_cons_zero, List.set_cons_succ]
  refine mix_take (v := ?_) 2 rfl (by decide) (by kernel_rfl) (by kernel_rfl) (fun _ _ _ h => h) hS rfl ?_ ?_
  rotate_left
  · (intro w' hw'; first | (go_simp; done) | (go_simp; with_reducible rfl) | (obtain ⟨g1, g2, g3⟩ := hw'.out; first | (go_simp; done) | (go_simp; with_reducible rfl)))
  simp only [Act.put, List.setIfInBounds_toArray, List.set_cons_zero, List.set_cons_succ]
  refine mix_step 3 rfl (by decide) (by kernel_rfl) ?_
  have g := hS.out
  go_wp2_with fail
  refine (hof _ g.2.1).mono ?_
  rintro e w2 ⟨v2, rfl, ho2, hb2⟩
  obtain ⟨a2, c2, rfl, hs2⟩ := ho2.slice
  go_wp2_with fail
  refine mix_out (Held.mk ⟨below_cell hb2 g.1, g.2.1.later hb2, below_then g.2.2 hb2⟩) (fun hS => ?_)
  refine mix_done (by kernel_rfl) ?_
  simp only [List.drop_succ_cons, List.drop_zero]
  obtain ⟨g1, g2, g3⟩ := hS.out
  have hact := act_no (.pointer p) (.func (.func 63) #[] #[.pointer (some ⟨w.heap.size, 0, none⟩)]) a2 2 c2 _ (by decide) _ rfl hs2 (by decide)
  have HA := Lib.hid hact; clear hact
  go_wp2_with fail
  refine HA.out.mono ?_
  rintro e w3 ⟨rfl, hb3⟩
  go_wp2_with fail
  go_ret
  exact ⟨rfl, below_then (below_then hb0 g3) hb3⟩
end Go.Proofs.Ytpobnbiakneoiaa
