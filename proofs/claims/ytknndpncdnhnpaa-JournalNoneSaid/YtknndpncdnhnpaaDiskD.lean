import Derived.Test.YtknndpncdnhnpaaDiskC
import Derived.Deep.Upon
import Derived.ArgAppend
namespace Go.Proofs.Ytknndpncdnhnpaa
open Go.RowKit Go.Cas

/-- 'append(s[:n:n], xs...)' -/
theorem wpList_append_capped {w : World} {ops : Array Oper} {rest : List Oper} {o : Oper} {a : Act} {Q : Exit → Act → World → Prop} (hgd : o.guard = none) (s x : Operand)
    (ho : o.op = .call { callee := .builtin .append, args := #[s, x], argTypes := #[32, 32] })
    (sa : Option Addr) (n : Nat) (l : List UInt8) (hs : a.eval s = .slice sa n n) (hsl : IsB w sa n n l) (ad : Option Addr) (m c : Nat) (l' : List UInt8) (hx : a.eval x = .slice ad m c) (hxl : IsB w ad m c l') (hbig : n + m ≤ 2 ^ 46)
    (h : ∀ a' c' w', IsB w' a' (n + m) c' (l ++ l') → Below w.heap.size w w' → ((a' = sa ∧ c' = n) ∨ ∀ ad', a' = some ad' → w.heap.size ≤ ad'.block) → wpList Try.prog ops Q rest (a.put o.dst (.slice a' (n + m) c')) w') :
    wpList Try.prog ops Q (o :: rest) a w := by
  have hin := infoU8
  obtain ⟨i, hi, hz, hsize, hby⟩ := info_parts hin
  cases m with
  | zero =>
    have hl' : l' = [] := List.eq_nil_of_length_eq_zero hxl.len
    subst hl'
    have hsrc : Src Try.prog i.size 32 (.slice ad 0 c) 0 [] w := by
      cases ad with
      | none => exact Src.ofNil w Try.underlying32 c
      | some ad => exact Src.ofSlice w Try.underlying32 ad 0 c [] (by simp) (fun j u hu => by simp at hu) (fun u hu => by simp at hu)
    have hrun := run_append_nothing (P := Try.prog) w 32 32 o.type 5 i Try.underlying32 hi sa n n (Nat.le_refl _) _ hsrc
    refine wpList_plain hgd fun K hK' => ?_
    unfold Oper.wp
    simp [execOp, ho, resolve, invoke, builtin, hs, hx, hrun, Result.andThen]
    exact hK' _ _ (by have := h sa n w (by simpa using hsl) (Below.refl _ _) (.inl ⟨rfl, rfl⟩); simpa using this)
  | succ m =>
    obtain ⟨b', off', rfl, _⟩ := hxl.some_of_lt (by have := hxl.le; omega)
    have hll := hsl.len
    have hxx := hxl.len
    refine wpList_append_grows w hgd s x 32 ho 5 i _ 1 1 Try.underlying32 hi hz hsize hby rfl (by decide) sa n n (bvs l) hs (fun hn => by have := hsl.2.2.2.1 hn; omega) (by rw [bvs_len]; omega) ?_ ⟨b', off', none⟩ (m + 1) c (bvs l') hx (by rw [bvs_len]; omega) ?_ (bvs_one _) (by omega) (by unfold maxLen; omega) (by omega) ?_
    · rintro bb rfl j u hu
      have hj : j < n := by have := (List.getElem?_eq_some_iff.1 hu).1; rw [bvs_len] at this; omega
      obtain ⟨b2, off2, he, _⟩ := hsl.some_of_lt (by omega)
      obtain rfl := Option.some.inj he
      rw [show (⟨b2, off2, none⟩ : Addr).add j = ⟨b2, off2 + j, none⟩ from by unfold Addr.add; split <;> simp_all]
      exact (Sl.cell hsl (by omega)).trans hu
    · intro j u hu
      have hj : j < m + 1 := by have := (List.getElem?_eq_some_iff.1 hu).1; rw [bvs_len] at this; omega
      rw [show (⟨b', off', none⟩ : Addr).add j = ⟨b', off' + j, none⟩ from by unfold Addr.add; split <;> simp_all]
      exact (Sl.cell hxl (by omega)).trans hu
    · intro v' w' hown hg
      have hob : OwnB w' w.heap.size 5 v' (l ++ l') := by
        unfold OwnB
        rw [bvs_append, List.length_append, hll, hxx]
        exact hown
      obtain ⟨a', c', rfl, hsl'⟩ := hob.slice
      rw [List.length_append, hll, hxx] at hsl' hob
      have hbel : Below w.heap.size w w' := ⟨hg.os, hg.tape, hg.output, hg.size, fun k hk => hg.block k hk (by simp)⟩
      have := h a' c' w' hsl' hbel (.inr (own_block hob))
      rw [List.length_append, hll, hxx]
      exact this

/-- a file's bytes, how many of them last -/
def DS.fl (s : DS) (n : Int) : List UInt8 := if n = 0 then s.f0 else s.f1
def DS.la (s : DS) (n : Int) : Nat := if n = 0 then s.n0 else s.n1
def DS.setF (s : DS) (n : Int) (f : List UInt8) : DS := if n = 0 then { s with f0 := f } else { s with f1 := f }
def DS.setN (s : DS) (n : Int) (x : Nat) : DS := if n = 0 then { s with n0 := x } else { s with n1 := x }
def DS.acted (s : DS) : DS := { s with left := decr s.left }
theorem fileOk_iff (n : Int) : fileOk n = true ↔ 0 ≤ n ∧ n < 2 := by simp [fileOk]
theorem file_two {n : Int} (h : fileOk n = true) : n = 0 ∨ n = 1 := by have := (fileOk_iff n).1 h; omega
theorem below_drew (w : World) : Below w.heap.size w w.drew := (Below.refl _ _).drew
theorem grown_cell {w w' : World} {b c i : Nat} {v : Value} (hg : w.grownBy w' (some b)) (hc : w.cell? ⟨c, i, none⟩ = some v) (hne : c ≠ b) : w'.cell? ⟨c, i, none⟩ = some v :=
  (World.cell?_of_block (hg.block c (World.block_lt_of_cell? w ⟨c, i, none⟩ hc) (fun e => hne (Option.some.inj e)))).trans hc

theorem NoD.ptr {w : World} {v : Value} (h : NoD w v) : ∃ p, v = .pointer p := by
  rcases h with rfl | ⟨b, rfl, _⟩
  · exact ⟨_, rfl⟩
  · exact ⟨_, rfl⟩
/-- An act, whatever comes of it. -/
theorem act_c (b : Nat) (s s' : DS) (g : FuncId) (cs : Array Value) (a : Option Addr) (n cap : Nat) (l : List (Bool × Int)) (hn : n ≤ 2 ^ 40) (w : World) (hd : IsD w b s) (hsl : LeftOk s.left) (hl : l.length = n) (h : Sl w 2 a n cap (askV l))
    (eg : ∀ args w, (callFunc g args).run Try.prog w = .ok (.enter g args) w)
    (hdo : firstA l = 0 → s.left ≠ 0 → ∀ w1, IsD w1 b s.acted → w.grownBy w1 (some b) → Calls Try.prog g cs w1 fun e w2 => e = .returned (.tuple #[]) ∧ IsD w2 b s' ∧ w1.grownBy w2 (some b)) :
    Calls Try.prog 40 #[.pointer (some ⟨b, 0, none⟩), .func (.func g) #[] cs, .slice a n cap] w fun e w' =>
      e = .returned (.int .i64 (if firstA l ≠ 0 then firstA l else if s.left = 0 then 171 else 0)) ∧ IsD w' b (if firstA l ≠ 0 then s else if s.left = 0 then s else s') ∧ w.grownBy w' (some b) := by
  by_cases h1 : firstA l = 0
  · simp only [h1, ne_eq, not_true_eq_false, if_false]
    by_cases h2 : s.left = 0
    · simp only [h2, if_true]
      exact (act_stop b s _ a n cap l hn w hd hl h h1 h2).mono fun e w' ⟨he, hb⟩ => ⟨he, hd.later hb, grown_of_below hb⟩
    · simp only [h2, if_false]
      refine (act_do b s g cs a n cap l hn w hd hsl hl h h1 h2 eg (fun w2 => IsD w2 b s' ∧ w.grownBy w2 (some b)) fun w1 hd1 hg1 => ?_).mono fun e w' ⟨he, hd', hg⟩ => ⟨he, hd', hg⟩
      exact (hdo h1 h2 w1 hd1 hg1).mono fun e w2 ⟨he, hd2, hg2⟩ => ⟨he, hd2, grown_trans hg1 hg2⟩
  · simp only [h1, ne_eq, not_false_eq_true, if_true]
    exact (act_no _ _ a n cap l hn w hl h h1).mono fun e w' ⟨he, hb⟩ => ⟨he, hd.later hb, grown_of_below hb⟩

/-! ### Switch -/
def DS.switch (s : DS) : DS × Int := if s.left = 0 then (s, 171) else ({ s.acted with now := 1 - s.now }, 0)
end Go.Proofs.Ytknndpncdnhnpaa
