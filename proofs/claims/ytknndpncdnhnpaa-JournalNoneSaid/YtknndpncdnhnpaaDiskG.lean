import Derived.Test.YtknndpncdnhnpaaDiskF
namespace Go.Proofs.Ytknndpncdnhnpaa
open Go.RowKit Go.Cas

theorem firstA3 (x : Bool) (y : Int) (n : Int) (h : fileOk n = true) : firstA ([(false, 1), (!fileOk n, 2)] ++ [(x, y)]) = if x = true then y else 0 := by
  cases x <;> simp [firstA, h]
theorem OwnA.later {w w' : World} {base : Nat} {v : Value} {l : List (Bool × Int)} (h : OwnA w base v l) (hb : Below w.heap.size w w') : OwnA w' base v l := ownsRow_later h hb
theorem OwnA.sl {w : World} {base : Nat} {a : Option Addr} {n c : Nat} {l : List (Bool × Int)} (h : OwnA w base (.slice a n c) l) : Sl w 2 a n c (askV l) ∧ n = l.length := by
  obtain ⟨a', c', hv, hs⟩ := h.slice
  simp only [Value.slice.injEq] at hv
  obtain ⟨rfl, rfl, rfl⟩ := hv
  exact ⟨hs, rfl⟩
/-- 'append(asks, ask)' -/
theorem wpList_append_ask {w : World} {ops : Array Oper} {rest : List Oper} {o : Oper} {a : Act} {Q : Exit → Act → World → Prop} (hgd : o.guard = none) (s x : Operand)
    (ho : o.op = .call { callee := .builtin .append, args := #[s, x], argTypes := #[83, 83] }) (base : Nat) (sa : Option Addr) (n c : Nat) (l : List (Bool × Int)) (hs : a.eval s = .slice sa n c) (hown : OwnA w base (.slice sa n c) l)
    (ad : Option Addr) (m cm : Nat) (ys : List (Bool × Int)) (hx : a.eval x = .slice ad m cm) (hsl : Sl w 2 ad m cm (askV ys)) (hn : n = l.length) (hm : m = ys.length) (hbig : n + m ≤ 2 ^ 40) (hbase : base ≤ w.heap.size)
    (h : ∀ a' c' w', OwnA w' base (.slice a' (n + m) c') (l ++ ys) → Below base w w' → wpList Try.prog ops Q rest (a.put o.dst (.slice a' (n + m) c')) w') : wpList Try.prog ops Q (o :: rest) a w := by
  subst hn hm
  refine wpList_append_sl hgd s x 83 ho base 88 _ 2 16 Try.underlying83 infoAsk rfl (by decide) _ l.length (askV l) hs hown ad _ cm (askV ys) hx hsl (askV_one ys) (by omega) (by unfold maxLen; omega) hbase ?_
  intro a' c' w' ho' hg _
  refine h a' c' w' ?_ ((Below.refl base w).grown hg hbase fun k hk => (World.ownsRow.lt hown k hk).1)
  unfold OwnA
  rw [askV_append, List.length_append]
  exact ho'

set_option maxRecDepth 100000 in
set_option maxHeartbeats 2000000 in
theorem append_c0 (b : Nat) (s : DS) (w : World) (h : IsD w b s) (hsl : LeftOk s.left) (hroom : 0 ≤ s.room ∧ s.room ≤ 2 ^ 40) (ad : Option Addr) (m cm : Nat) (bs : List UInt8) (hbs : IsB w ad m cm bs) (hm : m ≤ 2 ^ 40) (hbig : s.f0.length ≤ 2 ^ 40) (hne : ∀ ad', ad = some ad' → 0 < cm → ad'.block ≠ b) :
    Calls Try.prog 13 #[.pointer (some ⟨b, 0, none⟩), .int .i64 0, .slice ad m cm] w fun e w' => e = .returned (.int .i64 (s.append 0 bs).2) ∧ IsD w' b (s.append 0 bs).1 ∧ w.grownBy w' (some b) := by
  have hblt := h.lt
  have hb0 := below_alloc w (.cells #[.slice ad m cm] 32)
  have h0 := h.later hb0
  have hat := at_c b s 0 _ h0 (by decide) (by decide)
  have hb1 := below_alloc (w.alloc (.cells #[.slice ad m cm] 32)) (.cells #[.pointer (some ⟨b, 3, none⟩)] 81)
  have h1 := h0.later hb1
  have hcb1 := below_cell hb1 (Box.new w (.slice ad m cm) 32).cell
  have hcf1 := (Box.new (w.alloc (.cells #[.slice ad m cm] 32)) (.pointer (some ⟨b, 3, none⟩)) 81).cell
  have hb01 := below_then hb0 hb1
  rw [World.size_alloc] at hcf1
  obtain ⟨w1, hw1⟩ : ∃ w1, (w.alloc (.cells #[.slice ad m cm] 32)).alloc (.cells #[.pointer (some ⟨b, 3, none⟩)] 81) = w1 := ⟨_, rfl⟩
  have hz1 : w.heap.size + 2 = w1.heap.size := by rw [← hw1]; simp
  rw [hw1] at h1 hcb1 hcf1 hb01
  clear hb1 hb0 h0
  have HZ := Lib.hid hz1; clear hz1
  have HW := Lib.hid hw1; clear hw1
  go_enter Try.func13, Try.ntmps13
  go_wp2_with fail
  refine hat.mono ?_
  rintro e wx ⟨rfl, rfl⟩
  clear hat
  go_wp2_with fail
  rw [HW.out]
  refine (of_c _ _ 0 _ h1.noneIs).mono ?_
  rintro e w2 ⟨v2, rfl, ho2, hb2⟩
  obtain ⟨a2, ca2, rfl, hs2⟩ := ho2.slice
  have h2 := h1.later hb2
  have hcb2 := below_cell hb2 hcb1
  have hcf2 := below_cell hb2 hcf1
  clear hcb1 hcf1
  obtain ⟨a0, l0, c0, a1, l1, c1, hd2⟩ := id h2
  have hl : l0 ≤ 2 ^ 40 := by rw [← hd2.b0.len]; exact hbig
  have hlen := hd2.b0.len
  have hwr : IntKind.i64.wrap (s.room - (m : Int)) = s.room - (m : Int) := Go.IntWalk.i64_in _ (by omega)
  have HLEN := Lib.hid hlen; clear hlen
  go_wp2_with fail
  refine mix_begin 22 (Held fun w' => w'.cell? ⟨w.heap.size + 1, 0, none⟩ = some (.pointer (some ⟨b, 3, none⟩)) ∧ w'.cell? ⟨w.heap.size, 0, none⟩ = some (.slice ad m cm) ∧ w'.cell? ⟨b, 3, none⟩ = some (.slice a0 l0 c0) ∧ Below w1.heap.size w1 w') (by kernel_rfl) (by kernel_rfl) (Held.mk ⟨hcf2, hcb2, hd2.g3, hb2.drew⟩) (fun hS => ?_)
  refine mix_take (v := ?_) 0 rfl (by decide) (by kernel_rfl) (by kernel_rfl) (fun _ _ _ h => h) hS rfl ?_ ?_
  rotate_left
  · (intro w' hw'; first | (go_simp; done) | (go_simp; with_reducible rfl) | (obtain ⟨g1, g2, g3, g4⟩ := hw'.out; first | (go_simp; done) | (go_simp; with_reducible rfl)))
  simp only [Act.put, List.setIfInBounds_toArray, List.set_cons_zero, List.set_cons_succ]
  refine mix_take (v := ?_) 1 rfl (by decide) (by kernel_rfl) (by kernel_rfl) (fun _ _ _ h => h) hS rfl ?_ ?_
  rotate_left
  · (intro w' hw'; first | (go_simp; done) | (go_simp; with_reducible rfl) | (obtain ⟨g1, g2, g3, g4⟩ := hw'.out; first | (go_simp; done) | (go_simp; with_reducible rfl)))
  simp only [Act.put, List.setIfInBounds_toArray, List.set_cons_zero, List.set_cons_succ]
  refine mix_take (v := ?_) 2 rfl (by decide) (by kernel_rfl) (by kernel_rfl) (fun _ _ _ h => h) hS rfl ?_ ?_
  rotate_left
  · (intro w' hw'; first | (go_simp; done) | (go_simp; with_reducible rfl) | (obtain ⟨g1, g2, g3, g4⟩ := hw'.out; first | (go_simp; done) | (go_simp; with_reducible rfl)))
  simp only [Act.put, List.setIfInBounds_toArray, List.set_cons_zero, List.set_cons_succ]
  refine mix_take (v := ?_) 3 rfl (by decide) (by kernel_rfl) (by kernel_rfl) (fun _ _ _ h => h) hS rfl ?_ ?_
  rotate_left
  · (intro w' hw'; first | (go_simp; done) | (go_simp; with_reducible rfl) | (obtain ⟨g1, g2, g3, g4⟩ := hw'.out; first | (go_simp; done) | (go_simp; with_reducible rfl)))
  simp only [Act.put, List.setIfInBounds_toArray, List.set_cons_zero, List.set_cons_succ]
  refine mix_step 4 rfl (by decide) (by kernel_rfl) ?_
  have g := hS.out
  have hof := ho2.later (below_drew w2)
  have hfi := first_c a2 2 ca2 [(false, 1), (!fileOk 0, 2)] (by decide) _ rfl (hs2.later (below_drew w2))
  rw [show firstA [(false, 1), (!fileOk 0, 2)] = 0 from rfl] at hfi
  go_wp2_with fail
  refine hfi.mono ?_
  rintro e w3 ⟨rfl, hb3⟩
  clear hfi
  go_wp2_with fail
  refine mix_out (Held.mk ⟨below_cell hb3 g.1, below_cell hb3 g.2.1, below_cell hb3 g.2.2.1, below_then g.2.2.2 hb3⟩) (fun hS => ?_)
  refine mix_take (v := ?_) 5 rfl (by decide) (by kernel_rfl) (by kernel_rfl) (fun _ _ _ h => h) hS rfl ?_ ?_
  rotate_left
  · (intro w' hw'; first | (go_simp; done) | (go_simp; with_reducible rfl) | (obtain ⟨g1, g2, g3, g4⟩ := hw'.out; first | (go_simp; done) | (go_simp; with_reducible rfl)))
  simp only [Act.put, List.setIfInBounds_toArray, List.set_cons_zero, List.set_cons_succ]
  refine mix_take (v := ?_) 6 rfl (by decide) (by kernel_rfl) (by kernel_rfl) (fun _ _ _ h => h) hS rfl ?_ ?_
  rotate_left
  · (intro w' hw'; first | (go_simp; done) | (go_simp; with_reducible rfl) | (obtain ⟨g1, g2, g3, g4⟩ := hw'.out; first | (go_simp; done) | (go_simp; with_reducible rfl)))
  simp only [Act.put, List.setIfInBounds_toArray, List.set_cons_zero, List.set_cons_succ]
  refine mix_take (v := ?_) 7 rfl (by decide) (by kernel_rfl) (by kernel_rfl) (fun _ _ _ h => h) hS rfl ?_ ?_
  rotate_left
  · (intro w' hw'; first | (go_simp; done) | (go_simp; with_reducible rfl) | (obtain ⟨g1, g2, g3, g4⟩ := hw'.out; first | (go_simp; done) | (go_simp; with_reducible rfl)))
  simp only [Act.put, List.setIfInBounds_toArray, List.set_cons_zero, List.set_cons_succ]
  refine mix_take (v := ?_) 8 rfl (by decide) (by kernel_rfl) (by kernel_rfl) (fun _ _ _ h => h) hS rfl ?_ ?_
  rotate_left
  · (intro w' hw'; first | (go_simp; done) | (go_simp; with_reducible rfl) | (obtain ⟨g1, g2, g3, g4⟩ := hw'.out; first | (go_simp; done) | (go_simp; with_reducible rfl)))
  simp only [Act.put, List.setIfInBounds_toArray, List.set_cons_zero, List.set_cons_succ]
  refine mix_take (v := ?_) 9 rfl (by decide) (by kernel_rfl) (by kernel_rfl) (fun _ _ _ h => h) hS rfl ?_ ?_
  rotate_left
  · (intro w' hw'; first | (go_simp; done) | (go_simp; with_reducible rfl) | (obtain ⟨g1, g2, g3, g4⟩ := hw'.out; first | (go_simp; done) | (go_simp; with_reducible rfl)))
  simp only [Act.put, List.setIfInBounds_toArray, List.set_cons_zero, List.set_cons_succ]
  refine mix_take (v := ?_) 10 rfl (by decide) (by kernel_rfl) (by kernel_rfl) (fun _ _ _ h => h) hS rfl ?_ ?_
  rotate_left
  · (intro w' hw'; first | (go_simp; done) | (go_simp; with_reducible rfl) | (obtain ⟨g1, g2, g3, g4⟩ := hw'.out; first | (go_simp; done) | (go_simp; with_reducible rfl)))
  simp only [Act.put, List.setIfInBounds_toArray, List.set_cons_zero, List.set_cons_succ]
  refine mix_take (v := ?_) 11 rfl (by decide) (by kernel_rfl) (by kernel_rfl) (fun _ _ _ h => h) hS rfl ?_ ?_
  rotate_left
  · (intro w' hw'; first | (go_simp; done) | (go_simp; with_reducible rfl) | (obtain ⟨g1, g2, g3, g4⟩ := hw'.out; first | (go_simp; done) | (go_simp; with_reducible rfl)))
  simp only [Act.put, List.setIfInBounds_toArray, List.set_cons_zero, List.set_cons_succ]
  refine mix_take (v := ?_) 12 rfl (by decide) (by kernel_rfl) (by kernel_rfl) (fun _ _ _ h => h) hS rfl ?_ ?_
  rotate_left
  · (intro w' hw'; first | (go_simp; done) | (go_simp; with_reducible rfl) | (obtain ⟨g1, g2, g3, g4⟩ := hw'.out; first | (go_simp; done) | (go_simp; with_reducible rfl)))
  simp only [Act.put, List.setIfInBounds_toArray, List.set_cons_zero, List.set_cons_succ]
  refine mix_take (v := ?_) 14 rfl (by decide) (by kernel_rfl) (by kernel_rfl) (fun _ _ _ h => h) hS rfl ?_ ?_
  rotate_left
  · (intro w' hw'; first | (go_simp; done) | (go_simp; with_reducible rfl) | (obtain ⟨g1, g2, g3, g4⟩ := hw'.out; first | (go_simp; done) | (go_simp; with_reducible rfl)))
  simp only [Act.put, List.setIfInBounds_toArray, List.set_cons_zero, List.set_cons_succ]
  refine mix_take (v := ?_) 15 rfl (by decide) (by kernel_rfl) (by kernel_rfl) (fun _ _ _ h => h) hS rfl ?_ ?_
  rotate_left
  · (intro w' hw'; first | (go_simp; done) | (go_simp; with_reducible rfl) | (obtain ⟨g1, g2, g3, g4⟩ := hw'.out; first | (go_simp; done) | (go_simp; with_reducible rfl)))
  simp only [Act.put, List.setIfInBounds_toArray, List.set_cons_zero, List.set_cons_succ]
  refine mix_step 13 rfl (by decide) (by kernel_rfl) ?_
  clear g
  have g := hS.out
  have hof3 := hof.later hb3
  have hsp := space_c b s _ (h1.later g.2.2.2)
  go_wp2_with fail
  refine hsp.mono ?_
  rintro e w4 ⟨rfl, rfl⟩
  clear hsp
  go_wp2_with fail
  refine mix_out (Held.mk g) (fun hS => ?_)
  refine mix_take (v := ?_) 16 rfl (by decide) (by kernel_rfl) (by kernel_rfl) (fun _ _ _ h => h) hS rfl ?_ ?_
  rotate_left
  · (intro w' hw'; first | (go_simp; done) | (go_simp; with_reducible rfl) | (obtain ⟨g1, g2, g3, g4⟩ := hw'.out; first | (go_simp; done) | (go_simp; with_reducible rfl)))
  simp only [Act.put, List.setIfInBounds_toArray, List.set_cons_zero, List.set_cons_succ]
  refine mix_take (v := ?_) 17 rfl (by decide) (by kernel_rfl) (by kernel_rfl) (fun _ _ _ h => h) hS rfl ?_ ?_
  rotate_left
  · (intro w' hw'; first | (go_simp; done) | (go_simp; with_reducible rfl) | (obtain ⟨g1, g2, g3, g4⟩ := hw'.out; first | (go_simp; done) | (go_simp; with_reducible rfl)))
  simp only [Act.put, List.setIfInBounds_toArray, List.set_cons_zero, List.set_cons_succ]
  refine mix_take (v := ?_) 18 rfl (by decide) (by kernel_rfl) (by kernel_rfl) (fun _ _ _ h => h) hS rfl ?_ ?_
  rotate_left
  · (intro w' hw'; first | (go_simp; done) | (go_simp; with_reducible rfl) | (obtain ⟨g1, g2, g3, g4⟩ := hw'.out; first | (go_simp; done) | (go_simp; with_reducible rfl)))
  simp only [Act.put, List.setIfInBounds_toArray, List.set_cons_zero, List.set_cons_succ]
  refine mix_take (v := ?_) 19 rfl (by decide) (by kernel_rfl) (by kernel_rfl) (fun _ _ _ h => h) hS rfl ?_ ?_
  rotate_left
  · (intro w' hw'; first | (go_simp; done) | (go_simp; with_reducible rfl) | (obtain ⟨g1, g2, g3, g4⟩ := hw'.out; first | (go_simp; done) | (go_simp; with_reducible rfl)))
  simp only [Act.put, List.setIfInBounds_toArray, List.set_cons_zero, List.set_cons_succ]
  refine mix_step 20 rfl (by decide) (by kernel_rfl) ?_
  have hbk := below_alloc w3 (.cells #[.bool (decide (s.room - (m : Int) < (l0 : Int))), .int .i64 170] 88)
  go_wp2_with fail
  refine mix_out (Held.mk ⟨below_cell hbk g.1, below_cell hbk g.2.1, below_cell hbk g.2.2.1, below_then g.2.2.2 hbk⟩) (fun hS => ?_)
  refine mix_step 21 rfl (by decide) (by kernel_rfl) ?_
  clear g
  have g := hS.out
  have hof4 := hof3.later hbk
  have hnew := ask_new w3 (decide (s.room - (m : Int) < (l0 : Int))) 170
  have hsz3 := hb3.size
  refine wpList_append_ask rfl _ _ rfl w1.heap.size a2 2 ca2 _ rfl hof4 _ 1 1 _ rfl hnew rfl rfl (by decide) g.2.2.2.size ?_
  intro a5 c5 w5 ho5 hb5
  go_wp2_with fail
  refine mix_out (Held.mk ⟨(hb5.cell (by have := HZ.out; show w.heap.size + 1 < _; omega)).trans g.1, (hb5.cell (by have := HZ.out; show w.heap.size < _; omega)).trans g.2.1, (hb5.cell (by have := HZ.out; show b < _; omega)).trans g.2.2.1, g.2.2.2.trans hb5⟩) (fun hS => ?_)
  refine mix_done (by kernel_rfl) ?_
  simp only [List.drop_succ_cons, List.drop_zero]
  clear g
  have g := hS.out
  obtain ⟨hs5, -⟩ := ho5.sl
  have hbs5 := (hbs.later hb01).later g.2.2.2
  have hact := act_c b s (s.acted.setF 0 (s.fl 0 ++ bs)) 41 #[.pointer (some ⟨w.heap.size + 1, 0, none⟩), .pointer (some ⟨w.heap.size, 0, none⟩)] a5 3 c5 _ (by decide) w5 (h1.later g.2.2.2) hsl rfl hs5 (enters_of Try.func41 (by kernel_rfl) rfl)
    (fun _ _ w1' hd1 hg1 => append_do0 b (w.heap.size + 1) w.heap.size s.acted w1' hd1 (grown_cell hg1 g.1 (by omega)) ad m cm bs (grown_cell hg1 g.2.1 (by omega)) (hbs5.grown' hg1 (fun ad' ha h0 e => hne ad' ha h0 (Option.some.inj e))) hm hbig)
  rw [firstA3 _ _ 0 rfl] at hact
  have hact2 := hact.mono (R' := fun e w' => e = .returned (.int .i64 (s.append 0 bs).2) ∧ IsD w' b (s.append 0 bs).1 ∧ World.grownBy _ w' (some b)) fun e w' ⟨he, h1, h2⟩ => by
    have e1 : (s.append 0 bs) = if s.room - (m : Int) < (l0 : Int) then (s, 170) else if s.left = 0 then (s, 171) else (s.acted.setF 0 (s.fl 0 ++ bs), 0) := by
      rw [← HLEN.out, ← hbs.len]
      rfl
    rw [e1]
    by_cases hfull : s.room - (m : Int) < (l0 : Int)
    · simp only [hfull, decide_true, if_true, ne_eq, show ¬ ((170 : Int) = 0) from by decide, not_false_eq_true] at he h1 ⊢; exact ⟨he, h1, h2⟩
    · simp only [hfull, decide_false, if_false, ne_eq, not_true_eq_false, Bool.false_eq_true] at he h1 ⊢
      by_cases hl0 : s.left = 0
      · simp only [hl0, if_true] at he h1 ⊢; exact ⟨he, h1, h2⟩
      · simp only [hl0, if_false] at he h1 ⊢; exact ⟨he, h1, h2⟩
  clear hact
  have HA := Lib.hid hact2; clear hact2
  go_wp2_with fail
  refine HA.out.mono ?_
  rintro e w6 ⟨rfl, hd6, hg6⟩
  go_wp2_with fail
  go_ret
  exact ⟨rfl, hd6, grown_trans (grown_of_below (hb01.trans (g.2.2.2.mono hb01.size))) hg6⟩
set_option maxRecDepth 100000 in
set_option maxHeartbeats 2000000 in
theorem append_c1 (b : Nat) (s : DS) (w : World) (h : IsD w b s) (hsl : LeftOk s.left) (hroom : 0 ≤ s.room ∧ s.room ≤ 2 ^ 40) (ad : Option Addr) (m cm : Nat) (bs : List UInt8) (hbs : IsB w ad m cm bs) (hm : m ≤ 2 ^ 40) (hbig : s.f1.length ≤ 2 ^ 40) (hne : ∀ ad', ad = some ad' → 0 < cm → ad'.block ≠ b) :
    Calls Try.prog 13 #[.pointer (some ⟨b, 0, none⟩), .int .i64 1, .slice ad m cm] w fun e w' => e = .returned (.int .i64 (s.append 1 bs).2) ∧ IsD w' b (s.append 1 bs).1 ∧ w.grownBy w' (some b) := by
  have hblt := h.lt
  have hb0 := below_alloc w (.cells #[.slice ad m cm] 32)
  have h0 := h.later hb0
  have hat := at_c b s 1 _ h0 (by decide) (by decide)
  have hb1 := below_alloc (w.alloc (.cells #[.slice ad m cm] 32)) (.cells #[.pointer (some ⟨b, 5, none⟩)] 81)
  have h1 := h0.later hb1
  have hcb1 := below_cell hb1 (Box.new w (.slice ad m cm) 32).cell
  have hcf1 := (Box.new (w.alloc (.cells #[.slice ad m cm] 32)) (.pointer (some ⟨b, 5, none⟩)) 81).cell
  have hb01 := below_then hb0 hb1
  rw [World.size_alloc] at hcf1
  obtain ⟨w1, hw1⟩ : ∃ w1, (w.alloc (.cells #[.slice ad m cm] 32)).alloc (.cells #[.pointer (some ⟨b, 5, none⟩)] 81) = w1 := ⟨_, rfl⟩
  have hz1 : w.heap.size + 2 = w1.heap.size := by rw [← hw1]; simp
  rw [hw1] at h1 hcb1 hcf1 hb01
  clear hb1 hb0 h0
  have HZ := Lib.hid hz1; clear hz1
  have HW := Lib.hid hw1; clear hw1
  go_enter Try.func13, Try.ntmps13
  go_wp2_with fail
  refine hat.mono ?_
  rintro e wx ⟨rfl, rfl⟩
  clear hat
  go_wp2_with fail
  rw [HW.out]
  refine (of_c _ _ 1 _ h1.noneIs).mono ?_
  rintro e w2 ⟨v2, rfl, ho2, hb2⟩
  obtain ⟨a2, ca2, rfl, hs2⟩ := ho2.slice
  have h2 := h1.later hb2
  have hcb2 := below_cell hb2 hcb1
  have hcf2 := below_cell hb2 hcf1
  clear hcb1 hcf1
  obtain ⟨a0, l0, c0, a1, l1, c1, hd2⟩ := id h2
  have hl : l1 ≤ 2 ^ 40 := by rw [← hd2.b1.len]; exact hbig
  have hlen := hd2.b1.len
  have hwr : IntKind.i64.wrap (s.room - (m : Int)) = s.room - (m : Int) := Go.IntWalk.i64_in _ (by omega)
  have HLEN := Lib.hid hlen; clear hlen
  go_wp2_with fail
  refine mix_begin 22 (Held fun w' => w'.cell? ⟨w.heap.size + 1, 0, none⟩ = some (.pointer (some ⟨b, 5, none⟩)) ∧ w'.cell? ⟨w.heap.size, 0, none⟩ = some (.slice ad m cm) ∧ w'.cell? ⟨b, 5, none⟩ = some (.slice a1 l1 c1) ∧ Below w1.heap.size w1 w') (by kernel_rfl) (by kernel_rfl) (Held.mk ⟨hcf2, hcb2, hd2.g5, hb2.drew⟩) (fun hS => ?_)
  refine mix_take (v := ?_) 0 rfl (by decide) (by kernel_rfl) (by kernel_rfl) (fun _ _ _ h => h) hS rfl ?_ ?_
  rotate_left
  · (intro w' hw'; first | (go_simp; done) | (go_simp; with_reducible rfl) | (obtain ⟨g1, g2, g3, g4⟩ := hw'.out; first | (go_simp; done) | (go_simp; with_reducible rfl)))
  simp only [Act.put, List.setIfInBounds_toArray, List.set_cons_zero, List.set_cons_succ]
  refine mix_take (v := ?_) 1 rfl (by decide) (by kernel_rfl) (by kernel_rfl) (fun _ _ _ h => h) hS rfl ?_ ?_
  rotate_left
  · (intro w' hw'; first | (go_simp; done) | (go_simp; with_reducible rfl) | (obtain ⟨g1, g2, g3, g4⟩ := hw'.out; first | (go_simp; done) | (go_simp; with_reducible rfl)))
  simp only [Act.put, List.setIfInBounds_toArray, List.set_cons_zero, List.set_cons_succ]
  refine mix_take (v := ?_) 2 rfl (by decide) (by kernel_rfl) (by kernel_rfl) (fun _ _ _ h => h) hS rfl ?_ ?_
  rotate_left
  · (intro w' hw'; first | (go_simp; done) | (go_simp; with_reducible rfl) | (obtain ⟨g1, g2, g3, g4⟩ := hw'.out; first | (go_simp; done) | (go_simp; with_reducible rfl)))
  simp only [Act.put, List.setIfInBounds_toArray, List.set_cons_zero, List.set_cons_succ]
  refine mix_take (v := ?_) 3 rfl (by decide) (by kernel_rfl) (by kernel_rfl) (fun _ _ _ h => h) hS rfl ?_ ?_
  rotate_left
  · (intro w' hw'; first | (go_simp; done) | (go_simp; with_reducible rfl) | (obtain ⟨g1, g2, g3, g4⟩ := hw'.out; first | (go_simp; done) | (go_simp; with_reducible rfl)))
  simp only [Act.put, List.setIfInBounds_toArray, List.set_cons_zero, List.set_cons_succ]
  refine mix_step 4 rfl (by decide) (by kernel_rfl) ?_
  have g := hS.out
  have hof := ho2.later (below_drew w2)
  have hfi := first_c a2 2 ca2 [(false, 1), (!fileOk 1, 2)] (by decide) _ rfl (hs2.later (below_drew w2))
  rw [show firstA [(false, 1), (!fileOk 1, 2)] = 0 from rfl] at hfi
  go_wp2_with fail
  refine hfi.mono ?_
  rintro e w3 ⟨rfl, hb3⟩
  clear hfi
  go_wp2_with fail
  refine mix_out (Held.mk ⟨below_cell hb3 g.1, below_cell hb3 g.2.1, below_cell hb3 g.2.2.1, below_then g.2.2.2 hb3⟩) (fun hS => ?_)
  refine mix_take (v := ?_) 5 rfl (by decide) (by kernel_rfl) (by kernel_rfl) (fun _ _ _ h => h) hS rfl ?_ ?_
  rotate_left
  · (intro w' hw'; first | (go_simp; done) | (go_simp; with_reducible rfl) | (obtain ⟨g1, g2, g3, g4⟩ := hw'.out; first | (go_simp; done) | (go_simp; with_reducible rfl)))
  simp only [Act.put, List.setIfInBounds_toArray, List.set_cons_zero, List.set_cons_succ]
  refine mix_take (v := ?_) 6 rfl (by decide) (by kernel_rfl) (by kernel_rfl) (fun _ _ _ h => h) hS rfl ?_ ?_
  rotate_left
  · (intro w' hw'; first | (go_simp; done) | (go_simp; with_reducible rfl) | (obtain ⟨g1, g2, g3, g4⟩ := hw'.out; first | (go_simp; done) | (go_simp; with_reducible rfl)))
  simp only [Act.put, List.setIfInBounds_toArray, List.set_cons_zero, List.set_cons_succ]
  refine mix_take (v := ?_) 7 rfl (by decide) (by kernel_rfl) (by kernel_rfl) (fun _ _ _ h => h) hS rfl ?_ ?_
  rotate_left
  · (intro w' hw'; first | (go_simp; done) | (go_simp; with_reducible rfl) | (obtain ⟨g1, g2, g3, g4⟩ := hw'.out; first | (go_simp; done) | (go_simp; with_reducible rfl)))
  simp only [Act.put, List.setIfInBounds_toArray, List.set_cons_zero, List.set_cons_succ]
  refine mix_take (v := ?_) 8 rfl (by decide) (by kernel_rfl) (by kernel_rfl) (fun _ _ _ h => h) hS rfl ?_ ?_
  rotate_left
  · (intro w' hw'; first | (go_simp; done) | (go_simp; with_reducible rfl) | (obtain ⟨g1, g2, g3, g4⟩ := hw'.out; first | (go_simp; done) | (go_simp; with_reducible rfl)))
  simp only [Act.put, List.setIfInBounds_toArray, List.set_cons_zero, List.set_cons_succ]
  refine mix_take (v := ?_) 9 rfl (by decide) (by kernel_rfl) (by kernel_rfl) (fun _ _ _ h => h) hS rfl ?_ ?_
  rotate_left
  · (intro w' hw'; first | (go_simp; done) | (go_simp; with_reducible rfl) | (obtain ⟨g1, g2, g3, g4⟩ := hw'.out; first | (go_simp; done) | (go_simp; with_reducible rfl)))
  simp only [Act.put, List.setIfInBounds_toArray, List.set_cons_zero, List.set_cons_succ]
  refine mix_take (v := ?_) 10 rfl (by decide) (by kernel_rfl) (by kernel_rfl) (fun _ _ _ h => h) hS rfl ?_ ?_
  rotate_left
  · (intro w' hw'; first | (go_simp; done) | (go_simp; with_reducible rfl) | (obtain ⟨g1, g2, g3, g4⟩ := hw'.out; first | (go_simp; done) | (go_simp; with_reducible rfl)))
  simp only [Act.put, List.setIfInBounds_toArray, List.set_cons_zero, List.set_cons_succ]
  refine mix_take (v := ?_) 11 rfl (by decide) (by kernel_rfl) (by kernel_rfl) (fun _ _ _ h => h) hS rfl ?_ ?_
  rotate_left
  · (intro w' hw'; first | (go_simp; done) | (go_simp; with_reducible rfl) | (obtain ⟨g1, g2, g3, g4⟩ := hw'.out; first | (go_simp; done) | (go_simp; with_reducible rfl)))
  simp only [Act.put, List.setIfInBounds_toArray, List.set_cons_zero, List.set_cons_succ]
  refine mix_take (v := ?_) 12 rfl (by decide) (by kernel_rfl) (by kernel_rfl) (fun _ _ _ h => h) hS rfl ?_ ?_
  rotate_left
  · (intro w' hw'; first | (go_simp; done) | (go_simp; with_reducible rfl) | (obtain ⟨g1, g2, g3, g4⟩ := hw'.out; first | (go_simp; done) | (go_simp; with_reducible rfl)))
  simp only [Act.put, List.setIfInBounds_toArray, List.set_cons_zero, List.set_cons_succ]
  refine mix_take (v := ?_) 14 rfl (by decide) (by kernel_rfl) (by kernel_rfl) (fun _ _ _ h => h) hS rfl ?_ ?_
  rotate_left
  · (intro w' hw'; first | (go_simp; done) | (go_simp; with_reducible rfl) | (obtain ⟨g1, g2, g3, g4⟩ := hw'.out; first | (go_simp; done) | (go_simp; with_reducible rfl)))
  simp only [Act.put, List.setIfInBounds_toArray, List.set_cons_zero, List.set_cons_succ]
  refine mix_take (v := ?_) 15 rfl (by decide) (by kernel_rfl) (by kernel_rfl) (fun _ _ _ h => h) hS rfl ?_ ?_
  rotate_left
  · (intro w' hw'; first | (go_simp; done) | (go_simp; with_reducible rfl) | (obtain ⟨g1, g2, g3, g4⟩ := hw'.out; first | (go_simp; done) | (go_simp; with_reducible rfl)))
  simp only [Act.put, List.setIfInBounds_toArray, List.set_cons_zero, List.set_cons_succ]
  refine mix_step 13 rfl (by decide) (by kernel_rfl) ?_
  clear g
  have g := hS.out
  have hof3 := hof.later hb3
  have hsp := space_c b s _ (h1.later g.2.2.2)
  go_wp2_with fail
  refine hsp.mono ?_
  rintro e w4 ⟨rfl, rfl⟩
  clear hsp
  go_wp2_with fail
  refine mix_out (Held.mk g) (fun hS => ?_)
  refine mix_take (v := ?_) 16 rfl (by decide) (by kernel_rfl) (by kernel_rfl) (fun _ _ _ h => h) hS rfl ?_ ?_
  rotate_left
  · (intro w' hw'; first | (go_simp; done) | (go_simp; with_reducible rfl) | (obtain ⟨g1, g2, g3, g4⟩ := hw'.out; first | (go_simp; done) | (go_simp; with_reducible rfl)))
  simp only [Act.put, List.setIfInBounds_toArray, List.set_cons_zero, List.set_cons_succ]
  refine mix_take (v := ?_) 17 rfl (by decide) (by kernel_rfl) (by kernel_rfl) (fun _ _ _ h => h) hS rfl ?_ ?_
  rotate_left
  · (intro w' hw'; first | (go_simp; done) | (go_simp; with_reducible rfl) | (obtain ⟨g1, g2, g3, g4⟩ := hw'.out; first | (go_simp; done) | (go_simp; with_reducible rfl)))
  simp only [Act.put, List.setIfInBounds_toArray, List.set_cons_zero, List.set_cons_succ]
  refine mix_take (v := ?_) 18 rfl (by decide) (by kernel_rfl) (by kernel_rfl) (fun _ _ _ h => h) hS rfl ?_ ?_
  rotate_left
  · (intro w' hw'; first | (go_simp; done) | (go_simp; with_reducible rfl) | (obtain ⟨g1, g2, g3, g4⟩ := hw'.out; first | (go_simp; done) | (go_simp; with_reducible rfl)))
  simp only [Act.put, List.setIfInBounds_toArray, List.set_cons_zero, List.set_cons_succ]
  refine mix_take (v := ?_) 19 rfl (by decide) (by kernel_rfl) (by kernel_rfl) (fun _ _ _ h => h) hS rfl ?_ ?_
  rotate_left
  · (intro w' hw'; first | (go_simp; done) | (go_simp; with_reducible rfl) | (obtain ⟨g1, g2, g3, g4⟩ := hw'.out; first | (go_simp; done) | (go_simp; with_reducible rfl)))
  simp only [Act.put, List.setIfInBounds_toArray, List.set_cons_zero, List.set_cons_succ]
  refine mix_step 20 rfl (by decide) (by kernel_rfl) ?_
  have hbk := below_alloc w3 (.cells #[.bool (decide (s.room - (m : Int) < (l1 : Int))), .int .i64 170] 88)
  go_wp2_with fail
  refine mix_out (Held.mk ⟨below_cell hbk g.1, below_cell hbk g.2.1, below_cell hbk g.2.2.1, below_then g.2.2.2 hbk⟩) (fun hS => ?_)
  refine mix_step 21 rfl (by decide) (by kernel_rfl) ?_
  clear g
  have g := hS.out
  have hof4 := hof3.later hbk
  have hnew := ask_new w3 (decide (s.room - (m : Int) < (l1 : Int))) 170
  have hsz3 := hb3.size
  refine wpList_append_ask rfl _ _ rfl w1.heap.size a2 2 ca2 _ rfl hof4 _ 1 1 _ rfl hnew rfl rfl (by decide) g.2.2.2.size ?_
  intro a5 c5 w5 ho5 hb5
  go_wp2_with fail
  refine mix_out (Held.mk ⟨(hb5.cell (by have := HZ.out; show w.heap.size + 1 < _; omega)).trans g.1, (hb5.cell (by have := HZ.out; show w.heap.size < _; omega)).trans g.2.1, (hb5.cell (by have := HZ.out; show b < _; omega)).trans g.2.2.1, g.2.2.2.trans hb5⟩) (fun hS => ?_)
  refine mix_done (by kernel_rfl) ?_
  simp only [List.drop_succ_cons, List.drop_zero]
  clear g
  have g := hS.out
  obtain ⟨hs5, -⟩ := ho5.sl
  have hbs5 := (hbs.later hb01).later g.2.2.2
  have hact := act_c b s (s.acted.setF 1 (s.fl 1 ++ bs)) 41 #[.pointer (some ⟨w.heap.size + 1, 0, none⟩), .pointer (some ⟨w.heap.size, 0, none⟩)] a5 3 c5 _ (by decide) w5 (h1.later g.2.2.2) hsl rfl hs5 (enters_of Try.func41 (by kernel_rfl) rfl)
    (fun _ _ w1' hd1 hg1 => append_do1 b (w.heap.size + 1) w.heap.size s.acted w1' hd1 (grown_cell hg1 g.1 (by omega)) ad m cm bs (grown_cell hg1 g.2.1 (by omega)) (hbs5.grown' hg1 (fun ad' ha h0 e => hne ad' ha h0 (Option.some.inj e))) hm hbig)
  rw [firstA3 _ _ 1 rfl] at hact
  have hact2 := hact.mono (R' := fun e w' => e = .returned (.int .i64 (s.append 1 bs).2) ∧ IsD w' b (s.append 1 bs).1 ∧ World.grownBy _ w' (some b)) fun e w' ⟨he, h1, h2⟩ => by
    have e1 : (s.append 1 bs) = if s.room - (m : Int) < (l1 : Int) then (s, 170) else if s.left = 0 then (s, 171) else (s.acted.setF 1 (s.fl 1 ++ bs), 0) := by
      rw [← HLEN.out, ← hbs.len]
      rfl
    rw [e1]
    by_cases hfull : s.room - (m : Int) < (l1 : Int)
    · simp only [hfull, decide_true, if_true, ne_eq, show ¬ ((170 : Int) = 0) from by decide, not_false_eq_true] at he h1 ⊢; exact ⟨he, h1, h2⟩
    · simp only [hfull, decide_false, if_false, ne_eq, not_true_eq_false, Bool.false_eq_true] at he h1 ⊢
      by_cases hl0 : s.left = 0
      · simp only [hl0, if_true] at he h1 ⊢; exact ⟨he, h1, h2⟩
      · simp only [hl0, if_false] at he h1 ⊢; exact ⟨he, h1, h2⟩
  clear hact
  have HA := Lib.hid hact2; clear hact2
  go_wp2_with fail
  refine HA.out.mono ?_
  rintro e w6 ⟨rfl, hd6, hg6⟩
  go_wp2_with fail
  go_ret
  exact ⟨rfl, hd6, grown_trans (grown_of_below (hb01.trans (g.2.2.2.mono hb01.size))) hg6⟩
end Go.Proofs.Ytknndpncdnhnpaa
