import Derived.Test.YtpobnbiakneoiaaDiskN
namespace Go.Proofs.Ytpobnbiakneoiaa
open Go.RowKit Go.Cas
attribute [local go_sem] Oper.semAt_some

theorem eql_nilfunc7 (f : Nat) (lb : Array Value) (w : World) : (binOp BinOp.eql 66 (.func (.func f) #[] lb) .nilFunc).run Try.prog w = .ok (.bool false) w := by
  kernel_rfl
theorem zero_disk (w : World) : (Instr.build 60 #[]).run Try.prog w = .ok (.agg #[.int .i64 0, .int .i64 0, .int .i64 0, .slice none 0 0, .int .i64 0, .slice none 0 0, .int .i64 0, .bool false]) w := by kernel_rfl
theorem zero_two (w : World) : (Instr.build 44 #[]).run Try.prog w = .ok (.agg #[.int .i64 0, .int .i64 0]) w := by kernel_rfl
/-- what DiskNone holds on to: the result false in its cell, the zero disk and a disk -/
def DN (w0 W : World) (z : Value) (d : Option (Nat × DS)) : Prop := Below w0.heap.size w0 W ∧ Box W w0.heap.size (.bool false) ∧ NoD W z ∧ ∀ b s, d = some (b, s) → IsD W b s
theorem DN.later {w0 W W' : World} {z : Value} {d : Option (Nat × DS)} (h : DN w0 W z d) (hb : Below W.heap.size W W') : DN w0 W' z d :=
  ⟨h.1.trans (hb.mono h.1.size), h.2.1.later hb, h.2.2.1.later hb, fun b s e => (h.2.2.2 b s e).later hb⟩
theorem none_z {w : World} {z : Value} (h : NoD w z) : NoneIs w z true := h.noneIs
theorem zeroN {W : World} : NoD (W.alloc (.cells #[.int .i64 0, .int .i64 0, .int .i64 0, .slice none 0 0, .int .i64 0, .slice none 0 0, .int .i64 0, .bool false] 60)) (.pointer (some ⟨W.heap.size, 0, none⟩)) :=
  .inr ⟨_, rfl, by unfold World.cell?; rw [heap_alloc_new]; rfl⟩
def DQ (w0 W : World) (z : Value) (d : Option (Nat × DS)) (D : Nat) : Prop := DN w0 W z d ∧ D < W.heap.size ∧ w0.heap.size < D ∧ W.heap[D]? = some (.deferred (some []))
theorem DQ.later {w0 W W' : World} {z : Value} {d : Option (Nat × DS)} {D : Nat} (h : DQ w0 W z d D) (hb : Below W.heap.size W W') : DQ w0 W' z d D :=
  ⟨h.1.later hb, Nat.lt_of_lt_of_le h.2.1 hb.size, h.2.2.1, (hb.block _ h.2.1).trans h.2.2.2⟩
/-- what the end asks: true in the result's cell, the marks left -/
theorem DQ.fin {w0 W : World} {z : Value} {d : Option (Nat × DS)} {D : Nat} (h : DQ w0 W z d D) :
    (W.setCell ⟨w0.heap.size, 0, none⟩ (.bool true)).heap[D]? = some (.deferred (some [])) ∧ Below w0.heap.size w0 ((W.setCell ⟨w0.heap.size, 0, none⟩ (.bool true)).putObj D (.deferred none)) ∧
      ((W.setCell ⟨w0.heap.size, 0, none⟩ (.bool true)).putObj D (.deferred none)).cell? ⟨w0.heap.size, 0, none⟩ = some (.bool true) :=
  ⟨(Below.heap_setCell _ _ _ _ (by have := h.2.2.1; simp; omega)).trans h.2.2.2, below_putObj (h.1.1.setCell (by simp) _) (Nat.le_of_lt h.2.2.1) _,
    ((h.1.2.1.set (.bool true)).keep (Keep.putObj (S := fun k => k = D) _ _ (.deferred none) rfl) (by have := h.2.2.1; omega)).cell⟩
theorem read1 (v : Value) (n : Int) (w : World) (h : NoD w v) : Calls Try.prog 20 #[v, .int .i64 n] w fun e w' => e = .returned (.tuple #[.slice none 0 0, .int .i64 1]) ∧ Below w.heap.size w w' := read_no v true n w h.noneIs (.inl rfl)
theorem read2 (v : Value) (n : Int) (w : World) (h : NoneIs w v false) (hbad : fileOk n = false) : Calls Try.prog 20 #[v, .int .i64 n] w fun e w' => e = .returned (.tuple #[.slice none 0 0, .int .i64 2]) ∧ Below w.heap.size w w' := read_no v false n w h (.inr hbad)
theorem last1 (v : Value) (n : Int) (w : World) (h : NoD w v) : Calls Try.prog 21 #[v, .int .i64 n] w fun e w' => e = .returned (.tuple #[.int .i64 0, .int .i64 1]) ∧ Below w.heap.size w w' := lasting_no v true n w h.noneIs (.inl rfl)
theorem last2 (v : Value) (n : Int) (w : World) (h : NoneIs w v false) (hbad : fileOk n = false) : Calls Try.prog 21 #[v, .int .i64 n] w fun e w' => e = .returned (.tuple #[.int .i64 0, .int .i64 2]) ∧ Below w.heap.size w w' := lasting_no v false n w h (.inr hbad)
theorem appe1 (v : Value) (n : Int) (w : World) (h : NoD w v) : Calls Try.prog 23 #[v, .int .i64 n, .slice none 0 0] w fun e w' => e = .returned (.int .i64 1) ∧ Below w.heap.size w w' := append_no v true n none 0 0 w h.noneIs (.inl rfl)
theorem appe2 (v : Value) (n : Int) (w : World) (h : NoneIs w v false) (hbad : fileOk n = false) : Calls Try.prog 23 #[v, .int .i64 n, .slice none 0 0] w fun e w' => e = .returned (.int .i64 2) ∧ Below w.heap.size w w' := append_no v false n none 0 0 w h (.inr hbad)
theorem cut1 (v : Value) (n m : Int) (w : World) (h : NoD w v) : Calls Try.prog 25 #[v, .int .i64 n, .int .i64 m] w fun e w' => e = .returned (.int .i64 1) ∧ Below w.heap.size w w' := cut_no v true n m w h.noneIs (.inl rfl)
theorem cut2 (v : Value) (n m : Int) (w : World) (h : NoneIs w v false) (hbad : fileOk n = false) : Calls Try.prog 25 #[v, .int .i64 n, .int .i64 m] w fun e w' => e = .returned (.int .i64 2) ∧ Below w.heap.size w w' := cut_no v false n m w h (.inr hbad)
set_option maxRecDepth 100000 in
set_option maxHeartbeats 4000000 in
theorem diskNoneA1 (room file : Int) (w : World) (_hf : (Lit.int .i64 file).wf = true) (hr : room < 1) :
    Calls Try.prog 5 #[.int .i64 room, .int .i64 file] w fun e w' => e = .returned (.bool true) ∧ Below w.heap.size w w' := by
  have heq := eql_nilfunc7
  have hzd := zero_disk
  have hz2 := zero_two
  refine calls_of_wp_marks Try.func5 rfl ?_
  simp only [Try.ntmps5, List.size_toArray, List.length_cons, List.length_nil, Nat.reduceAdd, Nat.reduceSub, Array.replicate_succ, Array.replicate_zero, List.push_toArray, List.append_toArray, List.nil_append, List.cons_append]
  have hb0 := below_alloc w (.cells #[.bool false] 4)
  have hX0 := Box.new w (.bool false) 4
  have HN := Lib.hid (new_no room (w.alloc (.cells #[.bool false] 4)) (by omega))
  go_wp2_with fail
  refine HN.out.mono ?_
  rintro e w1 ⟨rfl, hw1⟩
  have hb1 : Below w.heap.size w w1 := hw1 ▸ hb0
  have hX1 : Box w1 w.heap.size (.bool false) := hw1 ▸ hX0
  clear hw1
  clear HN hb0 hX0
  go_wp2_with (first | (go_at_call 15; refine (num7_c _ _).mono ?_; rintro e w' ⟨rfl, rfl⟩) | fail)
  have hz1 := below_alloc w1 (.cells #[.int .i64 0, .int .i64 0, .int .i64 0, .slice none 0 0, .int .i64 0, .slice none 0 0, .int .i64 0, .bool false] 60)
  obtain ⟨z, hz⟩ : ∃ z, some (⟨w1.heap.size, 0, none⟩ : Addr) = z := ⟨_, rfl⟩
  have hN1 : DN w _ (.pointer z) none := ⟨below_then hb1 hz1, hX1.later hz1, hz ▸ zeroN, by intro b s e; exact absurd e (by simp)⟩
  simp only [hz] at hN1 ⊢
  refine (read1 (.pointer none) file _ (.inl rfl)).mono ?_
  rintro e w2 ⟨rfl, hb2⟩
  have hN2 := hN1.later hb2
  clear hN1 hb2 hz hz1
  go_wp2_with (first | (go_at_call 15; refine (num7_c _ _).mono ?_; rintro e w' ⟨rfl, rfl⟩) | fail)
  refine (last1 (.pointer z) 0 _ hN2.2.2.1).mono ?_
  rintro e w3 ⟨rfl, hb3⟩
  have hN3 := hN2.later hb3
  clear hN2 hb3
  go_wp2_with (first | (go_at_call 15; refine (num7_c _ _).mono ?_; rintro e w' ⟨rfl, rfl⟩) | fail)
  refine (bytes_no (.pointer none) 0 _ (.inl rfl)).mono ?_
  rintro e w4 ⟨B, sa, sc, rfl, hcB, hb4⟩
  have hN4 := hN3.later hb4
  clear hN3 hb4
  go_wp2_with (first | (go_at_call 15; refine (num7_c _ _).mono ?_; rintro e w' ⟨rfl, rfl⟩) | fail)
  have hBlt : B < w4.heap.size := World.block_lt_of_cell? _ _ hcB
  refine wp_range (α := Unit) (gf := 56) (lb := #[.pointer (some ⟨B, 0, none⟩)]) rfl enter_bytes1
    (iter_nil (E := ENo) (c := 0) (R := fun k => k = B) (w := w4) (fun l' W' hW' _ => bytes1_nil l' B sa sc W' ((hW'.cell rfl).trans hcB))) (Hold.refl _ _) (Nat.le_refl _) ?hR ?hps ?hE
    (fun _ A => Below w4.heap.size w4 A) (fun _ _ _ => False) ?hI ?hIx (Below.refl _ _) (fun _ => { tmps := #[], defers := [] }) ?hassign ?hbody ?hdone ?hstop
  case hR => rintro k rfl; exact hBlt
  case hps => exact fun _ _ _ h => h.elim
  case hE => exact fun _ _ _ _ h _ => h
  case hI =>
    intro i A A' h4 hk
    exact h4.trans (hk.below h4.size (fun k hk h => by unfold Span at h; omega))
  case hIx => exact fun _ _ _ _ h _ => h
  case hassign => exact fun _ _ _ _ _ h => h.elim
  case hbody => exact fun _ _ hi => absurd hi (Nat.not_lt_zero _)
  case hstop => exact fun _ _ _ _ _ h => h.elim
  case hdone =>
    intro w5 hsz5 hb5 hD5
    have hN5 : DQ w w5 (.pointer z) none w4.heap.size := ⟨hN4.later hb5, by omega, hN4.2.1.lt, hD5⟩
    clear hN4 hD5 hb5 hcB
    go_wp2_with (first | (go_at_call 15; refine (num7_c _ _).mono ?_; rintro e w' ⟨rfl, rfl⟩) | fail)
    refine (appe1 (.pointer none) 0 _ (.inl rfl)).mono ?_
    rintro e w6 ⟨rfl, hb6⟩
    have hN6 := hN5.later hb6
    clear hN5 hb6
    go_wp2_with (first | (go_at_call 15; refine (num7_c _ _).mono ?_; rintro e w' ⟨rfl, rfl⟩) | fail)
    refine (sync_no (.pointer z) file _ hN6.1.2.2.1).mono ?_
    rintro e w7 ⟨rfl, hb7⟩
    have hN7 := hN6.later hb7
    clear hN6 hb7
    go_wp2_with (first | (go_at_call 15; refine (num7_c _ _).mono ?_; rintro e w' ⟨rfl, rfl⟩) | fail)
    refine (cut1 (.pointer none) 0 0 _ (.inl rfl)).mono ?_
    rintro e w8 ⟨rfl, hb8⟩
    have hN8 := hN7.later hb8
    clear hN7 hb8
    go_wp2_with (first | (go_at_call 15; refine (num7_c _ _).mono ?_; rintro e w' ⟨rfl, rfl⟩) | fail)
    refine (switch_no (.pointer z) _ hN8.1.2.2.1).mono ?_
    rintro e w9 ⟨rfl, hb9⟩
    have hN9 := hN8.later hb9
    clear hN8 hb9
    go_wp2_with (first | (go_at_call 15; refine (num7_c _ _).mono ?_; rintro e w' ⟨rfl, rfl⟩) | fail)
    refine (stop_no (.pointer none) (-1) _ (.inl rfl)).mono ?_
    rintro e w10 ⟨rfl, hb10⟩
    have hN10 := hN9.later hb10
    clear hN9 hb10
    go_wp2_with (first | (go_at_call 15; refine (num7_c _ _).mono ?_; rintro e w' ⟨rfl, rfl⟩) | fail)
    refine (crash_no (.pointer z) 0 0 _ hN10.1.2.2.1 (by decide)).mono ?_
    rintro e w11 ⟨rfl, hb11⟩
    have hN11 := hN10.later hb11
    clear hN10 hb11
    go_wp2_with (first | (go_at_call 15; refine (num7_c _ _).mono ?_; rintro e w' ⟨rfl, rfl⟩) | fail)
    refine (current_no (.pointer none) _ (.inl rfl)).mono ?_
    rintro e w' ⟨rfl, rfl⟩
    go_wp2_with (first | (go_at_call 15; refine (num7_c _ _).mono ?_; rintro e w' ⟨rfl, rfl⟩) | fail)
    refine (current_no (.pointer z) _ hN11.1.2.2.1).mono ?_
    rintro e w' ⟨rfl, rfl⟩
    go_wp2_with (first | (go_at_call 15; refine (num7_c _ _).mono ?_; rintro e w' ⟨rfl, rfl⟩) | fail)
    refine (stopped_no (.pointer none) _ (.inl rfl)).mono ?_
    rintro e w' ⟨rfl, rfl⟩
    go_wp2_with (first | (go_at_call 15; refine (num7_c _ _).mono ?_; rintro e w' ⟨rfl, rfl⟩) | fail)
    refine (copy_no (.pointer none) _ (.inl rfl)).mono ?_
    rintro e w' ⟨rfl, rfl⟩
    go_wp2_with (first | (go_at_call 15; refine (num7_c _ _).mono ?_; rintro e w' ⟨rfl, rfl⟩) | fail)
    refine (same_none (.pointer none) (.pointer z) _ (.inl rfl) hN11.1.2.2.1).mono ?_
    rintro e w' ⟨rfl, rfl⟩
    go_wp2_with (first | (go_at_call 15; refine (num7_c _ _).mono ?_; rintro e w' ⟨rfl, rfl⟩) | fail)
    refine (works07_c _).mono ?_
    rintro e w12 ⟨rfl, hb12⟩
    have hN12 := hN11.later hb12
    have hc := hN12.1.2.1.cell
    have hf := hN12.1.2.1.fz
    obtain ⟨hDd, hBl, hXc⟩ := hN12.fin
    clear hN12 hN11
    go_wp2_with fail
    refine leave1 (v := .bool true) hDd (by simp [results, Try.results5, go_sem, hXc]) ⟨rfl, hBl⟩
set_option maxRecDepth 100000 in
set_option maxHeartbeats 4000000 in
theorem diskNoneA2 (room file : Int) (w : World) (_hf : (Lit.int .i64 file).wf = true) (hr : 4194304 < room) :
    Calls Try.prog 5 #[.int .i64 room, .int .i64 file] w fun e w' => e = .returned (.bool true) ∧ Below w.heap.size w w' := by
  have heq := eql_nilfunc7
  have hzd := zero_disk
  have hz2 := zero_two
  refine calls_of_wp_marks Try.func5 rfl ?_
  simp only [Try.ntmps5, List.size_toArray, List.length_cons, List.length_nil, Nat.reduceAdd, Nat.reduceSub, Array.replicate_succ, Array.replicate_zero, List.push_toArray, List.append_toArray, List.nil_append, List.cons_append]
  have hb0 := below_alloc w (.cells #[.bool false] 4)
  have hX0 := Box.new w (.bool false) 4
  have HN := Lib.hid (new_no room (w.alloc (.cells #[.bool false] 4)) (by omega))
  go_wp2_with fail
  refine HN.out.mono ?_
  rintro e w1 ⟨rfl, hw1⟩
  have hb1 : Below w.heap.size w w1 := hw1 ▸ hb0
  have hX1 : Box w1 w.heap.size (.bool false) := hw1 ▸ hX0
  clear hw1
  clear HN hb0 hX0
  go_wp2_with (first | (go_at_call 15; refine (num7_c _ _).mono ?_; rintro e w' ⟨rfl, rfl⟩) | fail)
  have hz1 := below_alloc w1 (.cells #[.int .i64 0, .int .i64 0, .int .i64 0, .slice none 0 0, .int .i64 0, .slice none 0 0, .int .i64 0, .bool false] 60)
  obtain ⟨z, hz⟩ : ∃ z, some (⟨w1.heap.size, 0, none⟩ : Addr) = z := ⟨_, rfl⟩
  have hN1 : DN w _ (.pointer z) none := ⟨below_then hb1 hz1, hX1.later hz1, hz ▸ zeroN, by intro b s e; exact absurd e (by simp)⟩
  simp only [hz] at hN1 ⊢
  refine (read1 (.pointer none) file _ (.inl rfl)).mono ?_
  rintro e w2 ⟨rfl, hb2⟩
  have hN2 := hN1.later hb2
  clear hN1 hb2 hz hz1
  go_wp2_with (first | (go_at_call 15; refine (num7_c _ _).mono ?_; rintro e w' ⟨rfl, rfl⟩) | fail)
  refine (last1 (.pointer z) 0 _ hN2.2.2.1).mono ?_
  rintro e w3 ⟨rfl, hb3⟩
  have hN3 := hN2.later hb3
  clear hN2 hb3
  go_wp2_with (first | (go_at_call 15; refine (num7_c _ _).mono ?_; rintro e w' ⟨rfl, rfl⟩) | fail)
  refine (bytes_no (.pointer none) 0 _ (.inl rfl)).mono ?_
  rintro e w4 ⟨B, sa, sc, rfl, hcB, hb4⟩
  have hN4 := hN3.later hb4
  clear hN3 hb4
  go_wp2_with (first | (go_at_call 15; refine (num7_c _ _).mono ?_; rintro e w' ⟨rfl, rfl⟩) | fail)
  have hBlt : B < w4.heap.size := World.block_lt_of_cell? _ _ hcB
  refine wp_range (α := Unit) (gf := 56) (lb := #[.pointer (some ⟨B, 0, none⟩)]) rfl enter_bytes1
    (iter_nil (E := ENo) (c := 0) (R := fun k => k = B) (w := w4) (fun l' W' hW' _ => bytes1_nil l' B sa sc W' ((hW'.cell rfl).trans hcB))) (Hold.refl _ _) (Nat.le_refl _) ?hR ?hps ?hE
    (fun _ A => Below w4.heap.size w4 A) (fun _ _ _ => False) ?hI ?hIx (Below.refl _ _) (fun _ => { tmps := #[], defers := [] }) ?hassign ?hbody ?hdone ?hstop
  case hR => rintro k rfl; exact hBlt
  case hps => exact fun _ _ _ h => h.elim
  case hE => exact fun _ _ _ _ h _ => h
  case hI =>
    intro i A A' h4 hk
    exact h4.trans (hk.below h4.size (fun k hk h => by unfold Span at h; omega))
  case hIx => exact fun _ _ _ _ h _ => h
  case hassign => exact fun _ _ _ _ _ h => h.elim
  case hbody => exact fun _ _ hi => absurd hi (Nat.not_lt_zero _)
  case hstop => exact fun _ _ _ _ _ h => h.elim
  case hdone =>
    intro w5 hsz5 hb5 hD5
    have hN5 : DQ w w5 (.pointer z) none w4.heap.size := ⟨hN4.later hb5, by omega, hN4.2.1.lt, hD5⟩
    clear hN4 hD5 hb5 hcB
    go_wp2_with (first | (go_at_call 15; refine (num7_c _ _).mono ?_; rintro e w' ⟨rfl, rfl⟩) | fail)
    refine (appe1 (.pointer none) 0 _ (.inl rfl)).mono ?_
    rintro e w6 ⟨rfl, hb6⟩
    have hN6 := hN5.later hb6
    clear hN5 hb6
    go_wp2_with (first | (go_at_call 15; refine (num7_c _ _).mono ?_; rintro e w' ⟨rfl, rfl⟩) | fail)
    refine (sync_no (.pointer z) file _ hN6.1.2.2.1).mono ?_
    rintro e w7 ⟨rfl, hb7⟩
    have hN7 := hN6.later hb7
    clear hN6 hb7
    go_wp2_with (first | (go_at_call 15; refine (num7_c _ _).mono ?_; rintro e w' ⟨rfl, rfl⟩) | fail)
    refine (cut1 (.pointer none) 0 0 _ (.inl rfl)).mono ?_
    rintro e w8 ⟨rfl, hb8⟩
    have hN8 := hN7.later hb8
    clear hN7 hb8
    go_wp2_with (first | (go_at_call 15; refine (num7_c _ _).mono ?_; rintro e w' ⟨rfl, rfl⟩) | fail)
    refine (switch_no (.pointer z) _ hN8.1.2.2.1).mono ?_
    rintro e w9 ⟨rfl, hb9⟩
    have hN9 := hN8.later hb9
    clear hN8 hb9
    go_wp2_with (first | (go_at_call 15; refine (num7_c _ _).mono ?_; rintro e w' ⟨rfl, rfl⟩) | fail)
    refine (stop_no (.pointer none) (-1) _ (.inl rfl)).mono ?_
    rintro e w10 ⟨rfl, hb10⟩
    have hN10 := hN9.later hb10
    clear hN9 hb10
    go_wp2_with (first | (go_at_call 15; refine (num7_c _ _).mono ?_; rintro e w' ⟨rfl, rfl⟩) | fail)
    refine (crash_no (.pointer z) 0 0 _ hN10.1.2.2.1 (by decide)).mono ?_
    rintro e w11 ⟨rfl, hb11⟩
    have hN11 := hN10.later hb11
    clear hN10 hb11
    go_wp2_with (first | (go_at_call 15; refine (num7_c _ _).mono ?_; rintro e w' ⟨rfl, rfl⟩) | fail)
    refine (current_no (.pointer none) _ (.inl rfl)).mono ?_
    rintro e w' ⟨rfl, rfl⟩
    go_wp2_with (first | (go_at_call 15; refine (num7_c _ _).mono ?_; rintro e w' ⟨rfl, rfl⟩) | fail)
    refine (current_no (.pointer z) _ hN11.1.2.2.1).mono ?_
    rintro e w' ⟨rfl, rfl⟩
    go_wp2_with (first | (go_at_call 15; refine (num7_c _ _).mono ?_; rintro e w' ⟨rfl, rfl⟩) | fail)
    refine (stopped_no (.pointer none) _ (.inl rfl)).mono ?_
    rintro e w' ⟨rfl, rfl⟩
    go_wp2_with (first | (go_at_call 15; refine (num7_c _ _).mono ?_; rintro e w' ⟨rfl, rfl⟩) | fail)
    refine (copy_no (.pointer none) _ (.inl rfl)).mono ?_
    rintro e w' ⟨rfl, rfl⟩
    go_wp2_with (first | (go_at_call 15; refine (num7_c _ _).mono ?_; rintro e w' ⟨rfl, rfl⟩) | fail)
    refine (same_none (.pointer none) (.pointer z) _ (.inl rfl) hN11.1.2.2.1).mono ?_
    rintro e w' ⟨rfl, rfl⟩
    go_wp2_with (first | (go_at_call 15; refine (num7_c _ _).mono ?_; rintro e w' ⟨rfl, rfl⟩) | fail)
    refine (works07_c _).mono ?_
    rintro e w12 ⟨rfl, hb12⟩
    have hN12 := hN11.later hb12
    have hc := hN12.1.2.1.cell
    have hf := hN12.1.2.1.fz
    obtain ⟨hDd, hBl, hXc⟩ := hN12.fin
    clear hN12 hN11
    go_wp2_with fail
    refine leave1 (v := .bool true) hDd (by simp [results, Try.results5, go_sem, hXc]) ⟨rfl, hBl⟩
set_option maxRecDepth 100000 in
set_option maxHeartbeats 4000000 in
theorem diskNoneB (room file : Int) (w : World) (_hf : (Lit.int .i64 file).wf = true) (hr : 1 ≤ room ∧ room ≤ 4194304) :
    Calls Try.prog 5 #[.int .i64 room, .int .i64 file] w fun e w' => e = .returned (.bool true) ∧ Below w.heap.size w w' := by
  have heq := eql_nilfunc7
  have hzd := zero_disk
  have hz2 := zero_two
  refine calls_of_wp_marks Try.func5 rfl ?_
  simp only [Try.ntmps5, List.size_toArray, List.length_cons, List.length_nil, Nat.reduceAdd, Nat.reduceSub, Array.replicate_succ, Array.replicate_zero, List.push_toArray, List.append_toArray, List.nil_append, List.cons_append]
  have hb0 := below_alloc w (.cells #[.bool false] 4)
  have hX0 := Box.new w (.bool false) 4
  have HN := Lib.hid (new_c room (w.alloc (.cells #[.bool false] 4)) hr.1 hr.2)
  have h1r := hr.1
  have h2r := hr.2
  go_wp2_with fail
  refine HN.out.mono ?_
  rintro e w1 ⟨rfl, hD1, hbN⟩
  rw [World.size_alloc] at hD1
  obtain ⟨b, hbe⟩ : ∃ b, w.heap.size + 1 = b := ⟨_, rfl⟩
  have hX1 := hX0.later hbN
  have hb1 := below_then hb0 hbN
  simp only [World.size_alloc, hbe] at hD1 ⊢
  clear HN hb0 hX0
  go_wp2_with (first | (go_at_call 15; refine (num7_c _ _).mono ?_; rintro e w' ⟨rfl, rfl⟩) | fail)
  have hz1 := below_alloc w1 (.cells #[.int .i64 0, .int .i64 0, .int .i64 0, .slice none 0 0, .int .i64 0, .slice none 0 0, .int .i64 0, .bool false] 60)
  obtain ⟨z, hz⟩ : ∃ z, some (⟨w1.heap.size, 0, none⟩ : Addr) = z := ⟨_, rfl⟩
  have hN1 : DN w _ (.pointer z) (some (b, ds0 room)) := ⟨below_then hb1 hz1, hX1.later hz1, hz ▸ zeroN, by intro b s e; obtain ⟨rfl, rfl⟩ := Prod.mk.inj (Option.some.inj e); exact hD1.later hz1⟩
  simp only [hz] at hN1 ⊢
  refine (read1 (.pointer none) file _ (.inl rfl)).mono ?_
  rintro e w2 ⟨rfl, hb2⟩
  have hN2 := hN1.later hb2
  clear hN1 hb2 hz hz1
  go_wp2_with (first | (go_at_call 15; refine (num7_c _ _).mono ?_; rintro e w' ⟨rfl, rfl⟩) | fail)
  refine (last1 (.pointer z) 0 _ hN2.2.2.1).mono ?_
  rintro e w3 ⟨rfl, hb3⟩
  have hN3 := hN2.later hb3
  clear hN2 hb3
  go_wp2_with (first | (go_at_call 15; refine (num7_c _ _).mono ?_; rintro e w' ⟨rfl, rfl⟩) | fail)
  refine (bytes_no (.pointer none) 0 _ (.inl rfl)).mono ?_
  rintro e w4 ⟨B, sa, sc, rfl, hcB, hb4⟩
  have hN4 := hN3.later hb4
  clear hN3 hb4
  go_wp2_with (first | (go_at_call 15; refine (num7_c _ _).mono ?_; rintro e w' ⟨rfl, rfl⟩) | fail)
  have hBlt : B < w4.heap.size := World.block_lt_of_cell? _ _ hcB
  refine wp_range (α := Unit) (gf := 56) (lb := #[.pointer (some ⟨B, 0, none⟩)]) rfl enter_bytes1
    (iter_nil (E := ENo) (c := 0) (R := fun k => k = B) (w := w4) (fun l' W' hW' _ => bytes1_nil l' B sa sc W' ((hW'.cell rfl).trans hcB))) (Hold.refl _ _) (Nat.le_refl _) ?hR ?hps ?hE
    (fun _ A => Below w4.heap.size w4 A) (fun _ _ _ => False) ?hI ?hIx (Below.refl _ _) (fun _ => { tmps := #[], defers := [] }) ?hassign ?hbody ?hdone ?hstop
  case hR => rintro k rfl; exact hBlt
  case hps => exact fun _ _ _ h => h.elim
  case hE => exact fun _ _ _ _ h _ => h
  case hI =>
    intro i A A' h4 hk
    exact h4.trans (hk.below h4.size (fun k hk h => by unfold Span at h; omega))
  case hIx => exact fun _ _ _ _ h _ => h
  case hassign => exact fun _ _ _ _ _ h => h.elim
  case hbody => exact fun _ _ hi => absurd hi (Nat.not_lt_zero _)
  case hstop => exact fun _ _ _ _ _ h => h.elim
  case hdone =>
    intro w5 hsz5 hb5 hD5
    have hbD : b < w4.heap.size := (hN4.2.2.2 _ _ rfl).lt
    have hN5 : DQ w w5 (.pointer z) (some (b, ds0 room)) w4.heap.size := ⟨hN4.later hb5, by omega, hN4.2.1.lt, hD5⟩
    clear hN4 hD5 hb5 hcB
    go_wp2_with (first | (go_at_call 15; refine (num7_c _ _).mono ?_; rintro e w' ⟨rfl, rfl⟩) | fail)
    refine (appe1 (.pointer none) 0 _ (.inl rfl)).mono ?_
    rintro e w6 ⟨rfl, hb6⟩
    have hN6 := hN5.later hb6
    clear hN5 hb6
    go_wp2_with (first | (go_at_call 15; refine (num7_c _ _).mono ?_; rintro e w' ⟨rfl, rfl⟩) | fail)
    refine (sync_no (.pointer z) file _ hN6.1.2.2.1).mono ?_
    rintro e w7 ⟨rfl, hb7⟩
    have hN7 := hN6.later hb7
    clear hN6 hb7
    go_wp2_with (first | (go_at_call 15; refine (num7_c _ _).mono ?_; rintro e w' ⟨rfl, rfl⟩) | fail)
    refine (cut1 (.pointer none) 0 0 _ (.inl rfl)).mono ?_
    rintro e w8 ⟨rfl, hb8⟩
    have hN8 := hN7.later hb8
    clear hN7 hb8
    go_wp2_with (first | (go_at_call 15; refine (num7_c _ _).mono ?_; rintro e w' ⟨rfl, rfl⟩) | fail)
    refine (switch_no (.pointer z) _ hN8.1.2.2.1).mono ?_
    rintro e w9 ⟨rfl, hb9⟩
    have hN9 := hN8.later hb9
    clear hN8 hb9
    go_wp2_with (first | (go_at_call 15; refine (num7_c _ _).mono ?_; rintro e w' ⟨rfl, rfl⟩) | fail)
    refine (stop_no (.pointer none) (-1) _ (.inl rfl)).mono ?_
    rintro e w10 ⟨rfl, hb10⟩
    have hN10 := hN9.later hb10
    clear hN9 hb10
    go_wp2_with (first | (go_at_call 15; refine (num7_c _ _).mono ?_; rintro e w' ⟨rfl, rfl⟩) | fail)
    refine (crash_no (.pointer z) 0 0 _ hN10.1.2.2.1 (by decide)).mono ?_
    rintro e w11 ⟨rfl, hb11⟩
    have hN11 := hN10.later hb11
    clear hN10 hb11
    go_wp2_with (first | (go_at_call 15; refine (num7_c _ _).mono ?_; rintro e w' ⟨rfl, rfl⟩) | fail)
    refine (current_no (.pointer none) _ (.inl rfl)).mono ?_
    rintro e w' ⟨rfl, rfl⟩
    go_wp2_with (first | (go_at_call 15; refine (num7_c _ _).mono ?_; rintro e w' ⟨rfl, rfl⟩) | fail)
    refine (current_no (.pointer z) _ hN11.1.2.2.1).mono ?_
    rintro e w' ⟨rfl, rfl⟩
    go_wp2_with (first | (go_at_call 15; refine (num7_c _ _).mono ?_; rintro e w' ⟨rfl, rfl⟩) | fail)
    refine (stopped_no (.pointer none) _ (.inl rfl)).mono ?_
    rintro e w' ⟨rfl, rfl⟩
    go_wp2_with (first | (go_at_call 15; refine (num7_c _ _).mono ?_; rintro e w' ⟨rfl, rfl⟩) | fail)
    refine (copy_no (.pointer none) _ (.inl rfl)).mono ?_
    rintro e w' ⟨rfl, rfl⟩
    go_wp2_with (first | (go_at_call 15; refine (num7_c _ _).mono ?_; rintro e w' ⟨rfl, rfl⟩) | fail)
    refine (same_none (.pointer none) (.pointer z) _ (.inl rfl) hN11.1.2.2.1).mono ?_
    rintro e w' ⟨rfl, rfl⟩
    by_cases h0 : file = 0
    · subst h0
      go_wp2_with (first | (go_at_call 15; refine (num7_c _ _).mono ?_; rintro e w' ⟨rfl, rfl⟩) | fail)
      refine (works07_c _).mono ?_
      rintro e w12 ⟨rfl, hb12⟩
      have hN12 := hN11.later hb12
      have hc := hN12.1.2.1.cell
      have hf := hN12.1.2.1.fz
      obtain ⟨hDd, hBl, hXc⟩ := hN12.fin
      clear hN12 hN11
      go_wp2_with fail
      refine leave1 (v := .bool true) hDd (by simp [results, Try.results5, go_sem, hXc]) ⟨rfl, hBl⟩
    by_cases h1 : file = 1
    · subst h1
      go_wp2_with (first | (go_at_call 15; refine (num7_c _ _).mono ?_; rintro e w' ⟨rfl, rfl⟩) | fail)
      refine (works07_c _).mono ?_
      rintro e w12 ⟨rfl, hb12⟩
      have hN12 := hN11.later hb12
      have hc := hN12.1.2.1.cell
      have hf := hN12.1.2.1.fz
      obtain ⟨hDd, hBl, hXc⟩ := hN12.fin
      clear hN12 hN11
      go_wp2_with fail
      refine leave1 (v := .bool true) hDd (by simp [results, Try.results5, go_sem, hXc]) ⟨rfl, hBl⟩
    have hd0 : (file == 0) = false := by simp [h0]
    have hd1 : (file == 1) = false := by simp [h1]
    have hbad : fileOk file = false := by simp [fileOk]; omega
    go_wp2_with (first | (go_at_call 15; refine (num7_c _ _).mono ?_; rintro e w' ⟨rfl, rfl⟩) | fail)
    refine (read2 (.pointer (some ⟨b, 0, none⟩)) file _ (hN11.1.2.2.2 _ _ rfl).noneIs hbad).mono ?_
    rintro e w12 ⟨rfl, hb12⟩
    have hN12 := hN11.later hb12
    clear hN11 hb12
    go_wp2_with (first | (go_at_call 15; refine (num7_c _ _).mono ?_; rintro e w' ⟨rfl, rfl⟩) | fail)
    refine (last2 (.pointer (some ⟨b, 0, none⟩)) file _ (hN12.1.2.2.2 _ _ rfl).noneIs hbad).mono ?_
    rintro e w13 ⟨rfl, hb13⟩
    have hN13 := hN12.later hb13
    clear hN12 hb13
    go_wp2_with (first | (go_at_call 15; refine (num7_c _ _).mono ?_; rintro e w' ⟨rfl, rfl⟩) | fail)
    refine (appe2 (.pointer (some ⟨b, 0, none⟩)) file _ (hN13.1.2.2.2 _ _ rfl).noneIs hbad).mono ?_
    rintro e w14 ⟨rfl, hb14⟩
    have hN14 := hN13.later hb14
    clear hN13 hb14
    go_wp2_with (first | (go_at_call 15; refine (num7_c _ _).mono ?_; rintro e w' ⟨rfl, rfl⟩) | fail)
    have hsy := sync_c b (ds0 room) file _ (hN14.1.2.2.2 _ _ rfl) (show LeftOk (-1) by decide)
    rw [show (ds0 room).sync file = (ds0 room, 2) from by simp [DS.sync, hbad]] at hsy
    refine hsy.mono ?_
    rintro e w15 ⟨rfl, hD15, hg15⟩
    have hN15 : DQ w w15 (.pointer none) (some (b, ds0 room)) w4.heap.size :=
      ⟨⟨hN14.1.1.grown hg15 hN14.1.1.size (fun k hk => by cases hk; omega), hN14.1.2.1.block (hg15.block _ hN14.1.2.1.lt (by intro e; have := Option.some.inj e; omega)), .inl rfl,
        fun _ _ e => by obtain ⟨rfl, rfl⟩ := Prod.mk.inj (Option.some.inj e); exact hD15⟩, Nat.lt_of_lt_of_le hN14.2.1 hg15.size, hN14.2.2.1,
        (hg15.block _ hN14.2.1 (by intro e; have := Option.some.inj e; omega)).trans hN14.2.2.2⟩
    clear hsy hN14 hg15 hD15
    go_wp2_with (first | (go_at_call 15; refine (num7_c _ _).mono ?_; rintro e w' ⟨rfl, rfl⟩) | fail)
    refine (cut2 (.pointer (some ⟨b, 0, none⟩)) file (-1) _ (hN15.1.2.2.2 _ _ rfl).noneIs hbad).mono ?_
    rintro e w16 ⟨rfl, hb16⟩
    have hN16 := hN15.later hb16
    clear hN15 hb16
    go_wp2_with (first | (go_at_call 15; refine (num7_c _ _).mono ?_; rintro e w' ⟨rfl, rfl⟩) | fail)
    refine (same_one (.pointer (some ⟨b, 0, none⟩)) (.pointer none) _ (hN16.1.2.2.2 _ _ rfl).noneIs (.inl rfl)).mono ?_
    rintro e w' ⟨rfl, rfl⟩
    go_wp2_with (first | (go_at_call 15; refine (num7_c _ _).mono ?_; rintro e w' ⟨rfl, rfl⟩) | fail)
    refine (works07_c _).mono ?_
    rintro e w12 ⟨rfl, hb12⟩
    have hN12 := hN16.later hb12
    have hc := hN12.1.2.1.cell
    have hf := hN12.1.2.1.fz
    obtain ⟨hDd, hBl, hXc⟩ := hN12.fin
    clear hN12 hN16
    go_wp2_with fail
    refine leave1 (v := .bool true) hDd (by simp [results, Try.results5, go_sem, hXc]) ⟨rfl, hBl⟩
theorem diskNone_c (room file : Int) (w : World) (_ : (Lit.int .i64 room).wf = true) (hf : (Lit.int .i64 file).wf = true) : Calls Try.prog 5 #[.int .i64 room, .int .i64 file] w fun e w' => e = .returned (.bool true) ∧ Below w.heap.size w w' := by
  by_cases h1 : room < 1
  · exact diskNoneA1 room file w hf h1
  by_cases h2 : 4194304 < room
  · exact diskNoneA2 room file w hf h2
  · exact diskNoneB room file w hf ⟨by omega, by omega⟩

end Go.Proofs.Ytpobnbiakneoiaa
