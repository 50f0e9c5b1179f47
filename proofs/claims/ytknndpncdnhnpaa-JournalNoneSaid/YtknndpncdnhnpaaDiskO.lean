import Derived.Test.YtknndpncdnhnpaaDiskK
import Derived.Test.YtknndpncdnhnpaaLeave
section
namespace Go.Proofs.Ytknndpncdnhnpaa
open Go.RowKit Go.Cas

/-! ### Read, Lasting -/
theorem fl_big {s : DS} (h : s.fine) (n : Int) : (s.fl n).length ≤ 2 ^ 40 := by
  unfold DS.fl
  split
  · exact h.2.2.1
  · exact h.2.2.2
set_option maxRecDepth 100000 in
theorem dread_c (b : Nat) (s : DS) (n : Int) (w : World) (h : IsD w b s) (hf : s.fine) (hok : fileOk n = true) : Calls Try.prog 17 #[.pointer (some ⟨b, 0, none⟩), .int .i64 n] w fun e w' =>
    ∃ v, e = .returned (.tuple #[v, .int .i64 0]) ∧ OwnB w' w.heap.size 5 v (s.fl n) ∧ Below w.heap.size w w' := by
  have hbig := fl_big hf n
  have hr := (fileOk_iff n).1 hok
  have hA : firstA [(false, 1), (!fileOk n, 2)] = 0 := by simp [firstA, hok]
  rcases file_two hok with rfl | rfl
  · have hat := fun W (hW : IsD W b s) => at_c b s 0 W hW (by decide) (by decide)
    have HH := Lib.hid h; clear h
    have HB := Lib.hid hbig; clear hbig
    clear hr hok hf
    go_enter Try.func17, Try.ntmps17
    go_wp2_with fail
    refine (of_c _ false 0 _ HH.out.noneIs).mono ?_
    rintro e w2 ⟨v2, rfl, ho2, hb2⟩
    obtain ⟨a2, ca2, rfl, hs2⟩ := ho2.slice
    have hfi := first_c a2 2 ca2 _ (by decide) w2 rfl hs2
    rw [hA] at hfi
    have HF := Lib.hid hfi; clear hfi hA
    go_wp2_with fail
    refine HF.out.mono ?_
    rintro e w3 ⟨rfl, hb3⟩
    have hb := below_then hb2 hb3
    have h3 := HH.out.later hb
    have hat3 := hat w3 h3
    clear hat
    obtain ⟨a0, l0, c0, a1, l1, c1, hd⟩ := h3
    have hg := hd.g3
    have hlen := hd.b0.len
    go_wp2_with fail
    refine hat3.mono ?_
    rintro e w' ⟨rfl, rfl⟩
    have HL := Lib.hid hlen; clear hlen
    go_wp2_with fail
    refine (clone_c a0 l0 c0 _ (by rw [← HL.out]; exact HB.out) w3 hd.b0).mono ?_
    rintro e w4 ⟨v4, rfl, ho4, hb4⟩
    go_wp2_with fail
    go_ret2
    exact ⟨v4, rfl, ho4.mono hb.size, below_then hb hb4⟩
  · have hat := fun W (hW : IsD W b s) => at_c b s 1 W hW (by decide) (by decide)
    have HH := Lib.hid h; clear h
    have HB := Lib.hid hbig; clear hbig
    clear hr hok hf
    go_enter Try.func17, Try.ntmps17
    go_wp2_with fail
    refine (of_c _ false 1 _ HH.out.noneIs).mono ?_
    rintro e w2 ⟨v2, rfl, ho2, hb2⟩
    obtain ⟨a2, ca2, rfl, hs2⟩ := ho2.slice
    have hfi := first_c a2 2 ca2 _ (by decide) w2 rfl hs2
    rw [hA] at hfi
    have HF := Lib.hid hfi; clear hfi hA
    go_wp2_with fail
    refine HF.out.mono ?_
    rintro e w3 ⟨rfl, hb3⟩
    have hb := below_then hb2 hb3
    have h3 := HH.out.later hb
    have hat3 := hat w3 h3
    clear hat
    obtain ⟨a0, l0, c0, a1, l1, c1, hd⟩ := h3
    have hg := hd.g5
    have hlen := hd.b1.len
    go_wp2_with fail
    refine hat3.mono ?_
    rintro e w' ⟨rfl, rfl⟩
    have HL := Lib.hid hlen; clear hlen
    go_wp2_with fail
    refine (clone_c a1 l1 c1 _ (by rw [← HL.out]; exact HB.out) w3 hd.b1).mono ?_
    rintro e w4 ⟨v4, rfl, ho4, hb4⟩
    go_wp2_with fail
    go_ret2
    exact ⟨v4, rfl, ho4.mono hb.size, below_then hb hb4⟩
theorem read_no (v : Value) (bo : Bool) (n : Int) (w : World) (h : NoneIs w v bo) (hbad : bo = true ∨ fileOk n = false) : Calls Try.prog 17 #[v, .int .i64 n] w fun e w' =>
    e = .returned (.tuple #[.slice none 0 0, .int .i64 (errOf bo)]) ∧ Below w.heap.size w w' := by
  obtain ⟨p, rfl⟩ := h.ptr
  have hA := firstA_err bo n hbad []
  rw [List.append_nil] at hA
  have hne := errOf_ne bo
  have hne2 : (errOf bo != 0) = true := by simpa using hne
  have HH := Lib.hid h; clear h
  go_enter Try.func17, Try.ntmps17
  go_wp2_with fail
  refine (of_c _ bo n _ HH.out).mono ?_
  rintro e w2 ⟨v2, rfl, ho2, hb2⟩
  obtain ⟨a2, ca2, rfl, hs2⟩ := ho2.slice
  have hfi := first_c a2 2 ca2 _ (by decide) w2 rfl hs2
  rw [hA] at hfi
  have HF := Lib.hid hfi; clear hfi
  go_wp2_with fail
  refine HF.out.mono ?_
  rintro e w3 ⟨rfl, hb3⟩
  go_wp2_with fail
  go_ret2
  exact ⟨rfl, below_then hb2 hb3⟩
/-! ### Copy, Same, Bytes: of none -/
end Go.Proofs.Ytknndpncdnhnpaa
end
section
namespace Go.Proofs.Ytknndpncdnhnpaa
open Go.RowKit Go.Cas
attribute [local go_sem] Oper.semAt_some

/-- An iterator over nothing. -/
theorem iter_nil {α : Type} {P : Program} {g : Nat} {lb : Array Value} {E : Nat → α → Array Value → World → Prop} {c : Nat} {R : Nat → Prop} {w : World}
    (h : ∀ l W, Hold R w W → w.heap.size ≤ W.heap.size → Calls P g (#[.func (.yield l) #[] #[]] ++ lb) W fun e B => (∃ v, e = .returned v) ∧ Below W.heap.size W B) : Iter P g lb E ([] : List α) c R w := by
  intro l J Jx W hW hsz hJ _ _ h0
  refine (callsIn_wide.2 (h l W hW hsz)).mono ?_
  rintro e B ⟨hv, hb⟩
  exact ⟨hv, .inl (hJ 0 W B h0 (Keep.of_below hb))⟩
def ENo (_ : Nat) (_ : Unit) (_ : Array Value) (_ : World) : Prop := False

end Go.Proofs.Ytknndpncdnhnpaa
end
section
namespace Go.Proofs.Ytknndpncdnhnpaa
open Go.RowKit Go.Cas

def sB : DS := ⟨4, 0, -1, [97, 98], 0, [], 0⟩
def sC : DS := ⟨4, 0, -1, [97, 98], 2, [], 0⟩
def sD : DS := ⟨4, 0, -1, [97, 98, 99, 100], 2, [], 0⟩
def sE : DS := ⟨4, 0, -1, [97, 98, 99], 3, [], 0⟩
def sF : DS := ⟨4, 0, 1, [97, 98, 99], 3, [], 0⟩
def sG : DS := ⟨4, 1, 0, [97, 98, 99], 3, [], 0⟩
theorem eB : (ds0 4).append 0 [97, 98] = (sB, 0) := by rfl
theorem eC : sB.sync 0 = (sC, 0) := by rfl
theorem eD : sC.append 0 [99, 100] = (sD, 0) := by rfl
theorem eD2 : sD.append 0 [101] = (sD, 170) := by rfl
theorem eE : sD.crash 1 0 = (sE, 0) := by rfl
theorem eF : sE.stop 1 = (sF, 0) := by rfl
theorem eG : sF.switch = (sG, 0) := by rfl
theorem eG2 : sG.append 1 [120] = (sG, 171) := by rfl
theorem abc_eq : ((strOf [97, 98, 99]).toList == [97, 98, 99]) = true := by rw [toList_data, strOf_data]; rfl
/-- bytes written out -/
theorem lit1 (w : World) (x : UInt8) (fr : Nat × Nat) : IsB (w.alloc (.cells #[.int .u8 (x.toNat : Int)] 5 fr)) (some ⟨w.heap.size, 0, none⟩) 1 1 [x] := IsB_freshF w _ fr [x] 1 rfl (by decide) rfl
theorem lit2 (w : World) (x y : UInt8) (fr : Nat × Nat) : IsB (w.alloc (.cells #[.int .u8 (x.toNat : Int), .int .u8 (y.toNat : Int)] 5 fr)) (some ⟨w.heap.size, 0, none⟩) 2 2 [x, y] := IsB_freshF w _ fr [x, y] 2 rfl (by decide) rfl
end Go.Proofs.Ytknndpncdnhnpaa
end
section
namespace Go.Proofs.Ytknndpncdnhnpaa
open Go.RowKit Go.Cas
attribute [local go_sem] Oper.semAt_some

theorem zero_disk (w : World) : (Instr.build 76 #[]).run Try.prog w = .ok (.agg #[.int .i64 0, .int .i64 0, .int .i64 0, .slice none 0 0, .int .i64 0, .slice none 0 0, .int .i64 0, .bool false]) w := by kernel_rfl
theorem zero_two (w : World) : (Instr.build 36 #[]).run Try.prog w = .ok (.agg #[.int .i64 0, .int .i64 0]) w := by kernel_rfl
/-- what DiskNone holds on to: the result false in its cell, the zero disk and a disk -/
def DN (w0 W : World) (z : Value) (d : Option (Nat × DS)) : Prop := Below w0.heap.size w0 W ∧ Box W w0.heap.size (.bool false) ∧ NoD W z ∧ ∀ b s, d = some (b, s) → IsD W b s
theorem DN.later {w0 W W' : World} {z : Value} {d : Option (Nat × DS)} (h : DN w0 W z d) (hb : Below W.heap.size W W') : DN w0 W' z d :=
  ⟨h.1.trans (hb.mono h.1.size), h.2.1.later hb, h.2.2.1.later hb, fun b s e => (h.2.2.2 b s e).later hb⟩
theorem none_z {w : World} {z : Value} (h : NoD w z) : NoneIs w z true := h.noneIs
theorem zeroN {W : World} : NoD (W.alloc (.cells #[.int .i64 0, .int .i64 0, .int .i64 0, .slice none 0 0, .int .i64 0, .slice none 0 0, .int .i64 0, .bool false] 76)) (.pointer (some ⟨W.heap.size, 0, none⟩)) :=
  .inr ⟨_, rfl, by unfold World.cell?; rw [heap_alloc_new]; rfl⟩
def DQ (w0 W : World) (z : Value) (d : Option (Nat × DS)) (D : Nat) : Prop := DN w0 W z d ∧ D < W.heap.size ∧ w0.heap.size < D ∧ W.heap[D]? = some (.deferred (some []))
theorem DQ.later {w0 W W' : World} {z : Value} {d : Option (Nat × DS)} {D : Nat} (h : DQ w0 W z d D) (hb : Below W.heap.size W W') : DQ w0 W' z d D :=
  ⟨h.1.later hb, Nat.lt_of_lt_of_le h.2.1 hb.size, h.2.2.1, (hb.block _ h.2.1).trans h.2.2.2⟩
/-- what the end asks: true in the result's cell, the marks left -/
theorem DQ.fin {w0 W : World} {z : Value} {d : Option (Nat × DS)} {D : Nat} (h : DQ w0 W z d D) :
    (W.setCell ⟨w0.heap.size, 0, none⟩ (.bool true)).heap[D]? = some (.deferred (some [])) ∧ Below w0.heap.size w0 ((W.setCell ⟨w0.heap.size, 0, none⟩ (.bool true)).putObj D (.deferred none)) ∧
      ((W.setCell ⟨w0.heap.size, 0, none⟩ (.bool true)).putObj D (.deferred none)).cell? ⟨w0.heap.size, 0, none⟩ = some (.bool true) :=
  ⟨(Below.heap_setCell _ _ _ _ (by have := h.2.2.1; simp; omega)).trans h.2.2.2, below_putObj (h.1.1.setCell (by simp) _) (Nat.le_of_lt h.2.2.1) _,
    ((h.1.2.1.set (.bool true)).keep (Keep.putObj (S := fun k => k = D) _ _ (.deferred none) rfl) (by have := h.2.2.1; omega)).cell⟩
theorem read1 (v : Value) (n : Int) (w : World) (h : NoD w v) : Calls Try.prog 17 #[v, .int .i64 n] w fun e w' => e = .returned (.tuple #[.slice none 0 0, .int .i64 1]) ∧ Below w.heap.size w w' := read_no v true n w h.noneIs (.inl rfl)
theorem read2 (v : Value) (n : Int) (w : World) (h : NoneIs w v false) (hbad : fileOk n = false) : Calls Try.prog 17 #[v, .int .i64 n] w fun e w' => e = .returned (.tuple #[.slice none 0 0, .int .i64 2]) ∧ Below w.heap.size w w' := read_no v false n w h (.inr hbad)
theorem appe1 (v : Value) (n : Int) (w : World) (h : NoD w v) : Calls Try.prog 13 #[v, .int .i64 n, .slice none 0 0] w fun e w' => e = .returned (.int .i64 1) ∧ Below w.heap.size w w' := append_no v true n none 0 0 w h.noneIs (.inl rfl)
theorem appe2 (v : Value) (n : Int) (w : World) (h : NoneIs w v false) (hbad : fileOk n = false) : Calls Try.prog 13 #[v, .int .i64 n, .slice none 0 0] w fun e w' => e = .returned (.int .i64 2) ∧ Below w.heap.size w w' := append_no v false n none 0 0 w h (.inr hbad)
theorem cut1 (v : Value) (n m : Int) (w : World) (h : NoD w v) : Calls Try.prog 32 #[v, .int .i64 n, .int .i64 m] w fun e w' => e = .returned (.int .i64 1) ∧ Below w.heap.size w w' := cut_no v true n m w h.noneIs (.inl rfl)
theorem cut2 (v : Value) (n m : Int) (w : World) (h : NoneIs w v false) (hbad : fileOk n = false) : Calls Try.prog 32 #[v, .int .i64 n, .int .i64 m] w fun e w' => e = .returned (.int .i64 2) ∧ Below w.heap.size w w' := cut_no v false n m w h (.inr hbad)
end Go.Proofs.Ytknndpncdnhnpaa
end
