import Derived.Test.YtknndpncdnhnpaaSumC
import Derived.Test.YtknndpncdnhnpaaIter
namespace Go.Proofs.Ytknndpncdnhnpaa
open Go.RowKit Go.Cas
attribute [local go_sem] Oper.semAt_some

theorem values_c (a : Option Addr) (n cap : Nat) (w : World) : Calls Try.prog 84 #[.slice a n cap] w fun e w' =>
    e = .returned (.func (.func 88) #[] #[.pointer (some ⟨w.heap.size, 0, none⟩)]) ∧ w.alloc (.cells #[.slice a n cap] 32) = w' := by
  go_enter Try.func84, Try.ntmps84
  go_wp2
  go_ret
  exact ⟨rfl, rfl⟩

/-- bytes, one by one -/
def EByte (_ : Nat) (x : UInt8) (vs : Array Value) (_ : World) : Prop := vs = #[.int .u8 (x.toNat : Int)]
def RSlice (Bs : Nat) (a : Option Addr) (cap : Nat) (k : Nat) : Prop := k = Bs ∨ (0 < cap ∧ ∃ ad, a = some ad ∧ ad.block = k)

set_option maxRecDepth 100000 in
set_option maxHeartbeats 2000000 in
theorem values_iter (Bs : Nat) (a : Option Addr) (n cap : Nat) (l : List UInt8) (hn : n ≤ 2 ^ 40) (w : World) (h : IsB w a n cap l) (hb : w.cell? ⟨Bs, 0, none⟩ = some (.slice a n cap)) :
    Iter Try.prog 88 #[.pointer (some ⟨Bs, 0, none⟩)] EByte l 0 (RSlice Bs a cap) w := by
  intro L J Jx W hW hsz hJ hJx hY h0
  have hl := h.len
  have hbW : W.cell? ⟨Bs, 0, none⟩ = some (.slice a n cap) := (hW.cell (Or.inl rfl)).trans hb
  have hsW := hW.isB' h (fun ad ha h0 => Or.inr ⟨h0, ad, ha, rfl⟩)
  refine callsIn_of_wp Try.func88 rfl trivial ?_ rfl
  simp only [Try.ntmps88, List.size_toArray, List.length_cons, List.length_nil, Nat.reduceAdd, Nat.reduceSub, Array.replicate_succ, Array.replicate_zero, List.push_toArray, List.append_toArray, List.nil_append, List.cons_append]
  have HL := Lib.hid hl; clear hl
  have HY := Lib.hid hY; clear hY
  gi_wp2
  gi_loopw [7] (fun i wr => ∃ k : Nat, k ≤ n ∧ i = .int .i64 k ∧ J k wr ∧ Hold (RSlice Bs a cap) W wr) (fun i _ => n - (intOf i).toNat)
  case atStart => exact ⟨0, by omega, rfl, h0, Hold.refl _ _⟩
  case round =>
    obtain ⟨k, hk, rfl, hj, hh⟩ := hrel
    by_cases hlt : k < n
    · obtain ⟨b, off, rfl, hbl⟩ := h.some_of_lt (by have := h.le; omega)
      have hcell := (hh.isB' hsW (fun ad ha h0 => Or.inr ⟨h0, ad, ha, rfl⟩)).cell hlt
      have hkl : k < l.length := by have := HL.out; omega
      have hx : l.getD k 0 = l[k] := by simp [List.getD, hkl]
      obtain ⟨fn, tmps, assign, body, hy, hR⟩ := HY.out k hkl #[.int .u8 ((l.getD k 0).toNat : Int)] wr hj (by rw [← hx]; rfl) (by have := hh.size; omega)
      clear hx
      generalize (l.getD k 0).toNat = x at *
      gi_wp2
      refine ⟨rfl, hR.mono ?_⟩
      rintro e W3 (⟨rfl, hj3, hh3⟩ | ⟨rfl, hj3, hh3⟩)
      · gi_wp2
        go_roundw
        case rel => exact ⟨k + 1, by omega, by go_num, hj3, hh.trans (hh3.mono fun k hk => Or.inl hk)⟩
        case measure => simp [intOf]; omega
      · gi_wp2
        refine bodyPost_ret (results_none rfl _ _ _) rfl ?_
        exact ⟨⟨_, rfl⟩, .inr ⟨k + 1, by have := HL.out; omega, hj3⟩⟩
    · obtain rfl : k = n := by omega
      gi_wp2
      go_end0
      exact ⟨⟨_, rfl⟩, .inl (by rw [HL.out]; exact hj)⟩

theorem enter_values1 : ∀ args w, (callFunc 88 args).run Try.prog w = .ok (.enter 88 args) w := enters_of Try.func88 (by kernel_rfl) rfl

set_option maxRecDepth 100000 in
set_option maxHeartbeats 2000000 in
/-- a sum behind bytes -/
theorem folded_c (s : Nat) (hs : s < 2 ^ 32) (a : Option Addr) (n cap : Nat) (l : List UInt8) (hn : n ≤ 2 ^ 40) (blk : Nat) (w : World) (ht : TabTo w blk 256) (h : IsB w a n cap l) :
    Calls Try.prog 78 #[.int .u32 (s : Int), .slice a n cap, .func (.func 79) #[.pointer (some ⟨blk, 0, none⟩)] #[]] w fun e w' => e = .returned (.int .u32 (runB s l : Int)) ∧ Below w.heap.size w w' := by
  have HS := Lib.hid hs; clear hs
  refine calls_of_wp_marks Try.func78 rfl ?_
  simp only [Try.ntmps78, List.size_toArray, List.length_cons, List.length_nil, Nat.reduceAdd, Nat.reduceSub, Array.replicate_succ, Array.replicate_zero, List.push_toArray, List.append_toArray, List.nil_append, List.cons_append]
  go_wp2_with (go_at_call 84; refine (values_c _ _ _ _).mono ?_; rintro e w' ⟨rfl, rfl⟩)
  refine wp_at (fun w3 => Box w3 w.heap.size (.int .u32 (s : Int)) ∧ Box w3 (w.heap.size + 1) (.func (.func 79) #[.pointer (some ⟨blk, 0, none⟩)] #[]) ∧ Box w3 (w.heap.size + 1 + 1) (.slice a n cap) ∧ Below w.heap.size w w3)
    ⟨((Box.new w _ _).alloc _).alloc _, (Box.mk _ _ _ (by simp)).alloc _, Box.mk _ _ _ (by simp), (((Below.refl _ w).alloc (Nat.le_refl _) _).alloc (by simp) _).alloc (by simp; omega) _⟩ ?_
  rintro w3 ⟨hB0, hB1, hB2, hb3⟩
  have hs3 := hB2.lt
  have hl3 := h.later hb3
  have ht3 := ht.later hb3
  refine wp_range (gf := 88) (lb := #[.pointer (some ⟨w.heap.size + 1 + 1, 0, none⟩)]) rfl enter_values1
    (values_iter (w.heap.size + 1 + 1) a n cap l hn w3 hl3 hB2.cell) (Hold.refl _ _) (Nat.le_refl _) ?hR ?hps ?hE
    (fun i A => Box A w.heap.size (.int .u32 (runB s (l.take i) : Int)) ∧ Box A (w.heap.size + 1) (.func (.func 79) #[.pointer (some ⟨blk, 0, none⟩)] #[]) ∧ TabTo A blk 256 ∧ Below w.heap.size w A)
    (fun _ _ _ => False) ?hI ?hIx ⟨hB0, hB1, ht3, hb3⟩
    (fun vs => { tmps := #[.int .u32 (s : Int), .slice a n cap, .func (.func 79) #[.pointer (some ⟨blk, 0, none⟩)] #[], .pointer (some ⟨w.heap.size, 0, none⟩), undef, .pointer (some ⟨w.heap.size + 1, 0, none⟩), .int .u32 0, vs.getD 0 undef, .slice a n cap, .func (.func 88) #[] #[.pointer (some ⟨w.heap.size + 1 + 1, 0, none⟩)], vs.getD 0 undef, undef, undef, undef, undef, undef], defers := [] }) ?hassign ?hbody ?hdone ?hstop
  case hR => rintro k (rfl | ⟨h0, ad, ha, rfl⟩); exact hB2.lt; exact hl3.lt ha h0
  case hps => rintro x vs A rfl; rfl
  case hE => rintro x vs A B rfl _; rfl
  case hI =>
    rintro i A B ⟨h1, h2, h3, h4⟩ hk
    have hn : ∀ k, k < w3.heap.size → ¬ Span w3.heap.size (0 + 2) k := fun k hk h => by unfold Span at h; omega
    exact ⟨h1.keep hk (hn _ (by omega)), h2.keep hk (hn _ (by omega)), h3.block (hk.block _ h3.lt (hn _ ht3.lt)), h4.trans (hk.below h4.size (fun k hk => hn k (by have := hb3.size; omega)))⟩
  case hIx => exact fun _ _ _ _ h _ => h
  case hassign =>
    rintro L x vs W K rfl hK
    gi_wp2
    exact hK
  case hbody =>
    rintro L i hi vs A ⟨h1, h2, h3, h4⟩ rfl hsz
    have hlen : i < l.length := hi
    have hr : runB s (l.take (i + 1)) = stepB (runB s (l.take i)) l[i] := by
      rw [List.take_succ_eq_append_getElem hlen, runB_append]; rfl
    rw [show (#[Value.int .u8 (l[i].toNat : Int)] : Array Value).getD 0 undef = .int .u8 (l[i].toNat : Int) from rfl]
    have hv := runB_lt HS.out (l.take i)
    have hst := step_c blk A h3 _ hv l[i]
    have HR := Lib.hid hr; clear hr
    rw [← HR.out] at hst
    generalize runB s (l.take i) = x at *
    generalize l[i].toNat = y at *
    have HV := Lib.hid hv; clear hv
    have HST := Lib.hid hst; clear hst
    have hc0 := h1.cell
    have hf0 := h1.fz
    have hc1 := h2.cell
    gi_wp2_with fail
    refine ⟨trivial, rfl, (CallsIn.inRound L (callsIn_wide.2 HST.out)).mono ?_⟩
    rintro e w' ⟨rfl, rfl⟩
    gi_wp2
    refine ⟨Hold.setCell _ _ ?_ _, h1.set _, h2.other (by simp) _, h3.block (Below.heap_setCell _ _ _ _ ?_), h4.setCell (Nat.le_refl _) _⟩
    · rintro ((e | ⟨h0, ad, ha, e⟩) | e)
      · simp only at e; omega
      · have := h.lt ha h0; simp at e; omega
      · unfold Span at e; simp at e; omega
    · have := ht.lt; simp; omega
  case hdone =>
    rintro B hBs ⟨h1, h2, h3, h4⟩ hD
    have e : l.take l.length = l := List.take_of_length_le (by omega)
    rw [e] at h1
    have hc0 := h1.cell
    go_wp2
    refine leave1 hD (results_tmp rfl _ _ _) ⟨rfl, below_putObj h4 (by omega) _⟩
  case hstop => exact fun _ _ _ _ _ h => h.elim

/-- 256 zeros -/
def zeros : Array Value := Array.replicate 256 (.int .u32 0)
theorem build_zeros : ∀ w, (zeroValue 128).run Try.prog w = .ok (.agg zeros) w := fun _ => by kernel_rfl
theorem zeros_size : zeros.size = 256 := by simp [zeros]
theorem box_zeros : ∀ w, (Instr.box 128 (.agg zeros)).run Try.prog w = .ok (.pointer (some ⟨w.heap.size, 0, none⟩)) (w.alloc (.cells zeros 128)) := fun _ => by kernel_rfl

set_option maxRecDepth 100000 in
set_option maxHeartbeats 2000000 in
theorem sum_c (a : Option Addr) (n cap : Nat) (ls : List (List UInt8)) (hn : n ≤ 2 ^ 40) (hs : ∀ l ∈ ls, l.length ≤ 2 ^ 40) (w : World) (h : IsBB w a n cap ls) :
    Calls Try.prog 61 #[.slice a n cap] w fun e w' => e = .returned (.int .u32 (crc ls.flatten : Int)) ∧ Below w.heap.size w w' := by
  have hl := h.len
  have HL := Lib.hid hl; clear hl
  have HS := Lib.hid hs; clear hs
  have hbz := build_zeros
  have hxz := box_zeros
  go_enter Try.func61, Try.ntmps61
  go_wp2_with fail
  have ht0 : TabTo (w.alloc (.cells zeros 128)) w.heap.size 0 := ⟨zeros, _, heap_alloc_new w _, zeros_size, fun i hi => by omega⟩
  refine (fill_c w.heap.size _ ht0).mono ?_
  rintro e w1 ⟨rfl, ht1, hg1⟩
  have hb1 : Below w.heap.size w w1 := ((Below.refl _ w).alloc (Nat.le_refl _) _).grown hg1 (by simp) (fun k e => by cases e; exact Nat.le_refl _)
  clear ht0 hg1 hbz hxz
  go_wp2_with fail
  go_loopw [4, 13] (fun s i wr => ∃ k : Nat, k ≤ n ∧ i = .int .i64 k ∧ s = .int .u32 (runB ones (ls.take k).flatten : Int) ∧ TabTo wr w.heap.size 256 ∧ Below w.heap.size w wr) (fun _ i _ => n - (intOf i).toNat)
  case atStart => exact ⟨0, by omega, rfl, rfl, ht1, hb1⟩
  case round =>
    obtain ⟨k, hk, rfl, rfl, ht, hb⟩ := hrel
    by_cases hlt : k < n
    · obtain ⟨b, off, rfl, hbl⟩ := h.some_of_lt (by have := h.le; omega)
      obtain ⟨a', n', c', hc, hb'⟩ := (h.later hb).cell hlt
      have hft := flatten_take ls k (by have := HL.out; omega)
      have hv := runB_lt ones_lt (ls.take k).flatten
      have hr : runB ones (ls.take (k + 1)).flatten = runB (runB ones (ls.take k).flatten) (ls.getD k []) := by rw [hft, runB_append]
      have hn' : n' ≤ 2 ^ 40 := by
        rw [← hb'.len]
        have : k < ls.length := by have := HL.out; omega
        refine HS.out _ ?_
        simp [List.getD, this]
      have HR := Lib.hid hr; clear hr hft
      generalize runB ones (ls.take k).flatten = x at *
      have HV := Lib.hid hv; clear hv
      go_wp2_with fail
      refine (folded_c x HV.out a' n' c' _ hn' w.heap.size wr ht hb').mono ?_
      rintro e w2 ⟨rfl, hb2⟩
      rw [← HR.out]
      go_wp2
      go_roundw
      case rel => exact ⟨k + 1, by omega, by go_num, rfl, ht.later hb2, hb.trans (hb2.mono hb.size)⟩
      case measure => simp [intOf]; omega
    · obtain rfl : k = n := by omega
      have e : ls.take k = ls := List.take_of_length_le (by have := HL.out; omega)
      rw [e]
      have hv := runB_lt ones_lt ls.flatten
      have hx := u32_xor_nat 4294967295 (runB ones ls.flatten) (by omega) (by omega)
      rw [show (4294967295 : Nat) ^^^ runB ones ls.flatten = crc ls.flatten from ones_xor hv] at hx
      have HX := Lib.hid hx; clear hx hv
      generalize runB ones ls.flatten = x at *
      go_wp2
      go_ret
      exact ⟨ret_int (by rw [← HX.out]; rfl), hb⟩
end Go.Proofs.Ytknndpncdnhnpaa
