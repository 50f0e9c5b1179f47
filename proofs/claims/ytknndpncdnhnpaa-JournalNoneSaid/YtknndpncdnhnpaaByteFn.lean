import Derived.Test.YtknndpncdnhnpaaProg
import Derived.Test.YtknndpncdnhnpaaBase
import Derived.Laws.BytesString
import Derived.Laws.MakeOwn
import Derived.Lib.SlBytesConst
import Derived.Deep.QuietTactic
import Derived.BigQuiet
namespace Go.Proofs.Ytknndpncdnhnpaa
open Go.RowKit Go.Cas

theorem ret_int {k : IntKind} {a b : Int} (h : a = b) : Ending.returned (.int k a) = .returned (.int k b) := by rw [h]
theorem infoU8 : (Try.prog.info? 5).map (fun i => (i.zero, i.size, i.bytes)) = some (some (.int .u8 0), 1, 1) := by kernel_rfl
theorem below_alloc (w : World) (o : Obj) : Below w.heap.size w (w.alloc o) := (Below.refl _ _).alloc (Nat.le_refl _) o
theorem below_then {w w1 w2 : World} (h : Below w.heap.size w w1) (h' : Below w1.heap.size w1 w2) : Below w.heap.size w w2 := h.trans (h'.mono h.size)
theorem below_cell {w w' : World} {p : Addr} {v : Value} (hb : Below w.heap.size w w') (h : w.cell? p = some v) : w'.cell? p = some v := (hb.cell (World.block_lt_of_cell? w p h)).trans h
theorem below_frozen {w w' : World} {p : Addr} {v : Value} (hb : Below w.heap.size w w') (h : w.cell? p = some v) : w'.frozen? p = w.frozen? p := hb.frozen (World.block_lt_of_cell? w p h)
theorem i64_in {x : Int} (h0 : 0 ≤ x) (h1 : x ≤ 2 ^ 60) : IntKind.i64.wrap x = x := by
  simp only [IntKind.wrap]
  simp (config := { decide := true }) only [IntKind.bits, IntKind.signed]
  simp
  omega
/-- The rest of a byte slice from lo on. -/
theorem IsB_rest {w : World} {a : Option Addr} {n cap : Nat} {l : List UInt8} (h : IsB w a n cap l) (k : Nat) {lo : Nat} (hk : lo = k) (hkn : k ≤ n) {a' : Option Addr} {n' cap' : Nat}
    (hn' : n' = n - lo) (hc' : cap' = cap - lo) (ha' : a' = if cap = lo then a else a.map (fun x => x.add lo)) : IsB w a' n' cap' (l.drop k) := by
  subst hk hn' hc'
  have := h.piece hkn (Nat.le_refl _) h.le (Nat.le_refl _) (a' := a') (by rw [ha', Nat.mul_one]) (by
    intro h1 h2
    rcases h.cases with ⟨_, h3⟩ | ⟨b, off, h3, _⟩
    · omega
    · rw [h3] at h2; cases h2)
  rwa [List.take_of_length_le (by rw [List.length_drop, h.len]; exact Nat.le_refl _)] at this
theorem IsB_pre {w : World} {a : Option Addr} {n cap : Nat} {l : List UInt8} (h : IsB w a n cap l) {m c : Nat} (hm : m ≤ n) (hmc : m ≤ c) (hc : c ≤ cap) : IsB w a m c (l.take m) := by
  have h1 := h.len
  have h2 := h.le
  have h3 := h.big
  refine ⟨by rw [bvs_len, List.length_take]; omega, hmc, by omega, fun e => by have := h.2.2.2.1 e; omega, fun ad ha h0 => ?_⟩
  obtain ⟨hs, cs, e, fr, hh, hsz, hcs⟩ := h.2.2.2.2 ad ha (by omega)
  refine ⟨hs, cs, e, fr, hh, by omega, fun i hi => ?_⟩
  rw [hcs i (by omega), bvs, bvs, List.map_take, List.getElem?_take, if_pos (by omega)]
theorem ownB_new (w : World) (e : TypeId) (l : List UInt8) (hl : l.length ≤ maxLen) {cs : Array Value} (hc : cs.toList = bvs l) : OwnB (w.alloc (.cells cs e)) w.heap.size e (.slice (some ⟨w.heap.size, 0, none⟩) l.length l.length) l := by
  have hs : cs.size = l.length := by rw [← Array.length_toList, hc, bvs_len]
  refine ⟨by rw [bvs_len]; omega, .inr ⟨w.heap.size, l.length, cs, rfl, Nat.le_refl _, heap_alloc_new w _, Nat.le_refl _, hl, by omega, ?_⟩⟩
  rw [hc, List.take_of_length_le (by rw [bvs_len]; omega)]
theorem own_block {w : World} {base : Nat} {e : TypeId} {a : Option Addr} {n cap : Nat} {l : List UInt8} (h : OwnB w base e (.slice a n cap) l) : ∀ ad, a = some ad → base ≤ ad.block := by
  intro ad had
  subst had
  obtain ⟨_, ⟨hv, _⟩ | ⟨g, c, cur, hv, hb, _⟩⟩ := h
  · cases hv
  · simp only [Value.slice.injEq] at hv
    obtain ⟨hv, _⟩ := hv
    obtain rfl := Option.some.inj hv
    exact hb
/-- A row of the call's own stays while another one, of other elements, grows. -/
theorem ownsRow_grown {w w' : World} {base e1 e2 k1 k2 n1 n2 : Nat} {v1 v2 : Value} {xs1 xs2 : List Value} (h2 : w.ownsRow base e2 k2 v2 n2 xs2) (h1 : w.ownsRow base e1 k1 v1 n1 xs1) (hne : e1 ≠ e2) (hg : w.grownBy w' v1.ownBlock) :
    w'.ownsRow base e2 k2 v2 n2 xs2 := by
  refine ⟨h2.1, ?_⟩
  rcases h2.2 with h | ⟨g, cap, cur, hv, hb, hh, r⟩
  · exact .inl h
  · refine .inr ⟨g, cap, cur, hv, hb, ?_, r⟩
    rw [hg.block g (Array.getElem?_eq_some_iff.1 hh).1 ?_]
    · exact hh
    · intro he
      obtain ⟨_, ⟨rfl, _⟩ | ⟨g1, c1, cur1, rfl, _, hh1, _⟩⟩ := h1
      · cases he
      · have : g = g1 := by
          have := Option.some.inj he
          exact this
        subst this
        rw [hh1] at hh
        simp only [Option.some.injEq, Obj.cells.injEq] at hh
        exact hne hh.2.1
theorem ownsRow_blocks {w w' : World} {base : Nat} {e : TypeId} {k : Nat} {v : Value} {n : Nat} {vs : List Value} (h : w.ownsRow base e k v n vs) (hb : ∀ g, base ≤ g → g < w.heap.size → w'.heap[g]? = w.heap[g]?) : w'.ownsRow base e k v n vs := by
  refine ⟨h.1, ?_⟩
  rcases h.2 with h | ⟨g, cap, cur, hv, hg, hh, r⟩
  · exact .inl h
  · exact .inr ⟨g, cap, cur, hv, hg, by rw [hb g hg (Array.getElem?_eq_some_iff.1 hh).1]; exact hh, r⟩
theorem ownsRow_set {w : World} {base : Nat} {e : TypeId} {k : Nat} {v : Value} {n : Nat} {vs : List Value} (h : w.ownsRow base e k v n vs) {p : Addr} (hp : p.block < base) (u : Value) : (w.setCell p u).ownsRow base e k v n vs :=
  ownsRow_blocks h fun _ hg _ => Below.heap_setCell _ _ _ _ (by omega)
/-- The string of these bytes. -/
def strOf (l : List UInt8) : ByteArray := l.foldl ByteArray.push ByteArray.empty
theorem foldl_push (l : List UInt8) : ∀ s : ByteArray, (l.foldl ByteArray.push s).data.toList = s.data.toList ++ l := by
  induction l with
  | nil => intro s; simp
  | cons x l ih => intro s; rw [List.foldl_cons, ih]; simp [ByteArray.push]
theorem strOf_data (l : List UInt8) : (strOf l).data.toList = l := by
  unfold strOf
  rw [foldl_push]
  rfl
theorem strOf_inj {l m : List UInt8} (h : strOf l = strOf m) : l = m := by rw [← strOf_data l, ← strOf_data m, h]
theorem strOf_beq (l m : List UInt8) : (strOf l == strOf m) = decide (l = m) := by
  show ((strOf l).data == (strOf m).data) = decide (l = m)
  by_cases h : l = m
  · subst h; simp
  · rw [decide_eq_false h]
    refine beq_eq_false_iff_ne.2 fun h' => h ?_
    rw [← strOf_data l, ← strOf_data m, h']
theorem toList_loop (bs : ByteArray) : ∀ (k i : Nat) (r : List UInt8), bs.size - i = k → ByteArray.toList.loop bs i r = r.reverse ++ bs.data.toList.drop i := by
  intro k
  induction k with
  | zero =>
    intro i r hk
    unfold ByteArray.toList.loop
    have hs : bs.data.toList.length = bs.size := rfl
    rw [if_neg (by omega), List.drop_of_length_le (by omega), List.append_nil]
  | succ k ih =>
    intro i r hk
    unfold ByteArray.toList.loop
    have hs : bs.data.toList.length = bs.size := rfl
    have hi : i < bs.data.toList.length := by omega
    rw [if_pos (by omega), ih (i + 1) _ (by omega), List.drop_eq_getElem_cons hi, List.reverse_cons, List.append_assoc]
    congr 1
    show [bs.get! i] ++ _ = _
    have : bs.get! i = bs.data.toList[i] := by
      have hi' : i < bs.data.size := hi
      show bs.data[i]! = _
      rw [getElem!_pos bs.data i hi', Array.getElem_toList]
    rw [this]
    rfl
theorem toList_data (bs : ByteArray) : bs.toList = bs.data.toList := by
  unfold ByteArray.toList
  rw [toList_loop bs _ 0 [] rfl]
  simp
theorem strOf_toList_beq (l m : List UInt8) : ((strOf l).toList == (strOf m).toList) = decide (l = m) := by
  rw [toList_data, toList_data, strOf_data, strOf_data]
  by_cases h : l = m
  · subst h; simp
  · rw [decide_eq_false h]; exact beq_eq_false_iff_ne.2 h
theorem conv_str {w : World} {a : Option Addr} {n cap : Nat} {l : List UInt8} (h : IsB w a n cap l) : (convert 32 9 (.slice a n cap)).run Try.prog w = .ok (.string (strOf l)) w := by
  rw [run_convert_bytes_string w _ _ _ a n cap Try.underlying32 Try.underlying5 Try.underlying9]
  rcases h.cases with ⟨rfl, rfl⟩ | ⟨b, off, rfl, hb⟩
  · have : l = [] := List.eq_nil_of_length_eq_zero h.len
    subst this
    cases a with
    | none => rfl
    | some ad => exact run_bytesToString (P := Try.prog) w ad 0 0 [] (run_loadCells_list (P := Try.prog) (w := w) ad [] (fun j v hv => by simp at hv))
  · have := run_bytesToString (P := Try.prog) w ⟨b, off, none⟩ n cap (l.map (fun b => (b.toNat : Int))) (by
      rw [List.map_map]
      have hl := h.len
      have hc := run_loadCells_list (P := Try.prog) (w := w) ⟨b, off, none⟩ (l.map (Value.int .u8 ∘ fun b => (b.toNat : Int))) (fun j v hv => by
        obtain ⟨hj, hv⟩ := List.getElem?_eq_some_iff.1 hv
        rw [List.length_map] at hj
        have := h.cell (i := j) (by omega)
        rw [← hv]
        simp only [List.getElem_map, Function.comp]
        rw [show (⟨b, off, none⟩ : Addr).add j = ⟨b, off + j, none⟩ from by unfold Addr.add; split <;> simp_all, this]
        simp [List.getD, List.getElem?_eq_getElem hj])
      rw [List.length_map, hl] at hc
      exact hc)
    rw [this]
    congr 2
    unfold strOf
    rw [List.foldl_map]
    congr 1
    funext r x
    simp
/-- A new block of bytes. -/
theorem IsB_freshF (w : World) (e : TypeId) (fr : Nat × Nat) (l : List UInt8) (n : Nat) (hn : l.length = n) (hl : n ≤ maxLen) {cs : Array Value} (hc : cs.toList = bvs l) : IsB (w.alloc (.cells cs e fr)) (some ⟨w.heap.size, 0, none⟩) n n l := by
  subst hn
  refine ⟨by rw [bvs_len, Nat.mul_one], Nat.le_refl _, hl, fun h => (nomatch h), fun ad had h0 => ?_⟩
  obtain rfl := Option.some.inj had
  refine ⟨rfl, cs, e, fr, heap_alloc_new w _, ?_, fun i hi => ?_⟩
  · have h1 : cs.size = l.length := by rw [← Array.length_toList, hc, bvs_len]
    show 0 + l.length * 1 ≤ cs.size
    omega
  · show cs[0 + i]? = _
    rw [Nat.zero_add, ← Array.getElem?_toList, hc]
theorem IsB_fresh (w : World) (e : TypeId) (l : List UInt8) (n : Nat) (hn : l.length = n) (hl : n ≤ maxLen) {cs : Array Value} (hc : cs.toList = bvs l) : IsB (w.alloc (.cells cs e)) (some ⟨w.heap.size, 0, none⟩) n n l := IsB_freshF w e _ l n hn hl hc
theorem make_bytes (w : World) (n : Nat) {x : Int} (hx : x = (n : Int)) (hn : n ≤ 2 ^ 40) :
    ∃ cs, (Instr.makeSlice 32 (.int .i64 x) (.int .i64 x)).run Try.prog w = .ok (.slice (some ⟨w.heap.size, 0, none⟩) n n) (w.alloc (.cells cs 5)) ∧ cs.toList = bvs (List.replicate n 0) := by
  subst hx
  have hi := infoU8
  cases hq : Try.prog.info? 5 with
  | none => rw [hq] at hi; cases hi
  | some i =>
    rw [hq] at hi
    simp only [Option.map_some, Option.some.injEq, Prod.mk.injEq] at hi
    obtain ⟨hz, hs, hb⟩ := hi
    have := run_make (P := Try.prog) w 32 5 i (.int .u8 0) Try.underlying32 hq hz .i64 .i64 (n : Int) (n : Int) (by omega) (by omega)
    rw [Int.toNat_natCast, hs, Nat.mul_one] at this
    refine ⟨_, this (by rw [hb]; omega) (by omega), ?_⟩
    apply List.ext_getElem
    · simp [madeCells, bvs]
    · intro k h1 h2
      simp [madeCells, bvs, bv, Value.cells, Nat.mod_one]
set_option maxRecDepth 100000 in
theorem clone_c (a : Option Addr) (n cap : Nat) (l : List UInt8) (hn : n ≤ 2 ^ 40) (w : World) (h : IsB w a n cap l) : Calls Try.prog 48 #[.slice a n cap] w (RetB 5 w l) := by
  go_enter Try.func48, Try.ntmps48
  have heq := fun w => Go.Lib.run_eql_slice_nil (P := Try.prog) w 32 5 a n cap 0 0 Try.underlying32
  cases a with
  | none =>
    obtain rfl := h.2.2.2.1 rfl
    obtain rfl : n = 0 := by have := h.le; omega
    have : l = [] := List.eq_nil_of_length_eq_zero h.len
    subst this
    go_wp2
    go_ret
    exact ⟨_, rfl, World.ownsRow_nil _ _ _ _, Below.refl _ _⟩
  | some ad =>
    have hnew := ownB_new w 5 [] (by decide) (cs := #[]) rfl
    go_wp2_with (at_builtin; refine wpList_append_bs rfl _ _ 32 rfl w.heap.size 5 _ Try.underlying32 infoU8 rfl [] rfl hnew _ n cap l rfl (h.alloc _) (by simp; omega) (by simp) ?_; intro a1 cap1 w1 ho1 hb1 _)
    go_ret
    refine ⟨_, rfl, ?_, ((Below.refl _ _).alloc (Nat.le_refl _) _).trans hb1⟩
    simpa using ho1
set_option maxRecDepth 100000 in
theorem equal_c (a : Option Addr) (n cap : Nat) (l : List UInt8) (a' : Option Addr) (n' cap' : Nat) (l' : List UInt8) (hn : n ≤ 2 ^ 40) (hn' : n' ≤ 2 ^ 40) (w : World) (h : IsB w a n cap l) (h' : IsB w a' n' cap' l') :
    Calls Try.prog 73 #[.slice a n cap, .slice a' n' cap'] w fun e w' => e = .returned (.bool (decide (l = l'))) ∧ Below w.heap.size w w' := by
  have hl := h.len
  have hl' := h'.len
  by_cases hnn : n = n'
  · subst hnn
    have HL := Lib.hid hl; clear hl
    have HL' := Lib.hid hl'; clear hl'
    go_enter Try.func73, Try.ntmps73
    go_wp2
    go_loopw [5, 13] (fun _ i wr => ∃ k : Nat, k ≤ n ∧ i = .int .i64 k ∧ l.take k = l'.take k ∧ Below w.heap.size w wr) (fun _ i _ => n - (intOf i).toNat)
    case atStart => exact ⟨0, by omega, rfl, rfl, Below.refl _ _⟩
    case round =>
      obtain ⟨k, hk, rfl, ht, hb⟩ := hrel
      have HT := Lib.hid ht; clear ht
      by_cases hlt : k < n
      · obtain ⟨b, off, rfl, hbl⟩ := h.some_of_lt (by have := h.le; omega)
        obtain ⟨b', off', rfl, hbl'⟩ := h'.some_of_lt (by have := h'.le; omega)
        have hc := (h.later hb).cell hlt
        have hc' := (h'.later hb).cell hlt
        have hs : l.take (k + 1) = l.take k ++ [l.getD k 0] := by
          have : k < l.length := by have := HL.out; omega
          rw [List.take_succ_eq_append_getElem this]; simp [List.getD, this]
        have hs' : l'.take (k + 1) = l'.take k ++ [l'.getD k 0] := by
          have : k < l'.length := by have := HL'.out; omega
          rw [List.take_succ_eq_append_getElem this]; simp [List.getD, this]
        have HS := Lib.hid hs; clear hs
        have HS' := Lib.hid hs'; clear hs'
        by_cases he : l.getD k 0 = l'.getD k 0
        · rw [← he] at hc'
          have HE := Lib.hid he; clear he
          go_wp2
          go_quiet (fail)
          go_wp2
          go_roundw
          case rel => exact ⟨k + 1, by omega, by go_num, by rw [HS.out, HS'.out, HT.out, HE.out], below_drewN hb _⟩
          case measure => simp [intOf]; omega
        · have hne : (((l.getD k 0).toNat : Int) != ((l'.getD k 0).toNat : Int)) = true := by
            simp only [bne_iff_ne, ne_eq, Int.natCast_inj, UInt8.toNat_inj]; exact he
          have hd : decide (l = l') = false := by
            rw [decide_eq_false_iff_not]
            intro e
            exact he (by rw [e])
          have HD := Lib.hid hd; clear hd he
          generalize (l.getD k 0).toNat = x at *
          generalize (l'.getD k 0).toNat = y at *
          go_wp2
          go_quiet (fail)
          go_wp2
          go_ret
          rw [HD.out]
          exact ⟨rfl, below_drewN hb _⟩
      · obtain rfl : k = n := by omega
        go_wp2
        go_ret
        have e : l = l' := by
          have := HT.out
          rwa [List.take_of_length_le (by have := HL.out; omega), List.take_of_length_le (by have := HL'.out; omega)] at this
        exact ⟨by simp [e], hb⟩
  · have HL := Lib.hid hl; clear hl
    have HL' := Lib.hid hl'; clear hl'
    have hne : ((n : Int) != (n' : Int)) = true := by simp; omega
    clear hnn
    go_enter Try.func73, Try.ntmps73
    go_wp2
    go_ret
    have hd : decide (l = l') = false := by
      rw [decide_eq_false_iff_not]
      intro e
      have h1 := HL.out
      have h2 := HL'.out
      rw [e] at h1
      simp at hne
      omega
    rw [hd]
    exact ⟨rfl, Below.refl _ _⟩
end Go.Proofs.Ytknndpncdnhnpaa
