import Derived.Test.YtfkncnoomablaaaFrC
import Derived.Test.YtfkncnoomablaaaLeave
import Derived.Test.YtfkncnoomablaaaQuiet
import Derived.Test.YtfkncnoomablaaaPlainD
import Derived.Deep.LoopGhost
import Derived.Test.YtfkncnoomablaaaRegT
namespace Go.Proofs.Ytfkncnoomablaaa
open Go.RowKit Go.Cas
attribute [local go_sem] Oper.semAt_some

theorem eql_nilfunc' (f : Nat) (lb : Array Value) (w : World) : (binOp BinOp.eql 50 (.func (.func f) #[] lb) .nilFunc).run Try.prog w = .ok (.bool false) w := by
  kernel_rfl
theorem ownsRow_blocks {w w' : World} {base : Nat} {e : TypeId} {k : Nat} {v : Value} {n : Nat} {vs : List Value} (h : w.ownsRow base e k v n vs) (hb : ∀ g, base ≤ g → g < w.heap.size → w'.heap[g]? = w.heap[g]?) : w'.ownsRow base e k v n vs := by
  refine ⟨h.1, ?_⟩
  rcases h.2 with h | ⟨g, cap, cur, hv, hg, hh, r⟩
  · exact .inl h
  · exact .inr ⟨g, cap, cur, hv, hg, by rw [hb g hg (Array.getElem?_eq_some_iff.1 hh).1]; exact hh, r⟩
theorem ownsRow_set {w : World} {base : Nat} {e : TypeId} {k : Nat} {v : Value} {n : Nat} {vs : List Value} (h : w.ownsRow base e k v n vs) {p : Addr} (hp : p.block < base) (u : Value) : (w.setCell p u).ownsRow base e k v n vs :=
  ownsRow_blocks h fun _ hg _ => Below.heap_setCell _ _ _ _ (by omega)
theorem below_cell {w w' : World} {p : Addr} {v : Value} (hb : Below w.heap.size w w') (h : w.cell? p = some v) : w'.cell? p = some v := (hb.cell (World.block_lt_of_cell? w p h)).trans h
theorem below_frozen {w w' : World} {p : Addr} {v : Value} (hb : Below w.heap.size w w') (h : w.cell? p = some v) : w'.frozen? p = w.frozen? p := hb.frozen (World.block_lt_of_cell? w p h)
/-- where the frames end -/
def endsV (ls : List (List UInt8)) (k : Nat) : List Value := (List.range k).map fun j => .int .i64 ((allB (ls.take (j + 1))).length : Int)
theorem endsV_len (ls : List (List UInt8)) (k : Nat) : (endsV ls k).length = k := by simp [endsV]
theorem endsV_get (ls : List (List UInt8)) {k j : Nat} (h : j < k) : (endsV ls k)[j]? = some (.int .i64 ((allB (ls.take (j + 1))).length : Int)) := by simp [endsV, h]
theorem endsV_succ (ls : List (List UInt8)) (k : Nat) : endsV ls (k + 1) = endsV ls k ++ [.int .i64 ((allB (ls.take (k + 1))).length : Int)] := by simp [endsV, List.range_succ]
theorem endsV_one (ls : List (List UInt8)) (k : Nat) : ∀ u ∈ endsV ls k, u.oneCell' = true := by
  intro u hu
  obtain ⟨j, _, rfl⟩ := List.mem_map.1 hu
  rfl

set_option maxRecDepth 100000 in
set_option maxHeartbeats 4000000 in
theorem sealHolds_c (a : Option Addr) (n cap : Nat) (ls : List (List UInt8)) (cut : Int) (w : World) (h : IsBB w a n cap ls) (_hm : (Lit.int .i64 cut).wf = true) :
    Calls Try.prog 9 #[.slice a n cap, .int .i64 cut] w fun e w' => e = .returned (.bool true) ∧ Below w.heap.size w w' := by
  have hl := h.len
  have hcap := h.le
  have HL := Lib.hid hl; clear hl
  refine calls_of_wp_marks Try.func9 rfl ?_
  simp only [Try.ntmps9, List.size_toArray, List.length_cons, List.length_nil, Nat.reduceAdd, Nat.reduceSub, Array.replicate_succ, Array.replicate_zero, List.push_toArray, List.append_toArray, List.nil_append, List.cons_append]
  go_wp2_with fail
  refine wp_at (fun w0 => Box w0 w.heap.size (.slice a n cap) ∧ Box w0 (w.heap.size + 1) (.bool false) ∧ Below w.heap.size w w0 ∧ IsBB w0 a n cap ls ∧ w.heap.size + 2 = w0.heap.size)
    ⟨(Box.new w _ _).alloc _, Box.mk _ _ _ (by simp), below_then (below_alloc _ _) (below_alloc _ _), (h.alloc _).alloc _, by simp⟩ ?_
  rintro w0 ⟨hL0, hX0, hb0, h0, hz0⟩
  have hcL := hL0.cell
  have HZ := Lib.hid hz0; clear hz0
  go_loop [5, 6] (fun s i => ∃ k : Nat, k ≤ n ∧ k ≤ 11 ∧ i = .int .i64 (k : Int) ∧ s = .int .i64 (cntB (ls.take k) : Int)) (fun _ i => n - (intOf i).toNat)
  case atStart => exact ⟨0, by omega, by omega, rfl, rfl⟩
  case round =>
    obtain ⟨k, hk, hk11, rfl, rfl⟩ := hrel
    have hcle := cntB_le_take ls k
    by_cases hgo : k < n ∧ k ≤ 10 ∧ cntB (ls.take k) ≤ 1000
    · obtain ⟨h1, h2, h3⟩ := hgo
      obtain ⟨b, off, rfl, hbl⟩ := h0.some_of_lt (by omega)
      obtain ⟨a', n', c', hc, hb'⟩ := h0.cell h1
      have hkl : k < ls.length := by have := HL.out; omega
      have hs := cntB_take_succ ls hkl
      have hlen : ls[k].length = n' := by rw [← hb'.len]; simp [List.getD, hkl]
      rw [hlen] at hs
      have HS := Lib.hid hs; clear hs
      have hbg := hb'.big
      have hle' := hb'.le
      unfold maxLen at hbg
      generalize cntB (ls.take k) = N at *
      go_wp2
      all_goals
        go_round
        case rel => exact ⟨k + 1, by omega, by omega, by go_num, by rw [HS.out]; go_num⟩
        case measure => simp [intOf]; omega
    · by_cases h10 : 10 < n
      · by_cases e1 : k < n
        · by_cases e2 : k ≤ 10
          · have e3 : ¬ cntB (ls.take k) ≤ 1000 := fun e3 => hgo ⟨e1, e2, e3⟩
            clear hgo
            generalize cntB (ls.take k) = N at *
            go_wp2_with fail
            refine (works_c _).mono ?_
            rintro e w1 ⟨rfl, hb1⟩
            have hx := hX0.later hb1
            have hc := hx.cell
            have hf := hx.fz
            have hc2 := (hx.set (.bool true)).cell
            go_wp2_with fail
            refine leave0 (v := .bool true) (by simp [results, Try.results9, go_sem, hc2]) ⟨rfl, ?_⟩
            exact (below_then hb0 hb1).setCell (by simp) _
          · clear hgo
            generalize cntB (ls.take k) = N at *
            go_wp2_with fail
            refine (works_c _).mono ?_
            rintro e w1 ⟨rfl, hb1⟩
            have hx := hX0.later hb1
            have hc := hx.cell
            have hf := hx.fz
            have hc2 := (hx.set (.bool true)).cell
            go_wp2_with fail
            refine leave0 (v := .bool true) (by simp [results, Try.results9, go_sem, hc2]) ⟨rfl, ?_⟩
            exact (below_then hb0 hb1).setCell (by simp) _
        · clear hgo
          generalize cntB (ls.take k) = N at *
          go_wp2_with fail
          refine (works_c _).mono ?_
          rintro e w1 ⟨rfl, hb1⟩
          have hx := hX0.later hb1
          have hc := hx.cell
          have hf := hx.fz
          have hc2 := (hx.set (.bool true)).cell
          go_wp2_with fail
          refine leave0 (v := .bool true) (by simp [results, Try.results9, go_sem, hc2]) ⟨rfl, ?_⟩
          exact (below_then hb0 hb1).setCell (by simp) _
      · by_cases e3 : cntB (ls.take k) ≤ 1000
        · have hkn : ¬ k < n := fun e1 => hgo ⟨e1, by omega, e3⟩
          obtain rfl : n = k := by omega
          clear hgo
          have hall : ls.take n = ls := List.take_of_length_le (by have := HL.out; omega)
          rw [hall] at e3 hcle ⊢
          clear hall
          have hsm := cntB_small e3
          generalize cntB ls = N at *
          go_wp2
          clear hcL hcle hkn
          have hn10 : (n : Int) ≤ 10 := by omega
          have hE0 := Box.new w0 (.slice none 0 0) 45
          go_loopw [7, 9] (fun v i wr => ∃ (k : Nat) (ve : Value), k ≤ n ∧ i = .int .i64 (k : Int) ∧ OwnB wr (w0.heap.size + 1) 5 v (allB (ls.take k)) ∧ Box wr w0.heap.size ve ∧ wr.ownsRow (w0.heap.size + 1) 3 1 ve k (endsV ls k) ∧ w0.heap.size + 1 ≤ wr.heap.size ∧ Below w0.heap.size w0 wr) (fun _ i _ => n - (intOf i).toNat)
          case atStart => exact ⟨0, _, by omega, rfl, World.ownsRow_nil _ _ _ _, hE0, World.ownsRow_nil _ _ _ _, by simp, below_alloc _ _⟩
          case round =>
            obtain ⟨k, ve, hk', rfl, hoA, hE, hoE, hzr, hb⟩ := hrel
            have hL1 := hL0.later hb
            have hcL := hL1.cell
            obtain ⟨aA, nA, cA, rfl, hsA⟩ := hoA.slice'
            obtain ⟨aE, cE, rfl, hsE⟩ := ownsRow_slice hoE
            have hlA := hoA.len
            have hsmall := allB_small hsm k
            by_cases hlt : k < n
            · have hkl : k < ls.length := by have := HL.out; omega
              have h1 := h0.later hb
              obtain ⟨b, off, rfl, -⟩ := h1.some_of_lt (by omega)
              obtain ⟨a', n', c', hc, hb'⟩ := h1.cell hlt
              have hn' : n' ≤ 1000 := by
                rw [← hb'.len]
                refine hsm _ ?_
                simp [List.getD, hkl]
              have hfp := frameB_pos (ls.getD k [])
              rw [hb'.len] at hfp
              have hfs := frameB_small (b := ls.getD k []) (by rw [hb'.len]; exact hn')
              have htk : allB (ls.take (k + 1)) = allB (ls.take k) ++ frameB (ls.getD k []) := by rw [allB_take_succ ls hkl]; simp [List.getD, hkl]
              have hes := endsV_succ ls k
              have HT := Lib.hid htk; clear htk
              have HS := Lib.hid hes; clear hes
              have HA := Lib.hid hlA; clear hlA
              have hnA : nA ≤ 1014 * k := by have := HA.out; omega
              go_wp2_with fail
              refine (seal_ok a' n' c' _ (by omega) _ hb').mono ?_
              rintro e w1 ⟨v1, rfl, ho1, hb1⟩
              obtain ⟨a1, n1, c1, rfl, hs1⟩ := ho1.slice'
              have hln1 := hs1.len
              rw [hln1] at hfp hfs
              have HN := Lib.hid hln1; clear hln1
              have hcL1 := (hL1.later hb1).cell
              have hcE := (hE.later hb1).cell
              have hc1 := (h1.later hb1)
              have hc' : w1.cell? ⟨b, off + k, none⟩ = some (.slice a' n' c') := (World.cell?_of_block (hb1.block b (World.block_lt_of_cell? wr ⟨b, off + k, none⟩ hc))).trans hc
              have hoA1 := hoA.later hb1
              have hoE1 := ownsRow_later hoE hb1
              have hn1' : (n1 : Int) < (n' : Int) + 5 → False := by omega
              have hE1 := hE.later hb1
              have tok : True := trivial
              go_wp2_with (first
                | (go_at_call 16; refine (num_c _ _).mono ?_; rintro e w' ⟨rfl, rfl⟩)
                | (at_builtin; have _t := tok; refine wpList_append_bs rfl _ _ 22 rfl (w0.heap.size + 1) 5 _ Try.underlying22 infoU8 rfl (allB (ls.take k)) rfl hoA1 _ n1 c1 (frameB (ls.getD k [])) rfl hs1 (by omega) (by have := hb1.size; omega) ?_; intro a2 c2 w2 ho2 hb2 hg2; clear tok; have hE2 := hE1.block (hb2.block _ (Nat.lt_succ_self _)); have hcE2 := hE2.cell; have hoE2 := ownsRow_grown hoE1 hoA1 (by decide) hg2; have hz2 := hb2.size; have hz1 := hb1.size; have hoE3 := ownsRow_later hoE2 (below_alloc w2 (.cells #[.int .i64 ((nA + n1 : Nat) : Int)] 3)); have hsl := Sl.new w2 #[.int .i64 ((nA + n1 : Nat) : Int)] 3 1 rfl (by decide); have hE3 := hE2.alloc (.cells #[.int .i64 ((nA + n1 : Nat) : Int)] 3))
                | (at_builtin; refine wpList_append_sl rfl _ _ 45 rfl (w0.heap.size + 1) 3 _ 1 8 Try.underlying45 infoI64 rfl (by decide) (.slice aE k cE) k (endsV ls k) rfl hoE3 _ 1 1 _ rfl hsl (by intro u hu; simp at hu; subst hu; rfl) (by omega) (by unfold maxLen; omega) (by simp; omega) ?_; intro a4 c4 w4 ho4 hg4 _; have hB4 := (Below.refl (w0.heap.size + 1) _).grown hg4 (by simp; omega) (fun k hk => (World.ownsRow.lt hoE3 k hk).1); have hE4 := hE3.block (hB4.block _ (Nat.lt_succ_self _)); have hc4 := hE4.cell; have hf4 := hE4.fz)
                | fail)
              have ho2' := ownsRow_grown (ownsRow_later ho2 (below_alloc w2 (.cells #[.int .i64 ((nA + n1 : Nat) : Int)] 3))) hoE3 (by decide) hg4
              have hz4 := hB4.size
              rw [World.size_alloc] at hz4
              go_roundw
              case rel =>
                refine ⟨k + 1, _, by omega, by go_num, ?_, hE4.set _, ?_, by simp; omega, ?_⟩
                · rw [HT.out]
                  exact ownsRow_set ho2' (by simp) _
                · rw [HS.out]
                  have := ownsRow_set ho4 (p := ⟨w0.heap.size, 0, none⟩) (by simp) (.slice a4 (k + 1) c4)
                  rw [HT.out, List.length_append, HA.out, HN.out]
                  exact this
                · exact ((hb.trans (hb1.mono hb.size)).trans ((hb2.mono (by omega)).trans (((below_alloc w2 _).mono (by omega)).trans (hB4.mono (by omega))))).setCell (by simp) _
              case measure => simp [intOf]; omega
            · obtain rfl : n = k := by omega
              have hall : ls.take n = ls := List.take_of_length_le (by have := HL.out; omega)
              rw [hall] at hoA hsA hlA hsmall
              clear hall
              by_cases hneg : cut < 0
              · clear hlA
                go_wp2_with fail
                refine (works_c _).mono ?_
                rintro e w1 ⟨rfl, hb1⟩
                have hx := (hX0.later hb).later hb1
                have hc := hx.cell
                have hf := hx.fz
                have hc2 := (hx.set (.bool true)).cell
                go_wp2_with fail
                refine leave0 (v := .bool true) (by simp [results, Try.results9, go_sem, hc2]) ⟨rfl, ?_⟩
                exact (below_then (below_then hb0 hb) hb1).setCell (by simp) _
              by_cases hgt : (nA : Int) < cut
              · clear hlA
                go_wp2_with fail
                refine (works_c _).mono ?_
                rintro e w1 ⟨rfl, hb1⟩
                have hx := (hX0.later hb).later hb1
                have hc := hx.cell
                have hf := hx.fz
                have hc2 := (hx.set (.bool true)).cell
                go_wp2_with fail
                refine leave0 (v := .bool true) (by simp [results, Try.results9, go_sem, hc2]) ⟨rfl, ?_⟩
                exact (below_then (below_then hb0 hb) hb1).setCell (by simp) _
              obtain ⟨c, rfl⟩ : ∃ c : Nat, cut = (c : Int) := ⟨cut.toNat, by omega⟩
              have hcn : c ≤ nA := by omega
              have hpre := IsB_pre hsA (m := c) (c := cA) hcn (by have := hsA.le; omega) (Nat.le_refl _)
              obtain ⟨m, hm1, hm2, hm3, hm4, hm5, hm6⟩ := frames_cut ls (c := c) (fun b hb => by have := hsm b hb; omega) (by omega)
              have HA := Lib.hid hlA; clear hlA
              have hcA : (c : Int) ≤ (cA : Int) := by have := hsA.le; omega
              have heq := eql_nilfunc'
              go_wp2_with fail
              refine (callFrames_c aA c cA _ (by have := hsmall; have := HA.out; omega) _ hpre).mono ?_
              rintro e w4 ⟨B, a', n', cap', rfl, hB, hbox, hs', hblk, hb4⟩
              go_wp2_with fail
              have hL4 := hL1.later hb4
              have hX4 := (hX0.later hb).later hb4
              have hE4 := hE.later hb4
              have hsE4 := hsE.later hb4
              have h4 := (h0.later hb).later hb4
              have hA4 := hpre.later hb4
              have hB4 := hbox.lt
              have hL4l := hL4.lt
              have hX4l := hX4.lt
              have hE4l := hE4.lt
              have hbw4 := below_then (below_then hb0 hb) hb4
              have hel : ∀ i (hi : i < (framesB (List.take c (allB ls))).length), (framesB (List.take c (allB ls)))[i].2 = ls.getD i [] := by
                intro i hi
                have h1 := congrArg (fun l : List (List UInt8) => l[i]?) hm2
                simp only [List.getElem?_map, List.getElem?_eq_getElem hi, Option.map_some, List.getElem?_take] at h1
                rw [if_pos (by omega)] at h1
                simp [List.getD, ← h1]
              refine wp_at (fun A0 => Box A0 w4.heap.size (.int .i64 0) ∧ Box A0 (w4.heap.size + 1) (.int .i64 0) ∧ Below w4.heap.size w4 A0 ∧ w4.heap.size + 2 = A0.heap.size)
                ⟨(Box.new w4 _ _).alloc _, Box.mk _ _ _ (by simp), below_then (below_alloc _ _) (below_alloc _ _), by simp⟩ ?_
              rintro A0 ⟨hK0, hN0, hB0, hsz0⟩
              have HZ0 := Lib.hid hsz0; clear hsz0
              have hF0 := hbox.later hB0
              have hs0 := hs'.later hB0
              have hsz0 : A0.heap.size = w4.heap.size + 2 := HZ0.out.symm
              refine wp_range (gf := 35) (lb := #[.pointer (some ⟨B, 0, none⟩)]) rfl enter_frames1
                (frames_iter B a' n' cap' _ (by rw [← hs'.len, List.length_take]; have := HA.out; omega) A0 hs0 hF0.cell) (Hold.refl _ _) (Nat.le_refl _) ?hR ?hps ?hE
                (fun i A => Box A w4.heap.size (.int .i64 (i : Int)) ∧ Box A (w4.heap.size + 1) (.int .i64 ((allB (ls.take i)).length : Int)) ∧ Below w4.heap.size w4 A)
                (fun _ _ _ => False) ?hI ?hIx ⟨hK0, hN0, hB0⟩
                (fun vs => { tmps := #[Value.slice a n cap, Value.int IntKind.i64 ↑c, Value.pointer (some { block := w.heap.size, off := 0 }), undef, Value.pointer (some { block := w.heap.size + 1, off := 0 }), Value.int IntKind.i64 ↑N, Value.int IntKind.i64 ↑n, Value.slice aA nA cA, Value.pointer (some { block := w0.heap.size, off := 0 }), Value.int IntKind.i64 ↑n, u10, u11, Value.func (.func 35) #[] #[Value.pointer (some { block := B, off := 0 })], Value.pointer (some { block := w4.heap.size, off := 0 }), Value.pointer (some { block := w4.heap.size + 1, off := 0 }), undef, vs.getD 1 undef, Value.int IntKind.i64 ↑n, Value.slice a n cap, Value.int IntKind.i64 ↑n, Value.bool false, Value.bool false, undef, undef, Value.bool false, Value.bool false, undef, undef, Value.bool false, u29, u30, u31, u32, u33, u34, u35, u36, u37, u38, Value.slice a n cap, Value.int IntKind.i64 ↑n, Value.bool (decide ((10 : Int) < (n : Int))), Value.bool (decide ((10 : Int) < (n : Int))), Value.int IntKind.i64 ↑N, Value.bool (decide ((1000 : Int) < (N : Int))), Value.bool (decide ((10 : Int) < (n : Int)) || decide ((1000 : Int) < (N : Int))), undef, Value.int IntKind.i64 ↑n, Value.slice a n cap, Value.int IntKind.i64 ↑n, Value.bool false, u51, u52, u53, u54, u55, u56, u57, u58, u59, u60, u61, u62, u63, u64, u65, u66, u67, u68, u69, u70, u71, u72, u73, u74, u75, u76, u77, u78, u79, u80, u81, u82, Value.int IntKind.i64 ↑c, Value.bool false, Value.bool false, Value.int IntKind.i64 ↑c, Value.slice aA nA cA, Value.int IntKind.i64 ↑nA, Value.bool false, Value.bool false, undef, Value.slice aA nA cA, Value.int IntKind.i64 ↑c, Value.slice aA c cA, Value.func (.func 35) #[] #[Value.pointer (some { block := B, off := 0 })], Value.func (.func 35) #[] #[Value.pointer (some { block := B, off := 0 })], Value.bool false, Value.func (.func 35) #[] #[Value.pointer (some { block := B, off := 0 })], vs.getD 0 undef, vs.getD 1 undef, undef, undef, undef, undef, undef, undef, undef, undef, undef, undef, undef, undef, undef, undef, undef, undef, undef, undef, undef, undef, undef, undef, undef, undef, undef, undef, undef, undef, undef, undef, undef, undef, undef, undef, undef, undef, undef, undef, undef, undef, undef, undef, undef, undef, undef, undef, undef, undef], defers := [] }) ?hassign ?hbody ?hdone ?hstop
              case hR =>
                rintro k (rfl | ⟨hc0, ad, ha, rfl⟩)
                · have := hF0.lt; omega
                · exact hs0.lt ha hc0
              case hps => rintro x vs A ⟨_, _, _, rfl, _⟩; rfl
              case hE =>
                rintro x vs A A' ⟨a2, n2, c2, rfl, h2, h3⟩ hk
                exact ⟨a2, n2, c2, rfl, hk.isB h2 (fun ad ha hsp => by have := h3 ad ha; unfold Span at hsp; omega), h3⟩
              case hI =>
                rintro i A A' ⟨h1, h2, h3⟩ hk
                have hn : ∀ k, k < A0.heap.size → ¬ Span A0.heap.size (0 + 2) k := fun k hk h => by unfold Span at h; omega
                exact ⟨h1.keep hk (hn _ (by omega)), h2.keep hk (hn _ (by omega)), h3.trans (hk.below h3.size (fun k hk => hn k (by omega)))⟩
              case hIx => exact fun _ _ _ _ h _ => h
              case hassign =>
                rintro L x vs W' K ⟨a2, n2, c2, rfl, _⟩ hK
                gi_wp2
                exact hK
              case hbody =>
                rintro L i hi vs1 A ⟨h1, h2, h3⟩ ⟨a2, n2, c2, rfl, hx, _⟩ hsz
                have hxe := hel i hi
                rw [hxe] at hx
                have him : i < m := by rw [← hm3]; exact hi
                rw [show (#[Value.int .i64 ((framesB (List.take c (allB ls)))[i].1 : Int), Value.slice a2 n2 c2] : Array Value).getD 0 undef = .int .i64 ((framesB (List.take c (allB ls)))[i].1 : Int) from rfl, show (#[Value.int .i64 ((framesB (List.take c (allB ls)))[i].1 : Int), Value.slice a2 n2 c2] : Array Value).getD 1 undef = .slice a2 n2 c2 from rfl]
                have hcK := h1.cell
                have hfK := h1.fz
                have hcN := h2.cell
                have hcL := (hL4.later h3).cell
                have hcE := (hE4.later h3).cell
                have hin : i < n := by have := HL.out; omega
                have hLA := h4.later h3
                obtain ⟨b, off, rfl, -⟩ := hLA.some_of_lt (by omega)
                obtain ⟨a3, n3, c3, hc3, hs3⟩ := hLA.cell hin
                have hEA := hsE4.later h3
                obtain ⟨bE, oE, rfl, -⟩ := hEA.some_of_lt (by have := hEA.le; omega)
                have hcE2 := hEA.cell (i := i) (by omega)
                rw [endsV_get ls hin] at hcE2
                have hv1 : ∀ m, (convert 22 9 (.slice a2 n2 c2)).run Try.prog (A.drewN m) = .ok (.string (strOf (ls.getD i []))) (A.drewN m) := fun m => conv_str (hx.keep fun _ _ _ _ _ => rfl)
                have hv2 : ∀ m, (convert 22 9 (.slice a3 n3 c3)).run Try.prog (A.drewN m) = .ok (.string (strOf (ls.getD i []))) (A.drewN m) := fun m => conv_str (hs3.keep fun _ _ _ _ _ => rfl)
                have hge : decide ((n : Int) ≤ (i : Int)) = false := by simp; omega
                have hle : (i : Int) < (n : Int) := by omega
                have hK' : ∀ nq, Box (A.drewN nq) w4.heap.size (.int .i64 (i : Int)) := fun nq => h1.block rfl
                have hN' : ∀ nq, Box (A.drewN nq) (w4.heap.size + 1) (.int .i64 ((allB (ls.take i)).length : Int)) := fun nq => h2.block rfl
                have hWi : IntKind.i64.wrap ((i : Int) + 1) = (i : Int) + 1 := i64_in (by omega) (by omega)
                generalize ls.getD i [] = x at *
                generalize (framesB (List.take c (allB ls)))[i].1 = y at *
                generalize hz : (allB (ls.take (i + 1))).length = z at *
                clear hxe
                gi_wp2
                refine region_quiet (by simp) (by kernel_rfl) (by kernel_rfl) ?_
                repeat
                  (refine wpQuietIn_step (fun _ _ _ _ => trivial) (fun K hK => ?_)
                   go_simp
                   refine hK _ ?_
                   clear hK K)
                refine wpQuietIn_nil ?_
                rintro _ ⟨nq, rfl⟩
                have hKn := hK' nq
                have hNn := hN' nq
                have hcN' := hNn.cell
                have hfN' := hNn.fz
                have hK2 := hKn.other (p := ⟨w4.heap.size + 1, 0, none⟩) (by simp) (.int .i64 (z : Int))
                have hcK2 := hK2.cell
                have hfK2 := hK2.fz
                gi_wp2
                have hRn : ∀ k, (RSlice B a' cap' k ∨ Span A0.heap.size (0 + 2) k) → k ≠ w4.heap.size ∧ k ≠ w4.heap.size + 1 := by
                  rintro k ((rfl | ⟨hc0, ad, ha, rfl⟩) | e)
                  · omega
                  · have := hs'.lt ha hc0; omega
                  · unfold Span at e; omega
                refine ⟨Hold.trans (B := A.drewN nq) ⟨rfl, rfl, rfl, Nat.le_refl _, fun _ _ => rfl⟩ ((Hold.setCell _ _ (fun e => (hRn _ e).2 rfl) _).trans (Hold.setCell _ _ (fun e => (hRn _ e).1 rfl) _)), ?_, ?_, ?_⟩
                · push_cast
                  exact hK2.set _
                · rw [hz]
                  exact (hNn.set _).other (by simp) _
                · exact ((h3.trans (c := A.drewN nq) ⟨rfl, rfl, rfl, Nat.le_refl _, fun _ _ => rfl⟩).setCell (by simp) _).setCell (by simp) _
              case hdone =>
                rintro A hBs ⟨h1, h2, h3⟩ hDd
                rw [hm3] at h1 h2
                rw [hsz0] at hDd hBs
                have hcK := h1.cell
                have hcN := h2.cell
                have hcL := (hL4.later h3).cell
                have hcX := (hX4.later h3).cell
                have hfX := (hX4.later h3).fz
                have hAA := hA4.later h3
                have hEA := hsE4.later h3
                have hcE := (hE4.later h3).cell
                have hwA := h3.size
                have hbA : Below A.heap.size A A := Below.refl _ _
                have hmn : m ≤ n := by have := HL.out; omega
                have hzc : ((allB (ls.take m)).length : Int) ≤ (c : Int) := by omega
                have hWh := fun (W : World) (hW : IsB W aA c cA (List.take c (allB ls))) => whole_c aA c cA _ (by have := hsmall; have := HA.out; omega) W hW
                rw [hm4] at hWh
                generalize (allB (ls.take m)).length = z at *
                by_cases e1 : m = n
                · subst e1
                  clear hel
                  go_wp2_with fail
                  refine (wpIn_wide (n := 0)).1 ?_
                  refine region_tail 28 (Cls fun w' => w'.cell? ⟨w4.heap.size, 0, none⟩ = some (.int .i64 (m : Int)) ∧ w'.cell? ⟨w4.heap.size + 1, 0, none⟩ = some (.int .i64 (z : Int)) ∧ w'.cell? ⟨w.heap.size, 0, none⟩ = some (.slice a m cap) ∧ w'.cell? ⟨w.heap.size + 1, 0, none⟩ = some (.bool false) ∧ w'.frozen? ⟨w.heap.size + 1, 0, none⟩ = false ∧ IsB w' aA c cA (List.take c (allB ls)) ∧ Below A.heap.size A w') (by kernel_rfl) (by kernel_rfl) (Cls.mk ⟨hcK, hcN, hcL, hcX, hfX, hAA, hbA.drew⟩) ?_
                  simp only [List.take_succ_cons, List.take_zero, List.drop_succ_cons, List.drop_zero]
                  repeat
                    (refine wpQuietIn_step (fun _ _ _ _ => trivial) (fun K hK => ?_)
                     go_simp
                     first
                       | (refine hK _ ?_; clear hK K)
                       | (apply Exists.intro
                          refine ⟨fun w' hw' => ?_, hK _ ?_⟩
                          · obtain ⟨g1, g2, g3, g4, g5, g6, g7⟩ := hw'.out
                            first
                              | (go_simp; done)
                              | (go_simp; rfl)
                              | (go_simp
                                 refine ⟨rfl, (callsIn_wide.2 (hWh w' g6)).mono ?_⟩
                                 rintro e w5 ⟨rfl, hb5⟩
                                 exact ⟨rfl, Cls.mk ⟨below_cell hb5 g1, below_cell hb5 g2, below_cell hb5 g3, below_cell hb5 g4, (below_frozen hb5 g4).trans g5, g6.later hb5, g7.trans (hb5.mono g7.size)⟩⟩)
                              | (go_simp
                                 refine ⟨rfl, (callsIn_wide.2 (works_c w')).mono ?_⟩
                                 rintro e w5 ⟨rfl, hb5⟩
                                 exact ⟨rfl, Cls.mk ⟨below_cell hb5 g1, below_cell hb5 g2, below_cell hb5 g3, below_cell hb5 g4, (below_frozen hb5 g4).trans g5, g6.later hb5, g7.trans (hb5.mono g7.size)⟩⟩)
                          clear hK K))
                  refine wpQuietIn_nil ?_
                  intro w7 hw7
                  obtain ⟨g1, g2, g3, g4, g5, g6, g7⟩ := hw7.out
                  gi_wp2
                  go_wp2
                  have hD7 : (w7.setCell ⟨w.heap.size + 1, 0, none⟩ (.bool true)).heap[w4.heap.size + 2]? = some (.deferred (some [])) := (Below.heap_setCell _ _ _ _ (by simp; omega)).trans ((g7.block _ (by omega)).trans hDd)
                  have hX7 := ((((hX4.later h3).later g7).set (.bool true)).keep (Keep.putObj (S := fun k => k = w4.heap.size + 2) _ _ (.deferred none) rfl) (by omega)).cell
                  refine leave1 (v := .bool true) hD7 (by simp [results, Try.results9, go_sem, hX7]) ⟨rfl, ?_⟩
                  exact below_putObj (((below_then (below_then hbw4 h3) g7)).setCell (by simp) _) (by omega) _
                · have hlt2 : m < n := by omega
                  have h62 : c < (allB (ls.take (m + 1))).length := by
                    rcases hm6 with h | h
                    · have := HL.out; omega
                    · exact h
                  obtain ⟨bE, oE, rfl, -⟩ := hEA.some_of_lt (by have := hEA.le; omega)
                  have hcE2 := hEA.cell (i := m) (by omega)
                  rw [endsV_get ls hlt2] at hcE2
                  clear hm6
                  generalize (allB (ls.take (m + 1))).length = z2 at *
                  have hmn2 : (m : Int) < (n : Int) := by omega
                  have hne : ((m : Int) == (n : Int)) = false := by simp; omega
                  have hne2 : decide ((m : Int) = (n : Int)) = false := by simp; omega
                  have hcz : (c : Int) < (z2 : Int) := by omega
                  clear hel
                  go_wp2_with fail
                  refine (wpIn_wide (n := 0)).1 ?_
                  refine region_tail 28 (Cls fun w' => w'.cell? ⟨w4.heap.size, 0, none⟩ = some (.int .i64 (m : Int)) ∧ w'.cell? ⟨w4.heap.size + 1, 0, none⟩ = some (.int .i64 (z : Int)) ∧ w'.cell? ⟨w.heap.size, 0, none⟩ = some (.slice a n cap) ∧ w'.cell? ⟨w.heap.size + 1, 0, none⟩ = some (.bool false) ∧ w'.frozen? ⟨w.heap.size + 1, 0, none⟩ = false ∧ IsB w' aA c cA (List.take c (allB ls)) ∧ Below A.heap.size A w' ∧ w'.cell? ⟨w0.heap.size, 0, none⟩ = some (.slice (some ⟨bE, oE, none⟩) n cE) ∧ w'.cell? ⟨bE, oE + m, none⟩ = some (.int .i64 (z2 : Int))) (by kernel_rfl) (by kernel_rfl) (Cls.mk ⟨hcK, hcN, hcL, hcX, hfX, hAA, hbA.drew, hcE, hcE2⟩) ?_
                  simp only [List.take_succ_cons, List.take_zero, List.drop_succ_cons, List.drop_zero]
                  repeat
                    (refine wpQuietIn_step (fun _ _ _ _ => trivial) (fun K hK => ?_)
                     go_simp
                     first
                       | (refine hK _ ?_; clear hK K)
                       | (apply Exists.intro
                          refine ⟨fun w' hw' => ?_, hK _ ?_⟩
                          · obtain ⟨g1, g2, g3, g4, g5, g6, g7, g8, g9⟩ := hw'.out
                            first
                              | (go_simp; done)
                              | (go_simp; rfl)
                              | (go_simp
                                 refine ⟨rfl, (callsIn_wide.2 (hWh w' g6)).mono ?_⟩
                                 rintro e w5 ⟨rfl, hb5⟩
                                 exact ⟨rfl, Cls.mk ⟨below_cell hb5 g1, below_cell hb5 g2, below_cell hb5 g3, below_cell hb5 g4, (below_frozen hb5 g4).trans g5, g6.later hb5, g7.trans (hb5.mono g7.size), below_cell hb5 g8, below_cell hb5 g9⟩⟩)
                              | (go_simp
                                 refine ⟨rfl, (callsIn_wide.2 (works_c w')).mono ?_⟩
                                 rintro e w5 ⟨rfl, hb5⟩
                                 exact ⟨rfl, Cls.mk ⟨below_cell hb5 g1, below_cell hb5 g2, below_cell hb5 g3, below_cell hb5 g4, (below_frozen hb5 g4).trans g5, g6.later hb5, g7.trans (hb5.mono g7.size), below_cell hb5 g8, below_cell hb5 g9⟩⟩)
                          clear hK K))
                  refine wpQuietIn_nil ?_
                  intro w7 hw7
                  obtain ⟨g1, g2, g3, g4, g5, g6, g7, g8, g9⟩ := hw7.out
                  gi_wp2
                  go_wp2
                  have hD7 : (w7.setCell ⟨w.heap.size + 1, 0, none⟩ (.bool true)).heap[w4.heap.size + 2]? = some (.deferred (some [])) := (Below.heap_setCell _ _ _ _ (by simp; omega)).trans ((g7.block _ (by omega)).trans hDd)
                  have hX7 := ((((hX4.later h3).later g7).set (.bool true)).keep (Keep.putObj (S := fun k => k = w4.heap.size + 2) _ _ (.deferred none) rfl) (by omega)).cell
                  refine leave1 (v := .bool true) hD7 (by simp [results, Try.results9, go_sem, hX7]) ⟨rfl, ?_⟩
                  exact below_putObj (((below_then (below_then hbw4 h3) g7)).setCell (by simp) _) (by omega) _
              case hstop => exact fun _ _ _ _ _ h => h.elim
        · by_cases e1 : k < n
          · clear hgo
            generalize cntB (ls.take k) = N at *
            go_wp2_with fail
            refine (works_c _).mono ?_
            rintro e w1 ⟨rfl, hb1⟩
            have hx := hX0.later hb1
            have hc := hx.cell
            have hf := hx.fz
            have hc2 := (hx.set (.bool true)).cell
            go_wp2_with fail
            refine leave0 (v := .bool true) (by simp [results, Try.results9, go_sem, hc2]) ⟨rfl, ?_⟩
            exact (below_then hb0 hb1).setCell (by simp) _
          · clear hgo
            generalize cntB (ls.take k) = N at *
            go_wp2_with fail
            refine (works_c _).mono ?_
            rintro e w1 ⟨rfl, hb1⟩
            have hx := hX0.later hb1
            have hc := hx.cell
            have hf := hx.fz
            have hc2 := (hx.set (.bool true)).cell
            go_wp2_with fail
            refine leave0 (v := .bool true) (by simp [results, Try.results9, go_sem, hc2]) ⟨rfl, ?_⟩
            exact (below_then hb0 hb1).setCell (by simp) _
end Go.Proofs.Ytfkncnoomablaaa
