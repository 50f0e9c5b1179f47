import Derived.Test.YtpobnbiakneoiaaStatG
namespace Go.Proofs.Ytpobnbiakneoiaa
open Go.RowKit Go.Cas
set_option linter.unusedSimpArgs false
set_option linter.unusedVariables false
attribute [local go_sem] Oper.semAt_some

theorem vals_c (a : Option Addr) (n cap : Nat) (w : World) : Calls Try.prog 71 #[.slice a n cap] w fun e w' =>
    e = .returned (.func (.func 83) #[] #[.pointer (some ⟨w.heap.size, 0, none⟩)]) ∧ w.alloc (.cells #[.slice a n cap] 24) = w' := by
  go_enter Try.func71, Try.ntmps71
  go_wp2
  go_ret
  exact ⟨rfl, rfl⟩
theorem enter_vals1 : ∀ args w, (callFunc 83 args).run Try.prog w = .ok (.enter 83 args) w :=
  enters_of Try.func83 (by kernel_rfl) rfl
def EL (_ : Nat) (s : SL) (vs : Array Value) (_ : World) : Prop := vs = #[.slice s.sa s.sn s.sc]
def RL (Bs : Nat) (a : Option Addr) (cap : Nat) (k : Nat) : Prop := k = Bs ∨ (0 < cap ∧ ∃ ad, a = some ad ∧ ad.block = k)
theorem Hold.slL {R : Nat → Prop} {A B : World} {k n cap : Nat} {a : Option Addr} {vs : List Value} (h : Hold R A B) (hs : Sl A k a n cap vs) (hr : ∀ ad, a = some ad → 0 < cap → R ad.block) : Sl B k a n cap vs :=
  hs.keep' fun b _ ad ha h0 e => h.block b (by rw [← e]; exact hr ad ha h0)
set_option maxRecDepth 100000 in
set_option maxHeartbeats 2000000 in
theorem vals_iter (Bs : Nat) (a : Option Addr) (n cap : Nat) (ls : List SL) (hn : n ≤ 2 ^ 40) (w : World) (h : Sl w 1 a n cap (slV ls)) (hl : ls.length = n) (hb : w.cell? ⟨Bs, 0, none⟩ = some (.slice a n cap)) :
    Iter Try.prog 83 #[.pointer (some ⟨Bs, 0, none⟩)] EL ls 0 (RL Bs a cap) w := by
  intro L J Jx W hW hsz hJ hJx hY h0
  have hbW : W.cell? ⟨Bs, 0, none⟩ = some (.slice a n cap) := (hW.cell (Or.inl rfl)).trans hb
  have hsW := Hold.slL hW h (fun ad ha h0 => Or.inr ⟨h0, ad, ha, rfl⟩)
  have hRlt : ∀ k, RL Bs a cap k → k < W.heap.size := by
    rintro k (rfl | ⟨h0, ad, ha, rfl⟩)
    · exact World.block_lt_of_cell? W ⟨_, 0, none⟩ hbW
    · exact hsW.lt ha h0
  have HL := Lib.hid hl
  clear hl
  refine callsIn_of_wp Try.func83 rfl trivial ?_ rfl
  simp only [Try.ntmps83, List.size_toArray, List.length_cons, List.length_nil, Nat.reduceAdd, Nat.reduceSub, Array.replicate_succ, Array.replicate_zero, List.push_toArray, List.append_toArray, List.nil_append, List.cons_append]
  have HY := Lib.hid hY; clear hY
  gi_wp2_with fail
  gi_loopw [7] (fun i wr => ∃ k : Nat, k ≤ n ∧ i = .int .i64 (k : Int) ∧ J k wr ∧ Hold (RL Bs a cap) W wr) (fun i _ => n - (intOf i).toNat)
  case atStart => exact ⟨0, by omega, rfl, h0, Hold.refl _ _⟩
  case round =>
    obtain ⟨k, hk, rfl, hj, hh⟩ := hrel
    by_cases hlt : k < n
    · have hkl : k < ls.length := by have := HL.out; omega
      have hsr := Hold.slL hh hsW (fun ad ha h0 => Or.inr ⟨h0, ad, ha, rfl⟩)
      obtain ⟨b, off, rfl, hbl⟩ := hsr.some_of_lt (by have := hsr.le; omega)
      have hc : _ = some (Value.slice ls[k].sa ls[k].sn ls[k].sc) := (hsr.cell (i := k) (by omega)).trans (by simp [slV, hkl])
      obtain ⟨fn, tmps, assign, body, hy, hR⟩ := HY.out k hkl #[.slice ls[k].sa ls[k].sn ls[k].sc] _ hj rfl (by have := hh.size; omega)
      generalize ls[k] = s at *
      gi_wp2
      refine ⟨rfl, hR.mono ?_⟩
      rintro e W3 (⟨rfl, hj4, hh4⟩ | ⟨rfl, hj4, hh4⟩)
      · gi_wp2
        exact ⟨⟨k + 1, by omega, by go_num, hj4, hh.trans (hh4.mono fun k hk => Or.inl hk)⟩, by simp [intOf]; omega⟩
      · gi_wp2
        exact bodyPost_ret (results_none rfl _ _ _) rfl ⟨⟨_, rfl⟩, .inr ⟨k + 1, hkl, hj4⟩⟩
    · obtain rfl : k = n := by omega
      gi_wp2
      go_end0
      exact ⟨⟨_, rfl⟩, .inl (by rw [HL.out]; exact hj)⟩
/-- all joined, one behind the other -/
def joinAll (out : List St) (ls : List SL) : List St := ls.foldl (fun o s => joinL o s.st) out
theorem joinAll_len (ls : List SL) : ∀ out : List St, (joinAll out ls).length = out.length := by
  induction ls with
  | nil => intro out; rfl
  | cons s ls ih => intro out; show (joinAll (joinL out s.st) ls).length = _; rw [ih, joinL_len]
theorem joinAll_succ (out : List St) (ls : List SL) {k : Nat} (hk : k < ls.length) : joinAll out (ls.take (k + 1)) = joinL (joinAll out (ls.take k)) ls[k].st := by
  unfold joinAll
  rw [List.take_succ_eq_append_getElem hk, List.foldl_append]
  rfl
set_option maxRecDepth 100000 in
set_option maxHeartbeats 4000000 in
theorem folded_c (base : Nat) (v : Value) (out : List St) (a : Option Addr) (n cap : Nat) (ls : List SL) (hn : n ≤ 2 ^ 40) (w : World) (hown : OwnSt w base v out) (h : IsL w a n cap ls) (hlen : ∀ s ∈ ls, s.st.length = out.length)
    (hab : ∀ ad, a = some ad → 0 < cap → ad.block < base) (hxb : ∀ s ∈ ls, ∀ ad, s.sa = some ad → 0 < s.sc → ad.block < base) (hbase : base ≤ w.heap.size) (hbig : out.length ≤ 2 ^ 40) (hv : ∃ a n c, v = .slice a n c) :
    Calls Try.prog 38 #[v, .slice a n cap, .func (.func 39) #[] #[]] w fun e w' => e = .returned v ∧ OwnSt w' base v (joinAll out ls) ∧ Below base w w' := by
  have HV := hv
  obtain ⟨va, vn, vc, rfl⟩ := hv
  have HIL := Lib.hid h
  have HOWN := Lib.hid hown
  have HLN := Lib.hid hlen
  clear h hown hlen
  refine calls_of_wp_marks Try.func38 rfl ?_
  simp only [Try.ntmps38, List.size_toArray, List.length_cons, List.length_nil, Nat.reduceAdd, Nat.reduceSub, Array.replicate_succ, Array.replicate_zero, List.push_toArray, List.append_toArray, List.nil_append, List.cons_append]
  go_wp2_with fail
  refine (vals_c a n cap _).mono ?_
  rintro e w1 ⟨rfl, hw1⟩
  simp only [World.size_alloc] at hw1 ⊢
  have hbA := below_alloc w (.cells #[.slice va vn vc] 25)
  have hbB := below_alloc (w.alloc (.cells #[.slice va vn vc] 25)) (.cells #[.func (.func 39) #[] #[]] 87)
  have hbC : Below ((w.alloc (.cells #[.slice va vn vc] 25)).alloc (.cells #[.func (.func 39) #[] #[]] 87)).heap.size ((w.alloc (.cells #[.slice va vn vc] 25)).alloc (.cells #[.func (.func 39) #[] #[]] 87)) w1 := by rw [← hw1]; exact below_alloc _ _
  have hA : Box w1 w.heap.size (.slice va vn vc) := ((Box.new w _ _).later hbB).later hbC
  have hB : Box w1 (w.heap.size + 1) (.func (.func 39) #[] #[]) := (Box.mk (w.alloc (.cells #[.slice va vn vc] 25)) _ _ (World.size_alloc _ _).symm).later hbC
  have hC : Box w1 (w.heap.size + 1 + 1) (.slice a n cap) := by rw [← hw1]; exact Box.mk _ _ _ (by simp)
  have hb1 := below_then (below_then hbA hbB) hbC
  clear hbA hbB hbC hw1
  have hz := hC.lt
  have hown1 := HOWN.out.later hb1
  have hgb : ∀ g, Value.ownBlock (.slice va vn vc) = some g → base ≤ g ∧ g < w.heap.size := World.ownsRow.lt HOWN.out
  have hsl1 := HIL.out.1.later hb1
  go_wp2_with fail
  refine wp_range (gf := 83) (lb := #[.pointer (some ⟨w.heap.size + 1 + 1, 0, none⟩)]) rfl enter_vals1
    (vals_iter (w.heap.size + 1 + 1) a n cap ls hn w1 hsl1 HIL.out.2.1 hC.cell) (Hold.refl _ _) (Nat.le_refl _) ?hR ?hps ?hE
    (fun i A => Box A w.heap.size (.slice va vn vc) ∧ Box A (w.heap.size + 1) (.func (.func 39) #[] #[]) ∧ OwnSt A base (.slice va vn vc) (joinAll out (ls.take i)) ∧ Below base w A ∧ w1.heap.size ≤ A.heap.size)
    (fun _ _ _ => False) ?hI ?hIx ⟨hA, hB, hown1, hb1.mono hbase, Nat.le_refl _⟩
    (fun vs => { tmps := #[.slice va vn vc, .slice a n cap, .func (.func 39) #[] #[], .pointer (some ⟨w.heap.size, 0, none⟩), undef, .pointer (some ⟨w.heap.size + 1, 0, none⟩), .slice none 0 0, vs.getD 0 undef, .slice a n cap, .func (.func 83) #[] #[.pointer (some ⟨w.heap.size + 1 + 1, 0, none⟩)], vs.getD 0 undef, undef, undef, undef, undef, undef], defers := [] }) ?hassign ?hbody ?hdone ?hstop
  case hR =>
    rintro k (rfl | ⟨h0, ad, ha, rfl⟩)
    · exact hz
    · exact hsl1.lt ha h0
  case hps => rintro x vs A rfl; rfl
  case hE => intro x vs A A' h _; exact h
  case hI =>
    rintro i A A' ⟨h1, h2, h3, h4, h5⟩ hk
    have hn : ∀ k, k < w1.heap.size → ¬ Span w1.heap.size (0 + 2) k := fun k hk h => by unfold Span at h; omega
    refine ⟨h1.keep hk (hn _ (by omega)), h2.keep hk (hn _ (by omega)), ownsRow_at h3 (fun g hg => hk.block g (by have := hgb g hg; omega) (hn _ (by have := hgb g hg; omega))), h4.trans (hk.below (by omega) (fun k hk => hn k (by omega))), by have := hk.size; omega⟩
  case hIx => exact fun _ _ _ _ h _ => h
  case hassign =>
    rintro L x vs W K rfl hK
    gi_wp2
    exact hK
  case hbody =>
    rintro L i hi vs A ⟨h1, h2, h3, h4, h5⟩ rfl hsz
    have hmem := List.getElem_mem hi
    have hst := (HIL.out.2.2 _ hmem).1.below h4 (hxb _ hmem)
    have hjl := HLN.out _ hmem
    have hsucc := joinAll_succ out ls hi
    generalize ls[i] = s at *
    have hj := join2_c base (.slice va vn vc) (joinAll out (ls.take i)) s.sa s.sn s.sc s.st A h3 hst (by rw [joinAll_len]; exact hjl) (hxb _ hmem) (by omega) (by rw [joinAll_len]; exact hbig) HV
    have HS := Lib.hid hsucc
    clear hsucc hjl hst
    have hc1 := h1.cell
    have hc2 := h2.cell
    rw [show (#[Value.slice s.sa s.sn s.sc] : Array Value).getD 0 undef = .slice s.sa s.sn s.sc from rfl]
    gi_wp2_with fail
    refine ⟨trivial, rfl, (CallsIn.inRound L (callsIn_wide.2 hj)).mono ?_⟩
    rintro e w4 ⟨rfl, h3', hg4⟩
    have hne : ∀ k, k < w1.heap.size → (∀ g, Value.ownBlock (.slice va vn vc) = some g → k ≠ g) → w4.heap[k]? = A.heap[k]? := fun k hk hn => hg4.block k (by omega) (fun e => hn k e.symm rfl)
    have h14 := h1.block (hne _ (by omega) (fun g hg e => by have := hgb g hg; omega))
    have h24 := h2.block (hne _ (by omega) (fun g hg e => by have := hgb g hg; omega))
    have hc4 := h14.cell
    have hf4 := h14.fz
    have hb4 : Below base w w4 := h4.grown hg4 (by omega) (fun k hk => (hgb k hk).1)
    have hz4 := hg4.size
    gi_wp2
    refine ⟨?_, h14.set _, h24.other (by simp) _, ?_, hb4.setCell hbase _, by simp; omega⟩
    · refine (Hold.trans ⟨hg4.os, hg4.tape, hg4.output, hg4.size, fun k hk => ?_⟩ (Hold.setCell _ _ (fun hk => ?_) _))
      · refine hg4.block k ?_ (fun e => ?_)
        · rcases hk with (rfl | ⟨h0, ad, ha, rfl⟩) | hk
          · omega
          · have := hab ad ha h0; omega
          · unfold Span at hk; omega
        · have hgk := hgb k e.symm
          rcases hk with (rfl | ⟨h0, ad, ha, rfl⟩) | hk
          · omega
          · have := hab ad ha h0; omega
          · unfold Span at hk; omega
      · rcases hk with (hk | ⟨h0, ad, ha, hk⟩) | hk
        · simp at hk; omega
        · have := hab ad ha h0; simp at hk; omega
        · unfold Span at hk; simp at hk; omega
    · rw [HS.out]
      exact ownsRow_at h3' (fun g hg => Below.heap_setCell _ _ _ _ (by have := hgb g hg; simp; omega))
  case hdone =>
    rintro A hBs ⟨h1, h2, h3, h4, h5⟩ hD
    rw [List.take_length] at h3
    have hc1 := h1.cell
    go_wp2_with fail
    refine leave1 hD (results_tmp rfl _ _ _) ⟨rfl, ownsRow_at h3 (fun g hg => ?_), below_putObj h4 (by omega) _⟩
    have := hgb g hg
    exact World.putObj_heap_other (by omega)
  case hstop => exact fun _ _ _ _ _ h => h.elim
/-- what Join tells -/
def joinOk (x y z : Int) (ls : List SL) : Bool := okShape x y z && ls.all (fun s => okList x y z s.st)
def joinRes (x y z : Int) (ls : List SL) : List St := joinAll (List.replicate (sites x y z) st0) ls
/-- a list, and an error -/
def Told (w : World) (x y z : Int) (ls : List SL) (e : Ending) (w' : World) : Prop :=
  (joinOk x y z ls = true ∧ ∃ v, e = .returned (.tuple #[v, .int .i64 0]) ∧ OwnSt w' w.heap.size v (joinRes x y z ls) ∧ Below w.heap.size w w') ∨ (joinOk x y z ls = false ∧ e = .returned (.tuple #[.slice none 0 0, .int .i64 2]) ∧ Below w.heap.size w w')
theorem okList_len {x y z : Int} {l : List St} (h : okList x y z l = true) : l.length = sites x y z := by
  unfold okList at h
  simp only [Bool.and_eq_true, decide_eq_true_eq] at h
  exact h.1.2
set_option maxRecDepth 100000 in
set_option maxHeartbeats 300000 in
theorem join_c (x y z : Int) (a : Option Addr) (n cap : Nat) (ls : List SL) (hn : n ≤ 2 ^ 40) (w : World) (h : IsL w a n cap ls) :
    Calls Try.prog 7 #[.agg #[.int .i64 x, .int .i64 y, .int .i64 z], .slice a n cap] w (Told w x y z ls) := by
  have HIL := Lib.hid h
  clear h
  have hns := newSt_c x y z
  have hb0 := below_alloc w (.cells #[.int .i64 x, .int .i64 y, .int .i64 z] 23)
  have hc0 := Cell3.new w x y z 23
  have hle := sites_le x y z
  go_enter Try.func7, Try.ntmps7
  go_wp2_with fail
  refine (hns _).mono ?_
  rintro e w1 (⟨hok, v, rfl, hown, hb1⟩ | ⟨hok, rfl, hb1⟩)
  · have hbb := below_then hb0 hb1
    have hc1 := hc0.later hb1
    obtain ⟨va, vc, rfl, hsv⟩ := hown.isSt
    clear hsv
    rw [List.length_replicate] at hown ⊢
    have hbad := badL_c w.heap.size x y z a n cap ls hn w1 hc1 (HIL.out.later hbb)
    have hj : joinOk x y z ls = ls.all (fun s => okList x y z s.st) := by unfold joinOk; rw [hok, Bool.true_and]
    cases hall : ls.all (fun s => okList x y z s.st) with
    | false =>
      rw [hall] at hbad hj
      have HB := Lib.hid hbad
      have HJ := Lib.hid hj
      clear hbad hj hall hok
      go_wp2_with fail
      refine HB.out.mono ?_
      rintro e w2 ⟨rfl, hb2⟩
      go_wp2_with fail
      go_ret2
      exact .inr ⟨HJ.out, rfl, below_then hbb hb2⟩
    | true =>
      rw [hall] at hbad hj
      have HB := Lib.hid hbad
      have HJ := Lib.hid hj
      have HALL := Lib.hid hall
      clear hbad hj hall hok
      go_wp2_with fail
      refine HB.out.mono ?_
      rintro e w2 ⟨rfl, hb2⟩
      have hown2 := hown.later hb2
      have hb02 := below_then hbb hb2
      have hf := folded_c (w.alloc (.cells #[.int .i64 x, .int .i64 y, .int .i64 z] 23)).heap.size _ (List.replicate (sites x y z) st0) a n cap ls hn w2 hown2 (HIL.out.later hb02)
        (fun s hs => by rw [okList_len (List.all_eq_true.1 HALL.out s hs), List.length_replicate])
        (fun ad ha h0 => Nat.lt_of_lt_of_le (HIL.out.1.lt ha h0) hb0.size) (fun s hs ad ha h0 => Nat.lt_of_lt_of_le ((HIL.out.2.2 s hs).1.1.lt ha h0) hb0.size) (below_then hb1 hb2).size (by rw [List.length_replicate]; omega) ⟨_, _, _, rfl⟩
      have HF := Lib.hid hf
      clear hf
      go_wp2_with fail
      refine HF.out.mono ?_
      rintro e w3 ⟨rfl, hown3, hb3⟩
      go_wp2_with fail
      go_ret2
      exact .inl ⟨HJ.out, _, rfl, OwnSt.mono hown3 hb0.size, hb0.trans ((below_then hb1 hb2).trans hb3 |>.mono hb0.size)⟩
  · have hj : joinOk x y z ls = false := by unfold joinOk; rw [hok, Bool.false_and]
    have HJ := Lib.hid hj
    clear hj hok
    go_wp2_with fail
    go_ret2
    exact .inr ⟨HJ.out, rfl, below_then hb0 hb1⟩
end Go.Proofs.Ytpobnbiakneoiaa
