import Derived.Test.YtknndpncdnhnpaaJouC
namespace Go.Proofs.Ytknndpncdnhnpaa
open Go.RowKit Go.Cas
set_option linter.unusedSimpArgs false
set_option linter.unusedVariables false
attribute [local go_sem] Oper.semAt_some

set_option maxRecDepth 100000 in
set_option maxHeartbeats 1000000 in
theorem records_c (jb b : Nat) (file : Int) (s : DS) (w : World) (hd : IsD w b s) (hf : s.fine) (hok : fileOk file = true) (hc : JC w jb b file) : Calls Try.prog 21 #[.pointer (some ⟨jb, 0, none⟩)] w fun e w' =>
    ∃ B a n c, e = .returned (.func (.func 51) #[] #[.pointer (some ⟨B, 0, none⟩)]) ∧ Box w' B (.slice a n c) ∧ IsB w' a n c (s.fl file) ∧ w.heap.size ≤ B ∧ (∀ ad, a = some ad → w.heap.size ≤ ad.block) ∧ Below w.heap.size w w' := by
  have hb0 := below_alloc w (.cells #[.slice none 0 0] 32)
  have hX := Box.new w (.slice none 0 0) 32
  have hc0 := row_later hc hb0
  have hno := jnone_c jb b file _ hc0
  have hr := pread_c b s file _ (hd.later hb0) hf hok
  have c0 := row_cell hc0 0 rfl
  have c1 := row_cell hc0 1 rfl
  obtain ⟨w1, hw1⟩ : ∃ w1, w.alloc (.cells #[.slice none 0 0] 32) = w1 := ⟨_, rfl⟩
  rw [hw1] at hb0 hX hc0 hno hr c0 c1
  have HW := Lib.hid hw1
  clear hw1 hd
  have hz := hX.lt
  go_enter Try.func21, Try.ntmps21
  go_wp2_with fail
  rw [HW.out]
  refine hno.mono ?_
  rintro e wn ⟨rfl, hwn⟩
  rw [← hwn]
  clear hno hwn
  go_wp2_with fail
  refine hr.mono ?_
  rintro e w2 ⟨v, rfl, ho, hb2⟩
  obtain ⟨a2, n2, c2, rfl, hs2⟩ := ho.slice'
  have hX2 := hX.later hb2
  have x0 := hX2.cell
  have x1 := hX2.fz
  have hob := own_block ho
  clear c0 c1 hr
  go_wp2_with fail
  go_ret
  exact ⟨w.heap.size, a2, n2, c2, rfl, hX2.set _, hs2.grown (grown_set _ _ _ _) (fun ad ha e => by have := hob ad ha; have := Option.some.inj e; omega), Nat.le_refl _, fun ad ha => Nat.le_trans hb0.size (hob ad ha), (below_then hb0 hb2).setCell (Nat.le_refl _) _⟩
theorem records_no (v : Value) (w : World) (h : NoJ w v) : Calls Try.prog 21 #[v] w fun e w' =>
    ∃ B, e = .returned (.func (.func 51) #[] #[.pointer (some ⟨B, 0, none⟩)]) ∧ Box w' B (.slice none 0 0) ∧ w.heap.size ≤ B ∧ Below w.heap.size w w' := by
  obtain ⟨p, rfl⟩ : ∃ p, v = .pointer p := by
    rcases h with rfl | ⟨jb, rfl, _⟩
    · exact ⟨_, rfl⟩
    · exact ⟨_, rfl⟩
  have hb0 := below_alloc w (.cells #[.slice none 0 0] 32)
  have hX := Box.new w (.slice none 0 0) 32
  have hno := jnone_no _ _ (h.later hb0)
  clear h
  go_enter Try.func21, Try.ntmps21
  go_wp2_with fail
  refine hno.mono ?_
  rintro e wn ⟨rfl, hwn⟩
  rw [← hwn]
  clear hno hwn
  go_wp2_with fail
  go_ret
  exact ⟨w.heap.size, rfl, hX, Nat.le_refl _, hb0⟩
theorem framesF_many : ∀ (k at_ : Nat) (l : List UInt8), (framesF k at_ l).1.length ≤ l.length
  | 0, at_, l => by rw [framesF]; exact Nat.zero_le _
  | k + 1, at_, l => by
    rw [framesF]
    split
    · rename_i h0
      have hb := (openB_bound l).1 h0
      have := framesF_many k (at_ + (openB l).2.1) (l.drop (openB l).2.1)
      rw [List.length_drop] at this
      dsimp only
      rw [List.length_cons]
      omega
    · exact Nat.zero_le _
theorem framesB_many (l : List UInt8) : (framesB l).length ≤ l.length := framesF_many _ _ _
/-- the records of a file's bytes, by their numbers -/
def recs (l : List UInt8) : List (Nat × List UInt8) := (framesB l).mapIdx fun i p => (i, p.2)
theorem recs_len (l : List UInt8) : (recs l).length = (framesB l).length := by simp [recs]
theorem recs_get (l : List UInt8) (i : Nat) (h : i < (recs l).length) : (recs l)[i] = (i, ((framesB l)[i]'(by rw [← recs_len]; exact h)).2) := by simp [recs]
def ERec (B0 : Nat) (x : Nat × List UInt8) (vs : Array Value) (A : World) : Prop :=
  ∃ a n cap, vs = #[.int .i64 (x.1 : Int), .slice a n cap] ∧ IsB A a n cap x.2 ∧ ∀ ad, a = some ad → B0 ≤ ad.block
theorem enter_rec1 : ∀ args w, (callFunc 51 args).run Try.prog w = .ok (.enter 51 args) w := enters_of Try.func51 (by kernel_rfl) rfl
theorem keep_set {S : Nat → Prop} (w : World) {p : Addr} (hp : S p.block) (u : Value) : Keep S w (w.setCell p u) :=
  ⟨rfl, rfl, rfl, by simp, fun k _ hn => Below.heap_setCell _ _ _ _ (fun e => hn (by rw [e]; exact hp))⟩
set_option maxRecDepth 100000 in
set_option maxHeartbeats 4000000 in
theorem recs_iter (Bs : Nat) (a : Option Addr) (n cap : Nat) (l : List UInt8) (hn : n ≤ 2 ^ 40) (w : World) (h : IsB w a n cap l) (hb : w.cell? ⟨Bs, 0, none⟩ = some (.slice a n cap)) :
    IterW Try.prog 51 #[.pointer (some ⟨Bs, 0, none⟩)] ERec (recs l) (RSlice Bs a cap) w := by
  intro L J Jx W hW hsz hJ hJx hY h0
  have hbW : W.cell? ⟨Bs, 0, none⟩ = some (.slice a n cap) := (hW.cell (Or.inl rfl)).trans hb
  have hsW := hW.isB' h (fun ad ha h0 => Or.inr ⟨h0, ad, ha, rfl⟩)
  have HY := Lib.hid hY; clear hY
  refine callsIn_wide.2 ?_
  refine calls_of_wp_marks Try.func51 rfl ?_
  simp only [Try.ntmps51, List.size_toArray, List.length_cons, List.length_nil, Nat.reduceAdd, Nat.reduceSub, Array.replicate_succ, Array.replicate_zero, List.push_toArray, List.append_toArray, List.nil_append, List.cons_append]
  have hbA := below_alloc W (.cells #[.func (.yield L) #[] #[]] 60)
  have hbB := below_alloc (W.alloc (.cells #[.func (.yield L) #[] #[]] 60)) (.cells #[.int .i64 0] 3)
  have hX := (Box.new W (.func (.yield L) #[] #[]) 60).later hbB
  have hY := Box.mk (W.alloc (.cells #[.func (.yield L) #[] #[]] 60)) (.int .i64 0) 3 (b := W.heap.size + 1) (by simp)
  have hb2 := below_then hbA hbB
  have hbW2 := below_cell hb2 hbW
  have hbWA := below_cell hbA hbW
  have hs2 := hsW.later hb2
  go_wp2_with fail
  refine wp_scope_straight ?_
  go_wp2_with fail
  refine wp_label ?_
  obtain ⟨w2, hw2⟩ : ∃ w2, (W.alloc (.cells #[.func (.yield L) #[] #[]] 60)).alloc (.cells #[.int .i64 0] 3) = w2 := ⟨_, rfl⟩
  rw [hw2] at hX hY hb2 hbW2 hs2 ⊢
  clear hw2 hbA hbB hbWA
  go_wp2_with fail
  refine (callFrames_c a n cap l hn w2 hs2).mono ?_
  rintro e w3 ⟨B, a', n', cap', rfl, hB, hbox, hs3, hblk, hb3⟩
  have hX3 := hX.later hb3
  have hY3 := hY.later hb3
  have hb03 := below_then hb2 hb3
  have hj3 := hJ _ _ _ h0 (Keep.of_below hb03)
  have hzY := hY.lt
  have hz3 := hbox.lt
  clear hX hY hb2 hbW2 hs2
  go_wp2_with fail
  refine wp_range (gf := 68) (lb := #[.pointer (some ⟨B, 0, none⟩)]) rfl enter_frames1
    (frames_iter B a' n' cap' l (by rw [← hs3.len, hsW.len]; exact hn) w3 hs3 hbox.cell) (Hold.refl _ _) (Nat.le_refl _) ?hR ?hps ?hE
    (fun i A => J i A ∧ Box A W.heap.size (.func (.yield L) #[] #[]) ∧ Box A (W.heap.size + 1) (.int .i64 (i : Int)) ∧ w3.heap.size ≤ A.heap.size)
    (fun k i A => k = .exit 0 ∧ Jx i A) ?hI ?hIx ⟨hj3, hX3, hY3, Nat.le_refl _⟩
    (fun vs => { tmps := #[.func (.yield L) #[] #[], .pointer (some ⟨Bs, 0, none⟩), .pointer (some ⟨W.heap.size, 0, none⟩), .pointer (some ⟨W.heap.size + 1, 0, none⟩), undef, vs.getD 1 undef, .slice a n cap, .func (.func 68) #[] #[.pointer (some ⟨B, 0, none⟩)], vs.getD 0 undef, vs.getD 1 undef, undef, undef, undef, undef, undef, undef, undef], defers := [] }) ?hassign ?hbody ?hdone ?hstop
  case hR =>
    rintro k (rfl | ⟨h0, ad, ha, rfl⟩)
    · exact hz3
    · exact hs3.lt ha h0
  case hps => rintro x vs A ⟨_, _, _, rfl, _⟩; rfl
  case hE =>
    rintro x vs A A' ⟨a2, n2, c2, rfl, h2, h3⟩ hk
    exact ⟨a2, n2, c2, rfl, hk.isB h2 (fun ad ha hsp => by have := h3 ad ha; unfold Span at hsp; omega), h3⟩
  case hI =>
    rintro i A A' ⟨h1, h2, h3, h4⟩ hk
    have hn : ∀ k, k < w3.heap.size → ¬ Span w3.heap.size (0 + 2) k := fun k hk h => by unfold Span at h; omega
    exact ⟨hJ _ _ _ h1 (hk.mono fun k hk => by unfold Span at hk; have := hb03.size; omega), h2.keep hk (hn _ hX3.lt), h3.keep hk (hn _ hY3.lt), by have := hk.size; omega⟩
  case hIx =>
    rintro k i A A' ⟨rfl, h1⟩ hk
    exact ⟨rfl, hJx _ _ _ h1 (hk.mono fun k hk => by unfold Span at hk; have := hb03.size; omega)⟩
  case hassign =>
    rintro L2 x vs W' K ⟨a2, n2, c2, rfl, _⟩ hK
    gi_wp2
    exact hK
  case hbody =>
    rintro L2 i hi vs A ⟨h1, h2, h3, h4⟩ ⟨a2, n2, c2, rfl, hs2, hb2'⟩ hszA
    have hsz3 := hb03.size
    have hir : i < (recs l).length := by rw [recs_len]; exact hi
    obtain ⟨fn, tmps, assign, body, hy, hR⟩ := HY.out i hir #[.int .i64 (i : Int), .slice a2 n2 c2] A h1 (by rw [recs_get]; exact ⟨a2, n2, c2, rfl, hs2, fun ad ha => by have := hb2' ad ha; omega⟩) (by omega)
    generalize (framesB l)[i] = x at *
    rw [show (#[Value.int .i64 (x.1 : Int), Value.slice a2 n2 c2] : Array Value).getD 0 undef = .int .i64 (x.1 : Int) from rfl, show (#[Value.int .i64 (x.1 : Int), Value.slice a2 n2 c2] : Array Value).getD 1 undef = .slice a2 n2 c2 from rfl]
    have x0 := h2.cell
    have y0 := h3.cell
    gi_wp2
    refine ⟨rfl, hR.mono ?_⟩
    have hX3l := hX3.lt
    have hY3l := hY3.lt
    rintro e W3 (⟨rfl, hj4, hh4⟩ | ⟨rfl, hj4, hh4⟩)
    · have h34 := h3.hold hh4 (Or.inr ⟨by omega, by omega⟩)
      have h24 := h2.hold hh4 (Or.inr ⟨by omega, by omega⟩)
      have y1 := h34.cell
      have y2 := h34.fz
      have hi40 : (i : Int) < 2 ^ 41 := by have := framesB_many l; have := hsW.len; omega
      gi_wp2
      refine ⟨?_, hJ _ _ _ hj4 (keep_set _ (by simp) _), h24.other (by simp) _, ?_, by have := hh4.size; simp; omega⟩
      · refine (hh4.mono fun k hk => Or.inr ?_).trans (Hold.setCell _ _ (fun hk => ?_) _)
        · rcases hk with (rfl | ⟨h0, ad, ha, rfl⟩) | hk
          · omega
          · have := hs3.lt ha h0; have := hblk ad ha; omega
          · unfold Span at hk; omega
        · rcases hk with (hk | ⟨h0, ad, ha, hk⟩) | hk
          · simp at hk; omega
          · have := hblk ad ha; simp at hk; omega
          · unfold Span at hk; simp at hk; omega
      · push_cast
        exact h34.set _
    · gi_wp2
      refine ⟨hh4.mono fun k hk => Or.inr ?_, by rfl, hj4⟩
      rcases hk with (rfl | ⟨h0, ad, ha, rfl⟩) | hk
      · omega
      · have := hs3.lt ha h0; have := hblk ad ha; omega
      · unfold Span at hk; omega
  case hdone =>
    rintro A hBs ⟨h1, h2, h3, h4⟩ hD
    go_wp2_with fail
    simp only [Exit.noGoto]
    refine leave1_end hD (results_none rfl _ _ _) ⟨⟨_, rfl⟩, .inl ?_⟩
    rw [recs_len]
    exact hJ _ _ _ h1 (Keep.putObj _ _ _ (by have := hb03.size; omega))
  case hstop =>
    rintro k i A hBs hi ⟨rfl, h1⟩ hD
    go_wp2_with fail
    simp only [Exit.noGoto]
    refine leave1_end hD (results_none rfl _ _ _) ⟨⟨_, rfl⟩, .inr ⟨i, by rw [recs_len]; exact hi, ?_⟩⟩
    exact hJx _ _ _ h1 (Keep.putObj _ _ _ (by have := hb03.size; omega))
end Go.Proofs.Ytknndpncdnhnpaa
