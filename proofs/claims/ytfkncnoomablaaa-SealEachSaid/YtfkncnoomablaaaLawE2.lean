import Derived.Test.YtfkncnoomablaaaFrC
import Derived.Test.YtfkncnoomablaaaLeave
import Derived.Test.YtfkncnoomablaaaQuiet
import Derived.Deep.LoopGhost
namespace Go.Proofs.Ytfkncnoomablaaa
open Go.RowKit Go.Cas
attribute [local go_sem] Oper.semAt_some

theorem eql_nilfunc (f : Nat) (lb : Array Value) (w : World) : (binOp BinOp.eql 50 (.func (.func f) #[] lb) .nilFunc).run Try.prog w = .ok (.bool false) w := by
  kernel_rfl
set_option maxRecDepth 100000 in
set_option maxHeartbeats 4000000 in
theorem sealEach_c (a : Option Addr) (n cap : Nat) (l : List UInt8) (many : Int) (w : World) (h : IsB w a n cap l) (_hm : (Lit.int .i64 many).wf = true) :
    Calls Try.prog 8 #[.slice a n cap, .int .i64 many] w fun e w' => e = .returned (.bool true) ∧ Below w.heap.size w w' := by
  have hl := h.len
  have hcap := h.le
  refine calls_of_wp_marks Try.func8 rfl ?_
  simp only [Try.ntmps8, List.size_toArray, List.length_cons, List.length_nil, Nat.reduceAdd, Nat.reduceSub, Array.replicate_succ, Array.replicate_zero, List.push_toArray, List.append_toArray, List.nil_append, List.cons_append]
  by_cases hn : 2000 < n
  · go_wp2_with fail
    refine (works_c _).mono ?_
    rintro e w1 ⟨rfl, hb1⟩
    have hx : Box w1 (w.heap.size + 1) (.bool false) := (Box.mk (w.alloc (.cells #[.int .i64 many] 3)) _ _ (World.size_alloc _ _).symm).later hb1
    have hc := hx.cell
    have hf := hx.fz
    have hc2 := (hx.set (.bool true)).cell
    go_wp2_with fail
    refine leave0 (v := .bool true) (by simp [results, Try.results8, go_sem, hc2]) ⟨rfl, ?_⟩
    exact (below_then (below_then (below_alloc _ _) (below_alloc _ _)) hb1).setCell (by simp) _
  go_wp2_with fail
  refine (refFrames_c a n cap l (by omega) _ ((h.alloc _).alloc _)).mono ?_
  rintro e w1 ⟨v1, v2, vs, rfl, ho1, ho2, hS, hb1⟩
  have hbw := below_then (below_then (below_alloc w (.cells #[.int .i64 many] 3)) (below_alloc _ (.cells #[.bool false] 4))) hb1
  have hM1 : Box w1 w.heap.size (.int .i64 many) := ((Box.new w _ _).alloc _).later hb1
  have hX1 : Box w1 (w.heap.size + 1) (.bool false) := (Box.mk (w.alloc (.cells #[.int .i64 many] 3)) _ _ (World.size_alloc _ _).symm).later hb1
  have h1 := h.later hbw
  simp only [World.size_alloc] at ho1 ho2 hS
  obtain ⟨aI, cI, rfl, hsI⟩ := ownsRow_slice ho1
  obtain ⟨aW, cW, rfl, hsW⟩ := ownsRow_slice ho2
  have heq := eql_nilfunc
  go_wp2_with (first
    | (go_at_call 21; refine (callFrames_c a n cap l (by omega) _ ((h1.alloc _).alloc _)).mono ?_; rintro e w2 ⟨B, a', n', cap', rfl, hB, hbox, hs', hblk, hb2⟩; have h2 := ((h1.alloc _).alloc _).later hb2)
    | (go_at_call 22; refine (whole_c a n cap l (by omega) _ h2).mono ?_; rintro e w3 ⟨rfl, hb3⟩))
  have hz2 := hb2.size
  have hz3 := hb3.size
  simp only [World.size_alloc] at hB hblk hz2
  have hI2 : Box w2 w1.heap.size (.slice aI (framesB l).length cI) := ((Box.new w1 _ _).alloc _).later hb2
  have hW2 : Box w2 (w1.heap.size + 1) (.slice aW (framesB l).length cW) := (Box.mk (w1.alloc (.cells #[.slice aI (framesB l).length cI] 45)) _ _ (World.size_alloc _ _).symm).later hb2
  have hb13 : Below w1.heap.size w1 w3 := below_then (below_then (below_then (below_alloc _ _) (below_alloc _ _)) hb2) hb3
  have hM3 := hM1.later hb13
  have hX3 := hX1.later hb13
  have hI3 := hI2.later hb3
  have hW3 := hW2.later hb3
  have hF3 := hbox.later hb3
  have hsI3 := hsI.later hb13
  have hsW3 := hsW.later hb13
  have hS3 := hS.keep (hb13.mono (by have := hM1.lt; have := hX1.lt; omega))
  have hs3 := hs'.later hb3
  have h3 := h1.later hb13
  have hb03 := below_then hbw hb13
  have hw1 := hX1.lt
  clear hM1 hX1 hb1 hb2 hb13 hI2 hW2 hbox hsI hsW hS hs' h1 h2 ho1 ho2 hbw hb3
  refine wp_loop_ghost (fun k aa W => ∃ (turn T : Nat) (D : List Nat) (tm : Array Value), aa = { tmps := tm, defers := marks D } ∧ tm = #[.slice a n cap, .int .i64 many, tm.getD 2 undef, .pointer (some ⟨w.heap.size, 0, none⟩), .pointer (some ⟨w.heap.size + 1, 0, none⟩), .pointer (some ⟨w1.heap.size, 0, none⟩), .pointer (some ⟨w1.heap.size + 1, 0, none⟩), .int .i64 (wholeB l : Int), .func (.func 35) #[] #[.pointer (some ⟨B, 0, none⟩)], .pointer (some ⟨T, 0, none⟩), tm.getD 10 undef, tm.getD 11 undef, tm.getD 12 undef, tm.getD 13 undef, tm.getD 14 undef, tm.getD 15 undef, tm.getD 16 undef, tm.getD 17 undef, tm.getD 18 undef, tm.getD 19 undef, tm.getD 20 undef, tm.getD 21 undef, tm.getD 22 undef, tm.getD 23 undef, tm.getD 24 undef, tm.getD 25 undef, tm.getD 26 undef, tm.getD 27 undef, tm.getD 28 undef, tm.getD 29 undef, tm.getD 30 undef, tm.getD 31 undef, tm.getD 32 undef, tm.getD 33 undef, tm.getD 34 undef, tm.getD 35 undef, tm.getD 36 undef, tm.getD 37 undef, tm.getD 38 undef, tm.getD 39 undef, tm.getD 40 undef, tm.getD 41 undef, tm.getD 42 undef, tm.getD 43 undef, tm.getD 44 undef, tm.getD 45 undef, tm.getD 46 undef, tm.getD 47 undef, tm.getD 48 undef, tm.getD 49 undef, tm.getD 50 undef, tm.getD 51 undef, tm.getD 52 undef, tm.getD 53 undef, tm.getD 54 undef, tm.getD 55 undef, tm.getD 56 undef, tm.getD 57 undef, tm.getD 58 undef, tm.getD 59 undef, tm.getD 60 undef, tm.getD 61 undef, tm.getD 62 undef, tm.getD 63 undef, tm.getD 64 undef, tm.getD 65 undef, tm.getD 66 undef, tm.getD 67 undef, tm.getD 68 undef, tm.getD 69 undef, tm.getD 70 undef, tm.getD 71 undef, tm.getD 72 undef, tm.getD 73 undef, tm.getD 74 undef, tm.getD 75 undef, tm.getD 76 undef, tm.getD 77 undef, tm.getD 78 undef, tm.getD 79 undef, tm.getD 80 undef, tm.getD 81 undef, tm.getD 82 undef, tm.getD 83 undef, tm.getD 84 undef, tm.getD 85 undef, tm.getD 86 undef, tm.getD 87 undef, tm.getD 88 undef, tm.getD 89 undef, tm.getD 90 undef, tm.getD 91 undef, tm.getD 92 undef, tm.getD 93 undef] ∧ turn + k = 2 ∧ w3.heap.size ≤ T ∧ Box W T (.int .i64 (turn : Int)) ∧
    (∀ d ∈ D, w3.heap.size ≤ d ∧ d < W.heap.size ∧ W.heap[d]? = some (.deferred (some []))) ∧ D.Nodup ∧ Below w3.heap.size w3 W) 2 ?start ?round
  case start => exact ⟨0, w3.heap.size, [], _, rfl, rfl, rfl, Nat.le_refl _, Box.new _ _ _, by simp, by simp, below_alloc _ _⟩
  case round =>
    rintro k aa W ⟨turn, T, D, tm, rfl, htm, hturn, hT, hBT, hD, hDn, hBl⟩
    obtain ⟨u, hu⟩ : ∃ u : Nat → Value, u = fun i => tm.getD i undef := ⟨_, rfl⟩
    have htu : tm = #[.slice a n cap, .int .i64 many, u 2, .pointer (some ⟨w.heap.size, 0, none⟩), .pointer (some ⟨w.heap.size + 1, 0, none⟩), .pointer (some ⟨w1.heap.size, 0, none⟩), .pointer (some ⟨w1.heap.size + 1, 0, none⟩), .int .i64 (wholeB l : Int), .func (.func 35) #[] #[.pointer (some ⟨B, 0, none⟩)], .pointer (some ⟨T, 0, none⟩), u 10, u 11, u 12, u 13, u 14, u 15, u 16, u 17, u 18, u 19, u 20, u 21, u 22, u 23, u 24, u 25, u 26, u 27, u 28, u 29, u 30, u 31, u 32, u 33, u 34, u 35, u 36, u 37, u 38, u 39, u 40, u 41, u 42, u 43, u 44, u 45, u 46, u 47, u 48, u 49, u 50, u 51, u 52, u 53, u 54, u 55, u 56, u 57, u 58, u 59, u 60, u 61, u 62, u 63, u 64, u 65, u 66, u 67, u 68, u 69, u 70, u 71, u 72, u 73, u 74, u 75, u 76, u 77, u 78, u 79, u 80, u 81, u 82, u 83, u 84, u 85, u 86, u 87, u 88, u 89, u 90, u 91, u 92, u 93] := by rw [hu]; exact htm
    clear hu htm
    subst htu
    have hcT := hBT.cell
    have hTl := hBT.lt
    by_cases ht2 : turn < 2
    · go_wp2
      refine wp_at (fun A0 => Box A0 W.heap.size (.int .i64 0) ∧ Box A0 T (.int .i64 (turn : Int)) ∧ Below w3.heap.size w3 A0 ∧ A0.heap.size = W.heap.size + 1 ∧ ∀ d ∈ D, A0.heap[d]? = some (.deferred (some [])))
        ⟨Box.new _ _ _, hBT.alloc _, below_then hBl (below_alloc _ _), World.size_alloc _ _, fun d hd => ((below_alloc W _).block d (hD d hd).2.1).trans (hD d hd).2.2⟩ ?_
      rintro A0 ⟨hN0, hT0, hB0, hsz0, hD0⟩
      have hF0 := hF3.later hB0
      have hs0 := hs3.later hB0
      have hw3l := hF3.lt
      have hXl := hX3.lt
      refine wp_range (gf := 35) (lb := #[.pointer (some ⟨B, 0, none⟩)]) rfl enter_frames1
        (frames_iter B a' n' cap' l (by rw [← hs3.len, hl]; omega) A0 hs0 hF0.cell) (Hold.refl _ _) (Nat.le_refl _) ?hR ?hps ?hE
        (fun i A => Box A W.heap.size (.int .i64 (i : Int)) ∧ Box A T (.int .i64 (turn : Int)) ∧ Below w3.heap.size w3 A ∧ (∀ d ∈ D, A.heap[d]? = some (.deferred (some []))) ∧ (turn = 0 → i = 0 ∨ (i : Int) < many))
        (fun k i A => k = Code.exit 2 ∧ Box A W.heap.size (.int .i64 (i : Int)) ∧ Box A T (.int .i64 (turn : Int)) ∧ Below w3.heap.size w3 A ∧ (∀ d ∈ D, A.heap[d]? = some (.deferred (some []))) ∧ turn = 0 ∧ 1 ≤ i ∧ many ≤ (i : Int) ∧ (i = 1 ∨ (i : Int) - 1 < many)) ?hI ?hIx ⟨hN0, hT0, hB0, hD0, fun _ => .inl rfl⟩
        (fun vs => { tmps := #[.slice a n cap, .int .i64 many, u 2, .pointer (some ⟨w.heap.size, 0, none⟩), .pointer (some ⟨w.heap.size + 1, 0, none⟩), .pointer (some ⟨w1.heap.size, 0, none⟩), .pointer (some ⟨w1.heap.size + 1, 0, none⟩), .int .i64 (wholeB l : Int), .func (.func 35) #[] #[.pointer (some ⟨B, 0, none⟩)], .pointer (some ⟨T, 0, none⟩), .pointer (some ⟨W.heap.size, 0, none⟩), vs.getD 0 undef, vs.getD 1 undef, u 13, u 14, u 15, u 16, u 17, u 18, u 19, u 20, u 21, u 22, u 23, u 24, u 25, u 26, u 27, u 28, u 29, u 30, u 31, u 32, .int .i64 (turn : Int), .bool true, u 35, u 36, .func (.func 35) #[] #[.pointer (some ⟨B, 0, none⟩)], vs.getD 0 undef, vs.getD 1 undef, u 40, u 41, u 42, u 43, u 44, u 45, u 46, u 47, u 48, u 49, u 50, u 51, u 52, u 53, u 54, u 55, u 56, u 57, u 58, u 59, u 60, u 61, u 62, u 63, u 64, u 65, u 66, u 67, u 68, u 69, u 70, u 71, u 72, u 73, u 74, u 75, u 76, u 77, u 78, u 79, u 80, u 81, u 82, u 83, u 84, u 85, u 86, u 87, u 88, u 89, u 90, u 91, u 92, u 93], defers := [] }) ?hassign ?hbody ?hdone ?hstop
      case hR =>
        rintro k (rfl | ⟨ad, ha, rfl⟩)
        · have := hF0.lt; omega
        · exact hs0.lt ha
      case hps => rintro x vs A ⟨_, _, _, rfl, _⟩; rfl
      case hE =>
        rintro x vs A A' ⟨a2, n2, c2, rfl, h2, h3⟩ hk
        exact ⟨a2, n2, c2, rfl, hk.isB h2 (fun ad ha hsp => by have := h3 ad ha; unfold Span at hsp; omega), h3⟩
      case hI =>
        rintro i A A' ⟨h1, h2, h4, h5, h6⟩ hk
        have hn : ∀ k, k < A0.heap.size → ¬ Span A0.heap.size (0 + 2) k := fun k hk h => by unfold Span at h; omega
        exact ⟨h1.keep hk (hn _ (by omega)), h2.keep hk (hn _ (by omega)), h4.trans (hk.below h4.size (fun k hk => hn k (by have := hBl.size; omega))), fun d hd => (hk.block d (Array.getElem?_eq_some_iff.1 (h5 d hd)).1 (hn d (by have := (hD d hd).2.1; omega))).trans (h5 d hd), h6⟩
      case hIx =>
        rintro k i A A' ⟨h0, h1, h2, h4, h5, h6⟩ hk
        have hn : ∀ k, k < A0.heap.size → ¬ Span A0.heap.size (0 + 2) k := fun k hk h => by unfold Span at h; omega
        exact ⟨h0, h1.keep hk (hn _ (by omega)), h2.keep hk (hn _ (by omega)), h4.trans (hk.below h4.size (fun k hk => hn k (by have := hBl.size; omega))), fun d hd => (hk.block d (Array.getElem?_eq_some_iff.1 (h5 d hd)).1 (hn d (by have := (hD d hd).2.1; omega))).trans (h5 d hd), h6⟩
      case hassign =>
        rintro L x vs W' K ⟨a2, n2, c2, rfl, _⟩ hK
        gi_wp2
        exact hK
      case hbody =>
        rintro L i hi vs1 A ⟨h1, h2, h4, h5, h6⟩ ⟨a2, n2, c2, rfl, hx, _⟩ hsz
        rw [show (#[Value.int .i64 ((framesB l)[i].1 : Int), Value.slice a2 n2 c2] : Array Value).getD 0 undef = .int .i64 ((framesB l)[i].1 : Int) from rfl, show (#[Value.int .i64 ((framesB l)[i].1 : Int), Value.slice a2 n2 c2] : Array Value).getD 1 undef = .slice a2 n2 c2 from rfl]
        have hN := h1.cell
        have hfN := h1.fz
        have hTc := h2.cell
        have hMc := (hM3.later h4).cell
        have hIc := (hI3.later h4).cell
        have hWc := (hW3.later h4).cell
        have hFI : i < (framesB l).length := hi
        have hIA := hsI3.later h4
        have hWA := hsW3.later h4
        obtain ⟨bI, oI, rfl, -⟩ := hIA.some_of_lt (by have := hIA.le; omega)
        obtain ⟨bW, oW, rfl, -⟩ := hWA.some_of_lt (by have := hWA.le; omega)
        have hcI := hIA.cell (i := i) (by omega)
        have hcW := hWA.cell (i := i) (by omega)
        obtain ⟨a3, n3, c3, hv3, hs5, -⟩ := (hS3.keep (h4.mono (by have := hb03.size; omega))).2 i (by simpa using hFI)
        rw [hv3] at hcW
        rw [show (ints (framesB l))[i]? = some (.int .i64 ((framesB l)[i].1 : Int)) from by simp [ints, hFI]] at hcI
        rw [show ((framesB l).map Prod.snd).getD i [] = (framesB l)[i].2 from by simp [List.getD, hFI]] at hs5
        have hv1 : ∀ m, (convert 22 9 (.slice a2 n2 c2)).run Try.prog (A.drewN m) = .ok (.string (strOf (framesB l)[i].2)) (A.drewN m) := fun m => conv_str (hx.keep fun _ _ _ _ _ => rfl)
        have hv2 : ∀ m, (convert 22 9 (.slice a3 n3 c3)).run Try.prog (A.drewN m) = .ok (.string (strOf (framesB l)[i].2)) (A.drewN m) := fun m => conv_str (hs5.keep fun _ _ _ _ _ => rfl)
        have hge : decide (((framesB l).length : Int) ≤ (i : Int)) = false := by simp; omega
        have hle : (i : Int) < ((framesB l).length : Int) := by omega
        generalize (framesB l)[i] = x at *
        generalize (framesB l).length = FL at *
        gi_wp2
        refine region_quiet (by simp) (by kernel_rfl) (by kernel_rfl) ?_
        repeat
          (refine wpQuietIn_step (fun _ _ _ _ => trivial) (fun K hK => ?_)
           go_simp
           refine hK _ ?_
           clear hK K)
        refine wpQuietIn_nil ?_
        rintro _ ⟨nq, rfl⟩
        have hnle : decide (FL ≤ i) = false := by simp; omega
        have hN' := (h1.block (w' := A.drewN nq) rfl)
        have hcN := hN'.cell
        have hfN' := hN'.fz
        have hcN2 := (hN'.set (.int .i64 ((i : Int) + 1))).cell
        have hT' := ((h2.block (w' := A.drewN nq) rfl).other (p := ⟨W.heap.size, 0, none⟩) (by simp; omega) (.int .i64 ((i : Int) + 1)))
        have hcT' := hT'.cell
        have hM' := ((hM3.later h4).block (w' := (A.drewN nq).setCell ⟨W.heap.size, 0, none⟩ (.int .i64 ((i : Int) + 1))) (Below.heap_setCell _ _ _ _ (by simp; omega)))
        have hcM' := hM'.cell
        have hWi : IntKind.i64.wrap ((i : Int) + 1) = (i : Int) + 1 := Go.IntWalk.i64_in _ (by have := hsI3.le; have := hsI3.big; unfold maxLen at this; omega)
        have hHold : Hold (fun k => RSlice B a' k ∨ Span (W.heap.size + 1) 2 k) A ((A.drewN nq).setCell ⟨W.heap.size, 0, none⟩ (.int .i64 ((i : Int) + 1))) :=
          Hold.trans (B := A.drewN nq) ⟨rfl, rfl, rfl, Nat.le_refl _, fun _ _ => rfl⟩ (Hold.setCell _ _ (by
            rintro ((e | ⟨ad, ha, e⟩) | e)
            · simp only at e; have := hBl.size; omega
            · have := hs3.lt ha; have := hBl.size; simp at e; omega
            · unfold Span at e; simp at e; omega) _)
        have hBel : Below w3.heap.size w3 ((A.drewN nq).setCell ⟨W.heap.size, 0, none⟩ (.int .i64 ((i : Int) + 1))) := (h4.trans (c := A.drewN nq) ⟨rfl, rfl, rfl, Nat.le_refl _, fun _ _ => rfl⟩).setCell hBl.size _
        have hBoxN : Box ((A.drewN nq).setCell ⟨W.heap.size, 0, none⟩ (.int .i64 ((i : Int) + 1))) W.heap.size (.int .i64 ((i + 1 : Nat) : Int)) := by push_cast; exact hN'.set _
        have hDm : ∀ d ∈ D, ((A.drewN nq).setCell ⟨W.heap.size, 0, none⟩ (.int .i64 ((i : Int) + 1))).heap[d]? = some (.deferred (some [])) := fun d hd => (Below.heap_setCell _ _ _ _ (by have := (hD d hd).2.1; simp; omega)).trans (h5 d hd)
        by_cases ht0 : turn = 0
        · subst ht0
          by_cases hmany : many ≤ (i : Int) + 1
          · gi_wp2
            refine ⟨hHold, rfl, hBoxN, hT', hBel, hDm, by omega, by push_cast; exact hmany, ?_⟩
            rcases h6 trivial with h6 | h6
            · exact .inl (by omega)
            · exact .inr (by push_cast; omega)
          · gi_wp2
            exact ⟨hHold, hBoxN, hT', hBel, hDm, by push_cast; omega⟩
        · gi_wp2
          refine ⟨by rw [hsz0]; exact hHold, hBoxN, hT', hBel, hDm, ?_⟩
          first | exact fun h => absurd h ht0 | trivial
      case hdone =>
        rintro A hBs ⟨h1, h2, h4, h5, h6⟩ hDd
        have hcN := h1.cell
        have hcT2 := h2.cell
        have hMc := (hM3.later h4).cell
        have hWc := (hW3.later h4).cell
        generalize (framesB l).length = FL at *
        have hAl : A.heap.size ≥ W.heap.size + 3 := by omega
        have hw3A := h4.size
        have hmk : ∀ o : Obj, ∀ d ∈ (W.heap.size + 1) :: D, w3.heap.size ≤ d ∧ d < (A.alloc o).heap.size ∧ (A.alloc o).heap[d]? = some (.deferred (some [])) := by
          intro o d hd
          rw [World.size_alloc]
          rcases List.mem_cons.1 hd with rfl | hd
          · rw [hsz0] at hDd
            exact ⟨by have := hBl.size; omega, by omega, ((below_alloc A _).block _ (by omega)).trans hDd⟩
          · exact ⟨(hD d hd).1, by have := (hD d hd).2.1; omega, ((below_alloc A _).block _ (by have := (hD d hd).2.1; omega)).trans (h5 d hd)⟩
        have hnd : ((W.heap.size + 1) :: D).Nodup := List.nodup_cons.2 ⟨fun h => by have := (hD _ h).2.1; omega, hDn⟩
        by_cases ht0 : turn = 0
        · subst ht0
          go_wp2
          all_goals
            first
              | refine ⟨1, by omega, 1, A.heap.size, (W.heap.size + 1) :: D, _, ⟨rfl, rfl⟩, ?_, ?_, ?_, ?_, ?_, ?_, ?_⟩
              | refine ⟨1, by omega, 1, A.heap.size, (W.heap.size + 1) :: D, _, rfl, ?_, ?_, ?_, ?_, ?_, ?_, ?_⟩
            · rfl
            · omega
            · omega
            · exact Box.new _ _ _
            · exact fun d hd => ⟨(hmk (.cells #[.int .i64 1] 3) d hd).1, by have := (hmk (.cells #[.int .i64 1] 3) d hd).2.1; first | exact this | rwa [World.size_alloc] at this, (hmk (.cells #[.int .i64 1] 3) d hd).2.2⟩
            · exact hnd
            · exact below_then h4 (below_alloc _ _)
        · obtain rfl : turn = 1 := by omega
          go_wp2
          all_goals
            first
              | refine ⟨0, by omega, 2, A.heap.size, (W.heap.size + 1) :: D, _, ⟨rfl, rfl⟩, ?_, ?_, ?_, ?_, ?_, ?_, ?_⟩
              | (rw [hsz0]; refine ⟨0, by omega, 2, A.heap.size, (W.heap.size + 1) :: D, _, rfl, ?_, ?_, ?_, ?_, ?_, ?_, ?_⟩)
            · rfl
            · omega
            · omega
            · exact Box.new _ _ _
            · exact fun d hd => ⟨(hmk (.cells #[.int .i64 2] 3) d hd).1, by have := (hmk (.cells #[.int .i64 2] 3) d hd).2.1; first | exact this | rwa [World.size_alloc] at this, (hmk (.cells #[.int .i64 2] 3) d hd).2.2⟩
            · exact hnd
            · exact below_then h4 (below_alloc _ _)
      case hstop =>
        rintro k' i A hBs hile ⟨rfl, h1, h2, h4, h5, rfl, hi1, hi2, hi3⟩ hDd
        have hcN := h1.cell
        have hcT2 := h2.cell
        have hMc := (hM3.later h4).cell
        have hWc := (hW3.later h4).cell
        generalize (framesB l).length = FL at *
        have hAl : A.heap.size ≥ W.heap.size + 3 := by omega
        have hw3A := h4.size
        have hmk : ∀ o : Obj, ∀ d ∈ (W.heap.size + 1) :: D, w3.heap.size ≤ d ∧ d < (A.alloc o).heap.size ∧ (A.alloc o).heap[d]? = some (.deferred (some [])) := by
          intro o d hd
          rw [World.size_alloc]
          rcases List.mem_cons.1 hd with rfl | hd
          · rw [hsz0] at hDd
            exact ⟨by have := hBl.size; omega, by omega, ((below_alloc A _).block _ (by omega)).trans hDd⟩
          · exact ⟨(hD d hd).1, by have := (hD d hd).2.1; omega, ((below_alloc A _).block _ (by have := (hD d hd).2.1; omega)).trans (h5 d hd)⟩
        have hnd : ((W.heap.size + 1) :: D).Nodup := List.nodup_cons.2 ⟨fun h => by have := (hD _ h).2.1; omega, hDn⟩
        go_wp2
        all_goals first | exfalso; omega | skip
        all_goals
          first
            | refine ⟨1, by omega, 1, A.heap.size, (W.heap.size + 1) :: D, _, ⟨rfl, rfl⟩, ?_, ?_, ?_, ?_, ?_, ?_, ?_⟩
            | refine ⟨1, by omega, 1, A.heap.size, (W.heap.size + 1) :: D, _, rfl, ?_, ?_, ?_, ?_, ?_, ?_, ?_⟩
          · rfl
          · omega
          · omega
          · exact Box.new _ _ _
          · exact fun d hd => ⟨(hmk (.cells #[.int .i64 1] 3) d hd).1, by have := (hmk (.cells #[.int .i64 1] 3) d hd).2.1; first | exact this | rwa [World.size_alloc] at this, (hmk (.cells #[.int .i64 1] 3) d hd).2.2⟩
          · exact hnd
          · exact below_then h4 (below_alloc _ _)
    · obtain rfl : turn = 2 := by omega
      go_wp2_with fail
      refine (works_c _).mono ?_
      rintro e w5 ⟨rfl, hb5⟩
      have hX5 := (hX3.later hBl).later hb5
      have hXl := hX3.lt
      have hcX := hX5.cell
      have hfX := hX5.fz
      go_wp2_with fail
      refine leaveN D _ (fun d hd => ?_) hDn (fun w' hk => ⟨.bool true, ?_, rfl, ?_⟩)
      · obtain ⟨h6, h7, h8⟩ := hD d hd
        exact ((Below.heap_setCell _ _ _ _ (by simp; omega)).trans (hb5.block d h7)).trans h8
      · have hc6 := ((hX5.set (.bool true)).keep hk (fun hmem => by have := (hD _ hmem).1; omega)).cell
        simp [results, Try.results8, go_sem, hc6]
      · exact ((below_then (below_then hb03 hBl) hb5).setCell (by simp) _).trans (hk.below (by have h6 := hb03.size; have h7 := hBl.size; have h8 := hb5.size; simp; omega) (fun d hd hmem => by have := (hD _ hmem).1; have := hb03.size; omega))
end Go.Proofs.Ytfkncnoomablaaa
