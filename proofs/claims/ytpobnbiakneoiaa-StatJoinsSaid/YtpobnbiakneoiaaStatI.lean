import Derived.Test.YtpobnbiakneoiaaStatH
namespace Go.Proofs.Ytpobnbiakneoiaa
open Go.RowKit Go.Cas
set_option linter.unusedSimpArgs false
set_option linter.unusedVariables false
attribute [local go_sem] Oper.semAt_some

set_option maxRecDepth 100000 in
theorem rshape_c (a b c : Int) (w : World) : Calls Try.prog 40 #[.agg #[.int .i64 a, .int .i64 b, .int .i64 c]] w fun e w' => e = .returned (.bool (okShape a b c)) ∧ Below w.heap.size w w' := by
  go_enter Try.func40, Try.ntmps40
  go_wp2_with fail
  all_goals
    go_ret
    refine ⟨ret_bool ?_, below_alloc _ _⟩
    rw [Bool.eq_iff_iff]
    simp only [okShape, Bool.false_eq_true, decide_eq_true_eq, Bool.and_eq_true, false_iff, true_iff, iff_true, iff_false]
    omega
theorem mul_wrap {a b c : Int} (hk : okShape a b c = true) : IntKind.i64.wrap (a * c) = a * c ∧ a * c = (sites a b c : Int) := by
  obtain ⟨h1, h2, h3, h4, h5, h6⟩ := (okShape_iff a b c).1 hk
  have hx : 0 ≤ a * c := Int.mul_nonneg (by omega) (by omega)
  have hy : a * c ≤ 64 * 4 := Int.mul_le_mul h2 h6 (by omega) (by omega)
  refine ⟨Go.IntWalk.i64_in _ (by omega), ?_⟩
  unfold sites
  rw [hk, if_pos rfl]
  omega
theorem rnewSt_c (a b c : Int) (w : World) (hk : okShape a b c = true) : Calls Try.prog 41 #[.agg #[.int .i64 a, .int .i64 b, .int .i64 c]] w fun e w' =>
    ∃ v, e = .returned v ∧ OwnSt w' w.heap.size v (List.replicate (sites a b c) st0) ∧ Below w.heap.size w w' := by
  obtain ⟨h1, h2⟩ := mul_wrap hk
  have hle := sites_le a b c
  rw [h2] at h1
  generalize sites a b c = N at *
  obtain ⟨cs, hmk, hcs⟩ := make_st (w.alloc (.cells #[.int .i64 a, .int .i64 b, .int .i64 c] 23)) N rfl (by omega)
  have hown := ownSt_new (w.alloc (.cells #[.int .i64 a, .int .i64 b, .int .i64 c] 23)) (List.replicate N st0) (by rw [List.length_replicate]; unfold maxLen; omega) hcs
  rw [List.length_replicate] at hown
  have HO := Lib.hid hown
  clear hown hcs hk
  simp only [World.size_alloc] at hmk
  go_enter Try.func41, Try.ntmps41
  go_wp2_with fail
  go_ret
  exact ⟨.slice (some ⟨w.heap.size + 1, 0, none⟩) N N, by rfl, by have := OwnSt.mono HO.out (base' := w.heap.size) (by simp); simpa only [World.size_alloc] using this, below_then (below_alloc _ _) (below_alloc _ _)⟩
set_option maxRecDepth 100000 in
set_option maxHeartbeats 1000000 in
theorem rlist_c (x y z : Int) (a : Option Addr) (n cap : Nat) (l : List St) (hn : n ≤ 2 ^ 40) (w : World) (h : IsSt w a n cap l) :
    Calls Try.prog 42 #[.agg #[.int .i64 x, .int .i64 y, .int .i64 z], .slice a n cap] w fun e w' => e = .returned (.bool (okList x y z l)) ∧ Below w.heap.size w w' := by
  have hr := rshape_c x y z
  have hb0 := below_alloc w (.cells #[.int .i64 x, .int .i64 y, .int .i64 z] 23)
  have hc0 := Cell3.new w x y z 23
  have hl : okList x y z l = (okShape x y z && decide (l.length = sites x y z) && l.all okSt) := rfl
  have HLN := Lib.hid h.2
  have HH := Lib.hid h
  clear h
  cases hk : okShape x y z with
  | false =>
    rw [hk] at hr hl
    simp only [Bool.false_and] at hl
    have HE := Lib.hid hl
    clear hl hk
    go_enter Try.func42, Try.ntmps42
    go_wp2_with fail
    refine (hr _).mono ?_
    rintro e w1 ⟨rfl, hb1⟩
    go_wp2_with fail
    go_ret
    exact ⟨by rw [HE.out]; rfl, below_then hb0 hb1⟩
  | true =>
    obtain ⟨hm1, hm2⟩ := mul_wrap hk
    rw [hk] at hr hl
    rw [hm2] at hm1
    have HM2 := Lib.hid hm2
    have HM1 := Lib.hid hm1
    simp only [Bool.true_and] at hl
    clear hm2 hm1 hk
    obtain ⟨N, hN⟩ : ∃ N, sites x y z = N := ⟨_, rfl⟩
    rw [hN] at hl
    have HN := Lib.hid hN
    clear hN
    have hw : IntKind.i64.wrap (x * z) = (N : Int) := by rw [HM2.out, HM1.out, HN.out]
    by_cases hq : n = N
    · subst hq
      have hl2 : okList x y z l = l.all okSt := by rw [hl, decide_eq_true HLN.out, Bool.true_and]
      have HE := Lib.hid hl2
      clear hl hl2
      go_enter Try.func42, Try.ntmps42
      go_wp2_with fail
      refine (hr _).mono ?_
      rintro e w1 ⟨rfl, hb1⟩
      have hbb := below_then hb0 hb1
      obtain ⟨q0, q1, q2⟩ := hc0.later hb1
      go_wp2_with fail
      clear hr hw q0 q1 q2 hc0
      go_loopw [5] (fun i wr => ∃ k : Nat, k ≤ n ∧ i = .int .i64 (k : Int) ∧ Hid (∀ x ∈ l.take k, okSt x = true) ∧ Below w.heap.size w wr) (fun i _ => n - (intOf i).toNat)
      case atStart => exact ⟨0, by omega, rfl, Lib.hid (by simp), hbb⟩
      case round =>
        obtain ⟨k, hk, rfl, HF, hb⟩ := hrel
        by_cases hlt : k < n
        · have hkl : k < l.length := by have := HLN.out; omega
          obtain ⟨b, off, rfl, hbl⟩ := HH.out.1.some_of_lt (by have := HH.out.1.le; omega)
          obtain ⟨c0, c1, c2, c3⟩ := (HH.out.later hb).cells hkl
          obtain ⟨u, hx⟩ : ∃ u, l[k] = u := ⟨_, rfl⟩
          rw [hx] at c0 c1 c2 c3
          have hnot := rright_c u
          have HX := Lib.hid hx; clear hx
          go_wp2_with fail
          refine (hnot _).mono ?_
          rintro e w2 ⟨rfl, hb2⟩
          have hb2' := hb.trans (hb2.mono hb.size)
          cases hok : okSt u with
          | false =>
            go_wp2_with fail
            go_ret
            refine ⟨?_, hb2'⟩
            have : l.all okSt = false := List.all_eq_false.2 ⟨u, by rw [← HX.out]; exact List.getElem_mem hkl, by simp [hok]⟩
            rw [HE.out, this]
            rfl
          | true =>
            go_wp2_with fail
            refine ⟨⟨k + 1, by omega, by go_num, Lib.hid ?_, hb2'⟩, by simp [intOf]; omega⟩
            intro v hv
            rw [List.take_succ_eq_append_getElem hkl, HX.out] at hv
            rcases List.mem_append.1 hv with hv | hv
            · exact HF.out v hv
            · obtain rfl := List.mem_singleton.1 hv; exact hok
        · obtain rfl : k = n := by omega
          go_wp2_with fail
          go_ret
          refine ⟨?_, hb⟩
          have : l.all okSt = true := List.all_eq_true.2 (fun v hv => HF.out v (by rw [List.take_of_length_le (by have := HLN.out; omega)]; exact hv))
          rw [HE.out, this]
          rfl
    · have hl2 : okList x y z l = false := by rw [hl, decide_eq_false (by have := HLN.out; omega), Bool.false_and]
      have hne : ((n : Int) != (N : Int)) = true := by simp; omega
      have HE := Lib.hid hl2
      clear hl hl2 hq
      go_enter Try.func42, Try.ntmps42
      go_wp2_with fail
      refine (hr _).mono ?_
      rintro e w1 ⟨rfl, hb1⟩
      have hbb := below_then hb0 hb1
      obtain ⟨q0, q1, q2⟩ := hc0.later hb1
      go_wp2_with fail
      go_ret
      exact ⟨by rw [HE.out]; rfl, hbb⟩
end Go.Proofs.Ytpobnbiakneoiaa
