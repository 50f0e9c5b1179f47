import Derived.Test.YtknndpncdnhnpaaFrA
import Derived.Test.YtknndpncdnhnpaaScope
namespace Go.Proofs.Ytknndpncdnhnpaa
open Go.RowKit Go.Cas
attribute [local go_sem] Oper.semAt_some

/-- A frame: where it begins, its bytes in a block from B0 on. -/
def EFrame (B0 : Nat) (x : Nat × List UInt8) (vs : Array Value) (A : World) : Prop :=
  ∃ a n cap, vs = #[.int .i64 (x.1 : Int), .slice a n cap] ∧ IsB A a n cap x.2 ∧ ∀ ad, a = some ad → B0 ≤ ad.block

theorem callFrames_c (a : Option Addr) (n cap : Nat) (l : List UInt8) (hn : n ≤ 2 ^ 40) (w : World) (h : IsB w a n cap l) : Calls Try.prog 52 #[.slice a n cap] w fun e w' =>
    ∃ B a' n' cap', e = .returned (.func (.func 68) #[] #[.pointer (some ⟨B, 0, none⟩)]) ∧ w.heap.size ≤ B ∧ Box w' B (.slice a' n' cap') ∧ IsB w' a' n' cap' l ∧ (∀ ad, a' = some ad → w.heap.size ≤ ad.block) ∧ Below w.heap.size w w' := by
  go_enter Try.func52, Try.ntmps52
  go_wp2_with fail
  refine (clone_c a n cap l hn _ h).mono ?_
  rintro e w1 ⟨v1, rfl, ho1, hb1⟩
  obtain ⟨a1, n1, c1, rfl, hs1⟩ := ho1.slice'
  go_wp2_with fail
  go_ret
  exact ⟨w1.heap.size, a1, n1, c1, rfl, hb1.size, Box.new _ _ _, hs1.alloc _, own_block ho1, below_then hb1 (below_alloc _ _)⟩

theorem enter_frames1 : ∀ args w, (callFunc 68 args).run Try.prog w = .ok (.enter 68 args) w := enters_of Try.func68 (by kernel_rfl) rfl

set_option maxRecDepth 100000 in
set_option maxHeartbeats 4000000 in
theorem frames_iter (Bs : Nat) (a : Option Addr) (n cap : Nat) (l : List UInt8) (hn : n ≤ 2 ^ 40) (w : World) (h : IsB w a n cap l) (hb : w.cell? ⟨Bs, 0, none⟩ = some (.slice a n cap)) :
    Iter Try.prog 68 #[.pointer (some ⟨Bs, 0, none⟩)] EFrame (framesB l) 0 (RSlice Bs a cap) w := by
  intro L J Jx W hW hsz hJ hJx hY h0
  have hl := h.len
  have hcap := h.le
  have hbW : W.cell? ⟨Bs, 0, none⟩ = some (.slice a n cap) := (hW.cell (Or.inl rfl)).trans hb
  have hBlt : Bs < W.heap.size := World.block_lt_of_cell? W ⟨Bs, 0, none⟩ hbW
  have hsW := hW.isB' h (fun ad ha h0 => Or.inr ⟨h0, ad, ha, rfl⟩)
  have hRlt : ∀ k, RSlice Bs a cap k → k < W.heap.size := by
    rintro k (rfl | ⟨h0, ad, ha, rfl⟩)
    · exact hBlt
    · exact hsW.lt ha h0
  have hfr : framesB l = (framesF (n + 1) 0 l).1 := by rw [framesB, hl]
  refine callsIn_of_wp Try.func68 rfl trivial ?_ rfl
  simp only [Try.ntmps68, List.size_toArray, List.length_cons, List.length_nil, Nat.reduceAdd, Nat.reduceSub, Array.replicate_succ, Array.replicate_zero, List.push_toArray, List.append_toArray, List.nil_append, List.cons_append]
  have HY := Lib.hid hY; clear hY
  refine wpIn_scope_straight ?_
  gi_wp2
  refine wpIn_label ?_
  gi_wp2
  gi_loopw [3] (fun f wr => ∃ (D : List (Nat × List UInt8)) (p m : Nat), p ≤ n ∧ n - p < m ∧ f = .int .i64 (p : Int) ∧ (framesF (n + 1) 0 l).1 = D ++ (framesF m p (l.drop p)).1 ∧ J D.length wr ∧ Hold (RSlice Bs a cap) W wr) (fun f _ => n - (intOf f).toNat)
  case atStart => exact ⟨[], 0, n + 1, by omega, by omega, rfl, by simp, h0, Hold.refl _ _⟩
  case round =>
    obtain ⟨D, p, m, hp, hm, rfl, hD, hj, hh⟩ := hrel
    have hbr := hh.isB' hsW (fun ad ha h0 => Or.inr ⟨h0, ad, ha, rfl⟩)
    have hcell := (hh.cell (i := 0) (Or.inl rfl)).trans hbW
    have hob := openB_bound (l.drop p)
    have hdl : (l.drop p).length = n - p := by rw [List.length_drop, hl]
    obtain ⟨m, rfl⟩ : ∃ m', m = m' + 1 := ⟨m - 1, by omega⟩
    have hu : framesF (m + 1) p (l.drop p) = if (openB (l.drop p)).2.2 = 0 then ((p, (openB (l.drop p)).1) :: (framesF m (p + (openB (l.drop p)).2.1) ((l.drop p).drop (openB (l.drop p)).2.1)).1, (framesF m (p + (openB (l.drop p)).2.1) ((l.drop p).drop (openB (l.drop p)).2.1)).2) else ([], p) := by rw [framesF]
    rw [hu, List.drop_drop] at hD
    clear hu
    have hrest := IsB_rest hbr p (lo := p) rfl hp rfl rfl rfl
    obtain ⟨a1, ha1⟩ : ∃ a1, (if cap = p then a else a.map (fun x => x.add p)) = a1 := ⟨_, rfl⟩
    rw [ha1] at hrest
    have hp1 : (p : Int) ≤ (n : Int) := by omega
    have hopen := open_c a1 (n - p) (cap - p) (l.drop p) (by omega) _ hrest
    have hsize : W.heap.size ≤ _ := hh.size
    rw [← hfr] at hD
    generalize openB (l.drop p) = O at *
    obtain ⟨O1, O2, O3⟩ := O
    rw [hdl] at hob
    dsimp only at hD hob hopen
    gi_wp2_with fail
    refine ⟨trivial, rfl, (callsIn_wide.2 hopen).mono ?_⟩
    rintro e w3 ⟨v3, rfl, ho3, hb3⟩
    obtain ⟨a3, n3, c3, rfl, hs3⟩ := ho3.slice'
    have hj3 := hJ _ _ _ hj (Keep.of_below hb3)
    have hsz3 := hb3.size
    have hh3 := hh.trans (Hold.of_below hb3 (fun k hk => Nat.lt_of_lt_of_le (hRlt k hk) hsize))
    clear hopen hrest ha1
    by_cases h00 : O3 = 0
    · subst h00
      rw [if_pos rfl] at hD
      have hbd := hob.1 rfl
      have hk : D.length < (framesB l).length := by rw [hD]; simp
      have hx : (framesB l)[D.length] = (p, O1) := by
        rw [List.getElem_of_eq hD]
        simp
      obtain ⟨fn, tmps, assign, body, hy, hR⟩ := HY.out D.length hk #[.int .i64 (p : Int), .slice a3 n3 c3] w3 hj3 (by rw [hx]; exact ⟨a3, n3, c3, rfl, hs3, fun ad had => Nat.le_trans hsize (own_block ho3 ad had)⟩) (by omega)
      have HD := Lib.hid hD; clear hD
      have HF := Lib.hid hfr; clear hfr
      have HX := Lib.hid hx; clear hx
      have hW : IntKind.i64.wrap ((p : Int) + (O2 : Int)) = (p : Int) + (O2 : Int) := i64_in (by omega) (by omega)
      gi_wp2
      refine ⟨rfl, hR.mono ?_⟩
      rintro e W3 (⟨rfl, hj4, hh4⟩ | ⟨rfl, hj4, hh4⟩)
      · gi_wp2
        go_roundw
        case rel =>
          refine ⟨D ++ [(p, O1)], p + O2, m, by omega, by omega, by push_cast; rfl, ?_, by simpa using hj4, hh3.trans (hh4.mono fun k hk => Or.inl hk)⟩
          rw [← HF.out, HD.out]; simp
        case measure => simp [intOf]; omega
      · gi_wp2
        simp only [Exit.noGoto]
        go_end0
        exact ⟨⟨_, rfl⟩, .inr ⟨D.length + 1, hk, hj4⟩⟩
    · rw [if_neg h00] at hD
      have hDl : (framesB l).length = D.length := by rw [hD]; simp
      have ex : ((O3 : Int) != 0) = true := by simp; omega
      gi_wp2
      refine ⟨fun f hf => (nomatch hf), ?_⟩
      gi_wp2
      simp only [Exit.noGoto]
      go_end0
      exact ⟨⟨_, rfl⟩, .inl (by rw [hDl]; exact hj3)⟩
end Go.Proofs.Ytknndpncdnhnpaa
