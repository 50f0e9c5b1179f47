import Derived.Test.YtknndpncdnhnpaaSealE
namespace Go.Proofs.Ytknndpncdnhnpaa
open Go.RowKit Go.Cas

theorem infoI64 : (Try.prog.info? 3).map (fun i => (i.zero, i.size, i.bytes)) = some (some (.int .i64 0), 1, 8) := by kernel_rfl
theorem infoBB : (Try.prog.info? 32).map (fun i => (i.zero, i.size, i.bytes)) = some (some (.slice none 0 0), 1, 24) := by kernel_rfl

def ints (D : List (Nat × List UInt8)) : List Value := D.map fun p => .int .i64 (p.1 : Int)
/-- slices, each of these bytes, none in a block from B on. -/
def Subs (w : World) (B : Nat) (vs : List Value) (ls : List (List UInt8)) : Prop :=
  vs.length = ls.length ∧ ∀ i, i < ls.length → ∃ a n cap, vs[i]? = some (.slice a n cap) ∧ IsB w a n cap (ls.getD i []) ∧ ∀ ad, a = some ad → ad.block < B
theorem Subs.keep {w w' : World} {B : Nat} {vs : List Value} {ls : List (List UInt8)} (h : Subs w B vs ls) (hb : Below B w w') : Subs w' B vs ls :=
  ⟨h.1, fun i hi => by obtain ⟨a, n, cap, h1, h2, h3⟩ := h.2 i hi; exact ⟨a, n, cap, h1, h2.below hb h3, h3⟩⟩
theorem Subs.push {w : World} {B : Nat} {vs : List Value} {ls : List (List UInt8)} (h : Subs w B vs ls) {a : Option Addr} {n cap : Nat} {l : List UInt8} (hs : IsB w a n cap l) (ha : ∀ ad, a = some ad → ad.block < B) :
    Subs w B (vs ++ [.slice a n cap]) (ls ++ [l]) := by
  refine ⟨by simp [h.1], fun i hi => ?_⟩
  rw [List.length_append, List.length_singleton] at hi
  by_cases hlt : i < ls.length
  · obtain ⟨a', n', cap', h1, h2, h3⟩ := h.2 i hlt
    refine ⟨a', n', cap', by rw [List.getElem?_append_left (by rw [h.1]; exact hlt)]; exact h1, ?_, h3⟩
    rwa [show (ls ++ [l]).getD i [] = ls.getD i [] from by simp [List.getD, List.getElem?_append_left hlt]]
  · obtain rfl : i = ls.length := by omega
    refine ⟨a, n, cap, by rw [← h.1]; simp, ?_, ha⟩
    rwa [show (ls ++ [l]).getD ls.length [] = l from by simp [List.getD]]

/-- The document's frames: where each begins, its bytes, and where they end. -/
def RetFr (W : World) (B : Nat) (l : List UInt8) (x : Ending) (w : World) : Prop :=
  ∃ v1 v2 vs, x = .returned (.tuple #[v1, v2, .int .i64 (wholeB l : Int)]) ∧ w.ownsRow W.heap.size 3 1 v1 (framesB l).length (ints (framesB l)) ∧ w.ownsRow W.heap.size 32 1 v2 (framesB l).length vs ∧ Subs w B vs ((framesB l).map Prod.snd) ∧ Below W.heap.size W w

set_option maxRecDepth 100000 in
set_option maxHeartbeats 4000000 in
theorem refFrames_c (a : Option Addr) (n cap : Nat) (l : List UInt8) (hn : n ≤ 2 ^ 40) (w : World) (h : IsB w a n cap l) : Calls Try.prog 66 #[.slice a n cap] w (RetFr w w.heap.size l) := by
  have hl := h.len
  go_enter Try.func66, Try.ntmps66
  go_wp2_with fail
  go_loopw [5, 6, 7] (fun v1 v2 f wr => ∃ (D : List (Nat × List UInt8)) (vs : List Value) (p m : Nat), p ≤ n ∧ n - p < m ∧ f = .int .i64 (p : Int) ∧ framesF (n + 1) 0 l = (D ++ (framesF m p (l.drop p)).1, (framesF m p (l.drop p)).2) ∧ D.length ≤ p ∧
    wr.ownsRow w.heap.size 3 1 v1 D.length (ints D) ∧ wr.ownsRow w.heap.size 32 1 v2 D.length vs ∧ Subs wr w.heap.size vs (D.map Prod.snd) ∧ Below w.heap.size w wr) (fun _ _ f _ => n - (intOf f).toNat)
  case atStart => exact ⟨[], [], 0, n + 1, by omega, by omega, rfl, by simp, by simp, World.ownsRow_nil _ _ _ _, World.ownsRow_nil _ _ _ _, ⟨rfl, fun i hi => by simp at hi⟩, Below.refl _ _⟩
  case round =>
    obtain ⟨D, vs, p, m, hp, hm, rfl, hD, hDp, ho1, ho2, hS, hB⟩ := hrel
    have hbr := h.later hB
    have hcap := h.le
    have hob := openB_bound (l.drop p)
    have hdl : (l.drop p).length = n - p := by rw [List.length_drop, hl]
    obtain ⟨m, rfl⟩ : ∃ m', m = m' + 1 := ⟨m - 1, by omega⟩
    have hu : framesF (m + 1) p (l.drop p) = if (openB (l.drop p)).2.2 = 0 then ((p, (openB (l.drop p)).1) :: (framesF m (p + (openB (l.drop p)).2.1) ((l.drop p).drop (openB (l.drop p)).2.1)).1, (framesF m (p + (openB (l.drop p)).2.1) ((l.drop p).drop (openB (l.drop p)).2.1)).2) else ([], p) := by rw [framesF]
    rw [hu] at hD
    clear hu
    have hrest := IsB_rest hbr p (lo := p) rfl hp rfl rfl rfl
    have hat : 0 < cap - p → ∀ ad, (if cap = p then a else a.map (fun x => x.add p)) = some ad → ad.block < w.heap.size := by
      intro hcp ad had
      split at had
      · omega
      · cases ha : a with
        | none => rw [ha] at had; cases had
        | some x =>
          rw [ha] at had
          obtain rfl := Option.some.inj had
          have := h.lt ha (by omega)
          show (x.add p).block < _
          have hx : (x.add p).block = x.block := by unfold Addr.add; split <;> simp_all
          omega
    obtain ⟨a1, ha1⟩ : ∃ a1, (if cap = p then a else a.map (fun x => x.add p)) = a1 := ⟨_, rfl⟩
    rw [ha1] at hrest hat
    have hp1 : (p : Int) ≤ (n : Int) := by omega
    go_wp2_with fail
    refine (refOpen_at a1 _ _ (l.drop p) (by omega) _ hrest).mono ?_
    rintro e w3 ⟨a3, n3, c3, rfl, hs3, hat3, hb3⟩
    have hat3' : 0 < cap - p → ∀ ad, a3 = some ad → ad.block < w.heap.size := fun hcp ad had => by
      obtain ⟨ad0, h1, h2⟩ := hat3 ad had
      rw [h2]; exact hat hcp ad0 h1
    have hB3 := hB.trans (hb3.mono hB.size)
    have ho1' := ownsRow_later ho1 hb3
    have ho2' := ownsRow_later ho2 hb3
    have hS3 := hS.keep (hb3.mono hB.size)
    clear hat hat3 hrest ha1 ho1 ho2 hS
    have hfr : framesB l = (framesF (n + 1) 0 l).1 := by rw [framesB, hl]
    have hwh : wholeB l = (framesF (n + 1) 0 l).2 := by rw [wholeB, hl]
    have hdd : (l.drop p).drop (openB (l.drop p)).2.1 = l.drop (p + (openB (l.drop p)).2.1) := by rw [List.drop_drop]
    rw [hdd] at hD
    obtain ⟨O1, O2, O3, hO⟩ : ∃ O1 O2 O3, openB (l.drop p) = (O1, O2, O3) := ⟨_, _, _, rfl⟩
    rw [hO] at hD hs3 hob ⊢
    rw [hdl] at hob
    dsimp only at hD hs3 hob ⊢
    clear hO hdd
    by_cases h0 : O3 = 0
    · subst h0
      have hbd := hob.1 rfl
      replace hat3' := hat3' (by omega)
      rw [if_pos rfl] at hD
      have HD := Lib.hid hD; clear hD
      have HF := Lib.hid hfr; clear hfr
      have HW := Lib.hid hwh; clear hwh
      have hW : IntKind.i64.wrap ((p : Int) + (O2 : Int)) = (p : Int) + (O2 : Int) := i64_in (by omega) (by omega)
      have ho1a := ownsRow_later ho1' (below_alloc w3 (.cells #[.int .i64 (p : Int)] 3))
      have ho2a := ownsRow_later ho2' (below_alloc w3 (.cells #[.int .i64 (p : Int)] 3))
      have hsl1 := Sl.new w3 #[.int .i64 (p : Int)] 3 1 rfl (by decide)
      have hB3a := hB3.trans ((below_alloc w3 (.cells #[.int .i64 (p : Int)] 3)).mono hB3.size)
      have tok : True := trivial
      go_wp2_with (first
        | (at_builtin; have _t := tok; refine wpList_append_sl rfl _ _ 113 rfl w.heap.size 3 _ 1 8 Try.underlying113 infoI64 rfl (by decide) u5 D.length (ints D) rfl ho1a _ 1 1 _ rfl hsl1 (by intro u hu; simp at hu; subst hu; rfl) (by omega) (by unfold maxLen; omega) (by have := hB3a.size; omega) ?_; intro a4 cap4 w4 ho4 hg4 _; clear tok; have hB4 := hB3a.grown hg4 (by have := hB3a.size; omega) (fun k hk => (World.ownsRow.lt ho1a k hk).1); have ho2c := ownsRow_later (ownsRow_grown ho2a ho1a (by decide) hg4) (below_alloc w4 (.cells #[.slice a3 n3 c3] 32)); have ho4c := ownsRow_later ho4 (below_alloc w4 (.cells #[.slice a3 n3 c3] 32)); have hsl2 := Sl.new w4 #[.slice a3 n3 c3] 32 1 rfl (by decide); have hB4a := hB4.trans ((below_alloc w4 (.cells #[.slice a3 n3 c3] 32)).mono hB4.size))
        | (at_builtin; refine wpList_append_sl rfl _ _ 47 rfl w.heap.size 32 _ 1 24 Try.underlying47 infoBB rfl (by decide) u6 D.length vs rfl ho2c _ 1 1 _ rfl hsl2 (by intro u hu; simp at hu; subst hu; rfl) (by omega) (by unfold maxLen; omega) (by have := hB4a.size; omega) ?_; intro a5 cap5 w5 ho5 hg5 _))
      have hB5 := hB4a.grown hg5 (by have := hB4a.size; omega) (fun k hk => (World.ownsRow.lt ho2c k hk).1)
      have ho4d := ownsRow_grown ho4c ho2c (by decide) hg5
      have hz35 : w3.heap.size ≤ w5.heap.size := by have h2 := hg4.size; have h3 := hg5.size; rw [World.size_alloc] at h2 h3; omega
      have hS5 := (hS3.keep (w' := w5) ⟨hB5.os.trans hB3.os.symm, hB5.tape.trans hB3.tape.symm, hB5.output.trans hB3.output.symm, hz35, fun k hk => (hB5.block k hk).trans (hB3.block k hk).symm⟩)
      have hs5 : IsB w5 a3 n3 c3 O1 := hs3.below (B := w.heap.size) ⟨hB5.os.trans hB3.os.symm, hB5.tape.trans hB3.tape.symm, hB5.output.trans hB3.output.symm, hz35, fun k hk => (hB5.block k hk).trans (hB3.block k hk).symm⟩ hat3'
      have hpush := hS5.push hs5 hat3'
      go_roundw
      case rel =>
        refine ⟨D ++ [(p, O1)], vs ++ [.slice a3 n3 c3], p + O2, m, by omega, by omega, by push_cast; rfl, ?_, by simp; omega, ?_, ?_, ?_, hB5⟩
        · rw [HD.out]; simp
        · rw [List.length_append]; simpa [ints] using ho4d
        · rw [List.length_append]; simpa using ho5
        · simpa using hpush
      case measure => simp [intOf]; omega
    · rw [if_neg h0] at hD
      rw [hD] at hfr hwh
      have ex : ((O3 : Int) != 0) = true := by simp; omega
      go_wp2_with fail
      go_ret3
      refine ⟨u5, u6, vs, by rw [hwh]; rfl, ?_, ?_, ?_, hB3⟩
      · rw [hfr]; simpa using ho1'
      · rw [hfr]; simpa using ho2'
      · rw [hfr]; simpa using hS3
end Go.Proofs.Ytknndpncdnhnpaa
