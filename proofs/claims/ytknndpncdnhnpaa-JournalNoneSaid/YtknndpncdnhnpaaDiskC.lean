import Derived.Test.YtknndpncdnhnpaaDiskB
namespace Go.Proofs.Ytknndpncdnhnpaa
open Go.RowKit Go.Cas

section
variable {w w' : World} {b : Nat} {s : DS} {a0 a1 : Option Addr} {l0 c0 l1 c1 : Nat}
theorem DD.set (h : DD w b s a0 l0 c0 a1 l1 c1) (i : Nat) (v : Value) {s' : DS} {a0' a1' : Option Addr} {l0' c0' l1' c1' : Nat}
    (hv : (#[.int .i64 s.room, .int .i64 s.now, .int .i64 s.left, .slice a0 l0 c0, .int .i64 (s.n0 : Int), .slice a1 l1 c1, .int .i64 (s.n1 : Int), .bool true] : Array Value).setIfInBounds i v = #[.int .i64 s'.room, .int .i64 s'.now, .int .i64 s'.left, .slice a0' l0' c0', .int .i64 (s'.n0 : Int), .slice a1' l1' c1', .int .i64 (s'.n1 : Int), .bool true])
    (h0 : IsB w a0' l0' c0' s'.f0) (h1 : IsB w a1' l1' c1' s'.f1) (n0 : ∀ ad, a0' = some ad → 0 < c0' → ad.block ≠ b) (n1 : ∀ ad, a1' = some ad → 0 < c1' → ad.block ≠ b) : DD (w.setCell ⟨b, i, none⟩ v) b s' a0' l0' c0' a1' l1' c1' := by
  refine ⟨?_, h0.grown' (grown_set w b i v) (fun ad ha hc e => n0 ad ha hc (Option.some.inj e)), h1.grown' (grown_set w b i v) (fun ad ha hc e => n1 ad ha hc (Option.some.inj e)), n0, n1⟩
  rw [← hv]
  simp [World.setCell, Array.getElem?_modify, h.heap]
theorem DD.left (h : DD w b s a0 l0 c0 a1 l1 c1) (x : Int) : DD (w.setCell ⟨b, 2, none⟩ (.int .i64 x)) b { s with left := x } a0 l0 c0 a1 l1 c1 := h.set 2 _ rfl h.b0 h.b1 h.ne0 h.ne1
theorem DD.now (h : DD w b s a0 l0 c0 a1 l1 c1) (x : Int) : DD (w.setCell ⟨b, 1, none⟩ (.int .i64 x)) b { s with now := x } a0 l0 c0 a1 l1 c1 := h.set 1 _ rfl h.b0 h.b1 h.ne0 h.ne1
theorem DD.n0 (h : DD w b s a0 l0 c0 a1 l1 c1) (x : Nat) : DD (w.setCell ⟨b, 4, none⟩ (.int .i64 (x : Int))) b { s with n0 := x } a0 l0 c0 a1 l1 c1 := h.set 4 _ rfl h.b0 h.b1 h.ne0 h.ne1
theorem DD.n1 (h : DD w b s a0 l0 c0 a1 l1 c1) (x : Nat) : DD (w.setCell ⟨b, 6, none⟩ (.int .i64 (x : Int))) b { s with n1 := x } a0 l0 c0 a1 l1 c1 := h.set 6 _ rfl h.b0 h.b1 h.ne0 h.ne1
theorem DD.f0 (h : DD w b s a0 l0 c0 a1 l1 c1) {a : Option Addr} {n c : Nat} {f : List UInt8} (hs : IsB w a n c f) (hn : ∀ ad, a = some ad → 0 < c → ad.block ≠ b) : DD (w.setCell ⟨b, 3, none⟩ (.slice a n c)) b { s with f0 := f } a n c a1 l1 c1 := h.set 3 _ rfl hs h.b1 hn h.ne1
theorem DD.f1 (h : DD w b s a0 l0 c0 a1 l1 c1) {a : Option Addr} {n c : Nat} {f : List UInt8} (hs : IsB w a n c f) (hn : ∀ ad, a = some ad → 0 < c → ad.block ≠ b) : DD (w.setCell ⟨b, 5, none⟩ (.slice a n c)) b { s with f1 := f } a0 l0 c0 a n c := h.set 5 _ rfl h.b0 hs h.ne0 hn
end
/-- an act is counted -/
def decr (x : Int) : Int := if 0 < x then x - 1 else x
/-- A world grown by what happens at the disk's block. -/
theorem grown_of_below {w w' : World} {r : Option Nat} (h : Below w.heap.size w w') : w.grownBy w' r := ⟨h.os, h.tape, h.output, h.size, fun k hk _ => h.block k hk⟩
theorem grown_refl' (w : World) (r : Option Nat) : w.grownBy w r := World.grownBy.refl _ _

theorem acts_c (b : Nat) (s : DS) (w : World) (h : IsD w b s) (hb : LeftOk s.left) : Calls Try.prog 63 #[.pointer (some ⟨b, 0, none⟩)] w fun e w' => e = .returned (.tuple #[]) ∧ IsD w' b { s with left := decr s.left } ∧ w.grownBy w' (some b) := by
  obtain ⟨a0, l0, c0, a1, l1, c1, h⟩ := h
  have hc := h.g2
  have hf := h.fz 2
  by_cases hl : 0 < s.left
  · have hw : IntKind.i64.wrap (s.left - 1) = s.left - 1 := Go.IntWalk.i64_in _ (hb.dec hl)
    go_enter Try.func63, Try.ntmps63
    go_wp2
    go_end0
    refine ⟨rfl, ?_, grown_set _ _ _ _⟩
    rw [decr, if_pos hl]
    exact (h.left _).isD
  · have hd : decr s.left = s.left := if_neg hl
    go_enter Try.func63, Try.ntmps63
    go_wp2
    go_end0
    exact ⟨rfl, h.isD, grown_refl' _ _⟩

set_option maxRecDepth 100000 in
theorem act_no (v dv : Value) (a : Option Addr) (n cap : Nat) (l : List (Bool × Int)) (hn : n ≤ 2 ^ 40) (w : World) (hl : l.length = n) (h : Sl w 2 a n cap (askV l)) (hno : firstA l ≠ 0) :
    Calls Try.prog 40 #[v, dv, .slice a n cap] w fun e w' => e = .returned (.int .i64 (firstA l)) ∧ Below w.heap.size w w' := by
  have hfi := first_c a n cap l hn w hl h
  generalize firstA l = no at *
  have hne : (no != 0) = true := by simpa using hno
  have HF := Lib.hid hfi; clear hfi
  have HL := Lib.hid hl; clear hl
  go_enter Try.func40, Try.ntmps40
  go_wp2_with fail
  refine wp_scope_ahead 0 (fun a1 w1 => ∃ u0 u1 u2 u3 u4 u5 u7 u8 u9 u10 u11 u12 u13 u14 u15 u16 u17 u18 u19 u20 u21 u22 u23, a1 = { tmps := #[u0, u1, u2, u3, u4, u5, .int .i64 no, u7, u8, u9, u10, u11, u12, u13, u14, u15, u16, u17, u18, u19, u20, u21, u22, u23], defers := [] } ∧ Below w.heap.size w w1) rfl ?_ ?_
  · go_wp2_with fail
    refine HF.out.mono ?_
    rintro e w1 ⟨rfl, hb1⟩
    go_wp2_with fail
    go_step3
    simp only [Exit.then]
    exact ⟨rfl, _, _, _, _, _, _, _, _, _, _, _, _, _, _, _, _, _, _, _, _, _, _, _, rfl, hb1⟩
  · rintro a1 w1 ⟨u0, u1, u2, u3, u4, u5, u7, u8, u9, u10, u11, u12, u13, u14, u15, u16, u17, u18, u19, u20, u21, u22, u23, rfl, hb⟩
    go_wp2_with fail
    simp only [jump_ret]
    go_ret
    exact ⟨rfl, hb⟩
set_option maxRecDepth 100000 in
theorem act_stop (b : Nat) (s : DS) (dv : Value) (a : Option Addr) (n cap : Nat) (l : List (Bool × Int)) (hn : n ≤ 2 ^ 40) (w : World) (hd : IsD w b s) (hl : l.length = n) (h : Sl w 2 a n cap (askV l)) (hno : firstA l = 0) (h0 : s.left = 0) :
    Calls Try.prog 40 #[.pointer (some ⟨b, 0, none⟩), dv, .slice a n cap] w fun e w' => e = .returned (.int .i64 171) ∧ Below w.heap.size w w' := by
  have hfi := first_c a n cap l hn w hl h
  rw [hno] at hfi
  have HF := Lib.hid hfi; clear hfi
  have HL := Lib.hid hl; clear hl
  have HN := Lib.hid hno; clear hno
  have H0 := Lib.hid h0; clear h0
  go_enter Try.func40, Try.ntmps40
  go_wp2_with fail
  refine wp_scope_ahead 0 (fun a1 w1 => ∃ u0 u1 u2 u3 u4 u5 u7 u8 u9 u10 u11 u12 u13 u14 u15 u16 u17 u18 u19 u20 u21 u22 u23, a1 = { tmps := #[u0, u1, u2, u3, u4, u5, .int .i64 171, u7, u8, u9, u10, u11, u12, u13, u14, u15, u16, u17, u18, u19, u20, u21, u22, u23], defers := [] } ∧ Below w.heap.size w w1) rfl ?_ ?_
  · go_wp2_with fail
    refine HF.out.mono ?_
    rintro e w1 ⟨rfl, hb1⟩
    obtain ⟨a0, l0, c0, a1, l1, c1, hd1⟩ := hd.later hb1
    have hc := hd1.g2
    rw [H0.out] at hc
    go_wp2_with fail
    go_step3
    simp only [Exit.then]
    exact ⟨rfl, _, _, _, _, _, _, _, _, _, _, _, _, _, _, _, _, _, _, _, _, _, _, _, rfl, hb1⟩
  · rintro a1 w1 ⟨u0, u1, u2, u3, u4, u5, u7, u8, u9, u10, u11, u12, u13, u14, u15, u16, u17, u18, u19, u20, u21, u22, u23, rfl, hb⟩
    go_wp2_with fail
    simp only [jump_ret]
    go_ret
    exact ⟨rfl, hb⟩
set_option maxRecDepth 100000 in
theorem act_do (b : Nat) (s : DS) (g : FuncId) (cs : Array Value) (a : Option Addr) (n cap : Nat) (l : List (Bool × Int)) (hn : n ≤ 2 ^ 40) (w : World) (hd : IsD w b s) (hsl : LeftOk s.left) (hl : l.length = n) (h : Sl w 2 a n cap (askV l)) (hno : firstA l = 0) (h0 : s.left ≠ 0)
    (eg : ∀ args w, (callFunc g args).run Try.prog w = .ok (.enter g args) w) (R : World → Prop)
    (hdo : ∀ w1, IsD w1 b { s with left := decr s.left } → w.grownBy w1 (some b) → Calls Try.prog g cs w1 fun e w2 => e = .returned (.tuple #[]) ∧ R w2) :
    Calls Try.prog 40 #[.pointer (some ⟨b, 0, none⟩), .func (.func g) #[] cs, .slice a n cap] w fun e w' => e = .returned (.int .i64 0) ∧ R w' := by
  have hfi := first_c a n cap l hn w hl h
  rw [hno] at hfi
  have HF := Lib.hid hfi; clear hfi
  have HL := Lib.hid hl; clear hl
  have HN := Lib.hid hno; clear hno
  have hne : (s.left == 0) = false := by simpa using h0
  have HD := Lib.hid hdo; clear hdo
  go_enter Try.func40, Try.ntmps40
  go_wp2_with fail
  refine wp_scope_straight ?_
  go_wp2_with fail
  refine HF.out.mono ?_
  rintro e w1 ⟨rfl, hb1⟩
  have hd1 := hd.later hb1
  have hac := acts_c b s w1 hd1 hsl
  obtain ⟨a0, l0, c0, a1, l1, c1, hd2⟩ := hd1
  have hc := hd2.g2
  have HA := Lib.hid hac; clear hac
  go_wp2_with fail
  refine HA.out.mono ?_
  rintro e w2 ⟨rfl, hd3, hg⟩
  go_wp2_with fail
  refine (HD.out w2 hd3 (grown_trans (grown_of_below hb1) hg)).mono ?_
  rintro e w3 ⟨rfl, hR⟩
  go_wp2_with fail
  rw [Exit.noGoto_ret]
  go_ret
  exact ⟨rfl, hR⟩
end Go.Proofs.Ytknndpncdnhnpaa
