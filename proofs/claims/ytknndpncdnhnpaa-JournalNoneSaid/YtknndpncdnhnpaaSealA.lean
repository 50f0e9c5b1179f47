import Derived.Test.YtknndpncdnhnpaaSumD
namespace Go.Proofs.Ytknndpncdnhnpaa
open Go.RowKit Go.Cas

/-- A call that hands back bytes of its own, and an error. -/
def RetBE (W : World) (l : List UInt8) (no : Nat) (x : Ending) (w : World) : Prop := ∃ v, x = .returned (.tuple #[v, .int .i64 (no : Int)]) ∧ OwnB w W.heap.size 5 v l ∧ Below W.heap.size W w

set_option maxRecDepth 100000 in
set_option maxHeartbeats 1000000 in
theorem seal_ok (a : Option Addr) (n cap : Nat) (l : List UInt8) (hn : n ≤ 65536) (w : World) (h : IsB w a n cap l) : Calls Try.prog 36 #[.slice a n cap] w (RetBE w (frameB l) 0) := by
  have hl := h.len
  have HL := Lib.hid hl; clear hl
  go_enter Try.func36, Try.ntmps36
  go_wp2_with fail
  refine (number_c n (by omega) _).mono ?_
  rintro e w1 ⟨v1, rfl, ho1, hb1⟩
  obtain ⟨a1, n1, c1, rfl, hs1⟩ := ho1.slice'
  have hn1 : n1 ≤ 10 := by rw [← hs1.len]; exact numB_len n
  have h1 := h.later hb1
  have hbb := IsBB.new2 hs1 h1 32
  go_wp2_with fail
  refine (sum_c _ 2 2 _ (by omega) ?_ _ hbb).mono ?_
  · intro x hx
    simp at hx
    rcases hx with rfl | rfl
    · rw [hs1.len]; omega
    · rw [h1.len]; omega
  rintro e w2 ⟨rfl, hb2⟩
  have hb2' : Below w.heap.size w w2 := hb1.trans ((((Below.refl _ w1).alloc (Nat.le_refl _) _).trans (hb2.mono (by simp))).mono hb1.size)
  have hs2 := (hs1.alloc (.cells #[.slice a1 n1 c1, .slice a n cap] 32)).later hb2
  have h2 := (h1.alloc (.cells #[.slice a1 n1 c1, .slice a n cap] 32)).later hb2
  go_wp2_with fail
  refine (four_c _ (crc_lt _) _).mono ?_
  rintro e w3 ⟨v3, rfl, ho3, hb3⟩
  obtain ⟨a3, n3, c3, rfl, hs3⟩ := ho3.slice'
  have hbb3 := IsBB.new3 (hs2.later hb3) (h2.later hb3) hs3 32
  have hb3' : Below w.heap.size w w3 := hb2'.trans (hb3.mono hb2'.size)
  go_wp2_with fail
  refine (concat_c _ 3 3 _ (by omega) ?_ _ hbb3).mono ?_
  · have e1 := hs1.len
    have e2 := h.len
    have e3 := fourB_len (crc (numB n ++ l))
    simp only [List.flatten_cons, List.flatten_nil, List.length_append, List.length_nil] at e3 ⊢
    omega
  rintro e w4 ⟨v4, rfl, ho4, hb4⟩
  go_wp2
  go_ret2
  refine ⟨v4, rfl, ?_, hb3'.trans ((((Below.refl _ w3).alloc (Nat.le_refl _) _).trans (hb4.mono (by simp))).mono hb3'.size)⟩
  have hf : [numB n, l, fourB (crc (numB n ++ l))].flatten = frameB l := by
    rw [frameB, HL.out]
    simp
  rw [hf] at ho4
  exact ho4.mono (by have := hb3'.size; simp; omega)

set_option maxRecDepth 100000 in
theorem seal_long (a : Option Addr) (n cap : Nat) (hn : 65536 < n) (hn2 : n ≤ 2 ^ 40) (w : World) : Calls Try.prog 36 #[.slice a n cap] w (RetBE w [] 3) := by
  go_enter Try.func36, Try.ntmps36
  go_wp2
  go_ret2
  exact ⟨_, rfl, World.ownsRow_nil _ _ _ _, Below.refl _ _⟩

set_option maxRecDepth 100000 in
set_option maxHeartbeats 1000000 in
theorem refSeal_ok (a : Option Addr) (n cap : Nat) (l : List UInt8) (hn : n ≤ 65536) (w : World) (h : IsB w a n cap l) : Calls Try.prog 55 #[.slice a n cap] w (RetBE w (frameB l) 0) := by
  have hl := h.len
  have HL := Lib.hid hl; clear hl
  go_enter Try.func55, Try.ntmps55
  go_wp2_with fail
  refine (refNumber_c n (by omega) _).mono ?_
  rintro e w1 ⟨v1, rfl, ho1, hb1⟩
  obtain ⟨a1, n1, c1, rfl, hs1⟩ := ho1.slice'
  have hn1 : n1 ≤ 10 := by rw [← hs1.len]; exact numB_len n
  have h1 := h.later hb1
  have hz1 := hb1.size
  go_wp2_with (at_builtin; refine wpList_append_bs rfl _ _ 32 rfl w.heap.size 5 _ Try.underlying32 infoU8 rfl _ rfl ho1 _ n cap l rfl h1 (by omega) (by omega) ?_; intro a2 cap2 w2 ho2 hb2 _)
  have hb2' := hb1.trans hb2
  obtain hs2 := ho2.isB
  go_wp2_with fail
  refine (refSum_c a2 _ cap2 _ (by omega) _ hs2).mono ?_
  rintro e w3 ⟨rfl, rfl⟩
  go_wp2_with fail
  refine (refFour_c _ (crc_lt _) _).mono ?_
  rintro e w4 ⟨v4, rfl, ho4, hb4⟩
  obtain ⟨a4, n4, c4, rfl, hs4⟩ := ho4.slice'
  have hn4 : n4 = 4 := by rw [← hs4.len]; exact fourB_len _
  subst hn4
  have hz4 := hb4.size
  have hz2 := hb2.size
  have ho2' := ho2.later hb4
  go_wp2_with (at_builtin; refine wpList_append_bs rfl _ _ 32 rfl w.heap.size 5 _ Try.underlying32 infoU8 rfl _ rfl ho2' _ 4 c4 _ rfl hs4 (by omega) (by omega) ?_; intro a5 cap5 w5 ho5 hb5 _)
  go_ret2
  refine ⟨_, rfl, ?_, (hb2'.trans (hb4.mono hb2'.size)).trans hb5⟩
  have hf : numB n ++ l ++ fourB (crc (numB n ++ l)) = frameB l := by rw [frameB, HL.out]
  rw [hf] at ho5
  exact ho5

set_option maxRecDepth 100000 in
theorem refSeal_long (a : Option Addr) (n cap : Nat) (hn : 65536 < n) (hn2 : n ≤ 2 ^ 40) (w : World) : Calls Try.prog 55 #[.slice a n cap] w (RetBE w [] 3) := by
  go_enter Try.func55, Try.ntmps55
  go_wp2
  go_ret2
  exact ⟨_, rfl, World.ownsRow_nil _ _ _ _, Below.refl _ _⟩
end Go.Proofs.Ytknndpncdnhnpaa
