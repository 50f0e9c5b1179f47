import Derived.Test.YtpobnbiakneoiaaDiskY
namespace Go.Proofs.Ytpobnbiakneoiaa
open Go.RowKit Go.Cas
attribute [local go_sem] Oper.semAt_some

set_option maxRecDepth 100000 in
set_option maxHeartbeats 1000000 in
theorem copy_c (b : Nat) (s : DS) (w : World) (h : IsD w b s) (hf : s.fine) : Calls Try.prog 17 #[.pointer (some ⟨b, 0, none⟩)] w fun e w' =>
    e = .returned (.pointer (some ⟨w.heap.size, 0, none⟩)) ∧ IsD w' w.heap.size s ∧ Below w.heap.size w w' := by
  have hn := none_c _ _ _ h.noneIs
  obtain ⟨a0, l0, c0, a1, l1, c1, h⟩ := h
  have g0 := h.g0
  have g1 := h.g1
  have g2 := h.g2
  have g3 := h.g3
  have g4 := h.g4
  have g5 := h.g5
  have g6 := h.g6
  have g7 := h.g7
  go_enter Try.func17, Try.ntmps17
  go_wp2_with fail
  refine hn.mono ?_
  rintro e w' ⟨rfl, rfl⟩
  go_wp2_with fail
  have hN : IsD (w.alloc (.cells #[.int .i64 s.room, .int .i64 s.now, .int .i64 s.left, .slice a0 l0 c0, .int .i64 (s.n0 : Int), .slice a1 l1 c1, .int .i64 (s.n1 : Int), .bool true] 60)) w.heap.size s := by
    have hb := below_alloc w (.cells #[.int .i64 s.room, .int .i64 s.now, .int .i64 s.left, .slice a0 l0 c0, .int .i64 (s.n0 : Int), .slice a1 l1 c1, .int .i64 (s.n1 : Int), .bool true] 60)
    exact DD.isD ⟨heap_alloc_new _ _, h.b0.later hb, h.b1.later hb, fun ad ha h0 => Nat.ne_of_lt (h.b0.lt ha h0), fun ad ha h0 => Nat.ne_of_lt (h.b1.lt ha h0)⟩
  have hbN := below_alloc w (.cells #[.int .i64 s.room, .int .i64 s.now, .int .i64 s.left, .slice a0 l0 c0, .int .i64 (s.n0 : Int), .slice a1 l1 c1, .int .i64 (s.n1 : Int), .bool true] 60)
  clear h g0 g1 g2 g3 g4 g5 g6 g7 hn
  go_loopw [10] (fun i wr => ∃ k : Nat, k ≤ 2 ∧ i = .int .i64 (k : Int) ∧ IsD wr w.heap.size s ∧ Below w.heap.size w wr) (fun i _ => 2 - (intOf i).toNat)
  case atStart => exact ⟨0, by decide, rfl, hN, hbN⟩
  case round =>
    obtain ⟨k, hk, rfl, hd, hbr⟩ := hrel
    clear hN hbN
    obtain ⟨a0', l0', c0', a1', l1', c1', hd⟩ := hd
    obtain rfl | rfl | rfl : k = 0 ∨ k = 1 ∨ k = 2 := by omega
    · have hlen := hd.b0.len
      have hbg : l0' ≤ 2 ^ 40 := by have := hf.2.2.1; have := hf.2.2.2; omega
      have hgc := hd.g3
      clear hlen
      go_wp2_with fail
      refine (clone_c a0' l0' c0' _ hbg wr hd.b0).mono ?_
      rintro e w3 ⟨v3, rfl, ho3, hb3⟩
      obtain ⟨a3, c3, rfl, hs3⟩ := ho3.slice
      have hd3 := hd.later hb3
      have hf3 := hd3.fz 3
      have hg3 := hd3.g3
      have hne3 : ∀ ad', a3 = some ad' → 0 < c3 → ad'.block ≠ w.heap.size := fun ad' had _ => by have h1 := own_block ho3 ad' had; have h2 := hd.lt; omega
      have hd4 := hd3.f0 hs3 hne3
      go_wp2_with fail
      exact ⟨⟨1, by decide, rfl, hd4.isD, (hbr.trans (hb3.mono hbr.size)).setCell (Nat.le_refl _) _⟩, by simp [intOf]⟩
    · have hlen := hd.b1.len
      have hbg : l1' ≤ 2 ^ 40 := by have := hf.2.2.1; have := hf.2.2.2; omega
      have hgc := hd.g5
      clear hlen
      go_wp2_with fail
      refine (clone_c a1' l1' c1' _ hbg wr hd.b1).mono ?_
      rintro e w3 ⟨v3, rfl, ho3, hb3⟩
      obtain ⟨a3, c3, rfl, hs3⟩ := ho3.slice
      have hd3 := hd.later hb3
      have hf3 := hd3.fz 5
      have hg3 := hd3.g5
      have hne3 : ∀ ad', a3 = some ad' → 0 < c3 → ad'.block ≠ w.heap.size := fun ad' had _ => by have h1 := own_block ho3 ad' had; have h2 := hd.lt; omega
      have hd4 := hd3.f1 hs3 hne3
      go_wp2_with fail
      exact ⟨⟨2, by decide, rfl, hd4.isD, (hbr.trans (hb3.mono hbr.size)).setCell (Nat.le_refl _) _⟩, by simp [intOf]⟩
    · go_wp2_with fail
      go_ret
      exact ⟨rfl, hd.isD, hbr⟩
end Go.Proofs.Ytpobnbiakneoiaa
