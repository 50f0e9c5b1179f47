import Derived.Test.YtknndpncdnhnpaaOctC
namespace Go.Proofs.Ytknndpncdnhnpaa
open Go.RowKit Go.Cas

set_option maxHeartbeats 1000000 in
set_option maxRecDepth 100000 in
theorem readOf_c (a : Option Addr) (n cap : Nat) (l : List UInt8) (hn : n ≤ 2 ^ 40) (w : World) (h : IsB w a n cap l) :
    Calls Try.prog 82 #[.slice a n cap, .func (.func 83) #[] #[]] w fun e w' => e = .returned (.tuple #[.int .u64 ((readN l).1 : Int), .int .i64 ((readN l).2.1 : Int), .int .i64 ((readN l).2.2 : Int)]) ∧ Below w.heap.size w w' := by
  have hb := readN_bound l
  go_enter Try.func82, Try.ntmps82
  go_wp2_with fail
  have hr0 : Rd (w.alloc (.cells #[.slice a n cap, .int .i64 0] 147)) w.heap.size a n cap 0 := heap_alloc_new w _
  refine (rdnum_c w.heap.size a n cap l _ hn hr0 (h.alloc _) (fun ad e h0 => by have := h.lt e h0; omega)).mono ?_
  rintro e w1 ⟨j, rfl, hr1, hg1, hj⟩
  have hb1 : Below w.heap.size w w1 := ((Below.refl _ w).alloc (Nat.le_refl _) _).grown hg1 (by simp) (fun k e => by cases e; exact Nat.le_refl _)
  have hc1 := hr1.c1
  generalize hR : readN l = R at hb hj ⊢
  obtain ⟨v, u, x⟩ := R
  have HR := Lib.hid hR; clear hR
  dsimp only at hb hj ⊢
  have HB := Lib.hid hb; clear hb
  have HJ := Lib.hid hj; clear hj
  by_cases e0 : x = 0
  · subst e0
    obtain rfl := HJ.out rfl
    go_wp2
    go_quiet (fail)
    go_wp2
    go_ret3
    rw [HR.out]
    exact ⟨rfl, below_drewN hb1 _⟩
  · have e1 : ((x : Int) != 0) = true := by simp; omega
    have hz := (HB.out.2.2.2.1 e0)
    obtain ⟨rfl, rfl⟩ := hz
    clear e0
    go_wp2
    go_ret3
    rw [HR.out]
    exact ⟨rfl, hb1⟩

set_option maxRecDepth 100000 in
theorem read_c (a : Option Addr) (n cap : Nat) (l : List UInt8) (hn : n ≤ 2 ^ 40) (w : World) (h : IsB w a n cap l) :
    Calls Try.prog 72 #[.slice a n cap] w fun e w' => e = .returned (.tuple #[.int .u64 ((readN l).1 : Int), .int .i64 ((readN l).2.1 : Int), .int .i64 ((readN l).2.2 : Int)]) ∧ Below w.heap.size w w' := by
  go_enter Try.func72, Try.ntmps72
  go_wp2_with fail
  refine (readOf_c a n cap l hn _ h).mono ?_
  rintro e w1 ⟨rfl, hb1⟩
  go_wp2
  go_ret3
  exact ⟨rfl, hb1⟩
end Go.Proofs.Ytknndpncdnhnpaa
