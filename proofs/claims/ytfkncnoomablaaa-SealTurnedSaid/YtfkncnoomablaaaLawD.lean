import Derived.Test.YtfkncnoomablaaaLawC
import Derived.Test.YtfkncnoomablaaaPlainB
namespace Go.Proofs.Ytfkncnoomablaaa
open Go.RowKit Go.Cas

/-- A row of the call's own that is not empty, opened. -/
theorem own_open {w : World} {base : Nat} {e : TypeId} {a : Option Addr} {n cap : Nat} {l : List UInt8} (h : OwnB w base e (.slice a n cap) l) (hn : 0 < n) :
    ∃ g cs, a = some ⟨g, 0, none⟩ ∧ base ≤ g ∧ w.heap[g]? = some (.cells cs e (0, 0)) ∧ n ≤ cap ∧ cap ≤ maxLen ∧ cs.size = cap ∧ cs.toList.take n = bvs l := by
  have hl := h.len
  obtain ⟨h1, ⟨hv, h2⟩ | ⟨g, c, cur, hv, hb, hg, hle, hm, hs, ht⟩⟩ := h
  · simp only [Value.slice.injEq] at hv; omega
  · simp only [Value.slice.injEq] at hv
    obtain ⟨rfl, rfl, rfl⟩ := hv
    refine ⟨g, cur, rfl, hb, hg, by omega, hm, by omega, ?_⟩
    rw [hl, Nat.mul_one] at ht
    exact ht

theorem own_cell {w : World} {g n : Nat} {cs : Array Value} {e : TypeId} {l : List UInt8} {i : Nat} (hh : w.heap[g]? = some (.cells cs e (0, 0))) (ht : cs.toList.take n = bvs l) (hi : i < n ∧ i < l.length) :
    w.cell? ⟨g, i, none⟩ = some (.int .u8 ((l.getD i 0).toNat : Int)) := by
  have h1 := congrArg (fun x => x[i]?) ht
  simp only [List.getElem?_take, if_pos hi.1] at h1
  rw [bvs_get l hi.2] at h1
  simp only [World.cell?, hh]
  rw [← h1]
  simp
theorem own_set {w : World} {g n cap : Nat} {cs : Array Value} {e : TypeId} {l : List UInt8} {i : Nat} (hh : w.heap[g]? = some (.cells cs e (0, 0))) (ht : cs.toList.take n = bvs l) (hs : cs.size = cap) (hle : n ≤ cap) (hm : cap ≤ maxLen)
    (hl : l.length = n) (y : UInt8) : IsB (w.setCell ⟨g, i, none⟩ (.int .u8 (y.toNat : Int))) (some ⟨g, 0, none⟩) n cap (l.set i y) := by
  refine ⟨by rw [bvs_len, List.length_set]; omega, hle, hm, (fun h => nomatch h), fun ad had => ?_⟩
  obtain rfl := Option.some.inj had
  refine ⟨rfl, cs.setIfInBounds i (.int .u8 (y.toNat : Int)), e, (0, 0), by simp [World.setCell, Array.getElem?_modify, hh], fun _ => ?_, fun j hj => ?_⟩
  · show 0 + cap * 1 ≤ _
    rw [Array.size_setIfInBounds]; omega
  · show (cs.setIfInBounds i _)[0 + j]? = _
    have h1 : bvs (l.set i y) = (bvs l).set i (bv y) := by rw [bvs, bvs, List.map_set]
    have hc : cs.toList.length = cap := by rw [Array.length_toList, hs]
    rw [h1, ← ht, Nat.zero_add, ← Array.getElem?_toList, Array.toList_setIfInBounds]
    by_cases hij : i = j
    · subst hij
      rw [List.getElem?_set_self (by omega), List.getElem?_set_self (by rw [List.length_take]; omega)]
      rfl
    · rw [List.getElem?_set_ne hij, List.getElem?_set_ne hij, List.getElem?_take, if_pos (by omega)]
theorem own_fz {w : World} {g : Nat} {cs : Array Value} {e : TypeId} (i : Nat) (hh : w.heap[g]? = some (.cells cs e (0, 0))) : w.frozen? ⟨g, i, none⟩ = false := by
  simp [World.frozen?, hh]

set_option maxRecDepth 100000 in
set_option maxHeartbeats 4000000 in
theorem sealTurned_c (a : Option Addr) (n cap : Nat) (l : List UInt8) (bit : Int) (w : World) (h : IsB w a n cap l) (_hb : (Lit.int .i64 bit).wf = true) :
    Calls Try.prog 7 #[.slice a n cap, .int .i64 bit] w fun e w' => e = .returned (.bool true) ∧ Below w.heap.size w w' := by
  clear _hb
  have hl := h.len
  go_enter Try.func7, Try.ntmps7
  by_cases hn : 2000 < n
  · go_wp2_with fail
    refine (works_c _).mono ?_
    rintro e w1 ⟨rfl, hb1⟩
    go_wp2_with fail
    go_ret
    exact ⟨rfl, hb1⟩
  go_wp2_with fail
  refine (seal_ok a n cap l (by omega) _ h).mono ?_
  rintro e w2 ⟨v2, rfl, ho2, hb2⟩
  obtain ⟨a2, n2, c2, rfl, hs2⟩ := ho2.slice'
  have hn2 := hs2.len
  have hfl := frameB_len l
  rw [hl] at hfl
  obtain ⟨N, hN⟩ : ∃ N, (numB n).length = N := ⟨_, rfl⟩
  have hN1 := numB_pos n
  have hN10 := numB_len n
  have hturn := fun (p : Nat) (x : UInt8) h1 h2 h3 => openB_turned (b := l) (by omega) (p := p) (x := x) h1 h2 h3
  rw [hN] at hfl hN1 hN10
  rw [hl, hN] at hturn
  generalize frameB l = F at *
  have hW1 : IntKind.i64.wrap ((n2 : Int) - (n : Int)) = (n2 : Int) - (n : Int) := i64_in (by omega) (by omega)
  have hW2 : IntKind.i64.wrap ((n2 : Int) - (n : Int) - 4) = (N : Int) := by rw [i64_in (by omega) (by omega)]; omega
  have hW3 : IntKind.i64.wrap ((n2 : Int) - (N : Int)) = (n2 : Int) - (N : Int) := i64_in (by omega) (by omega)
  have hW4 : IntKind.i64.wrap (8 * ((n2 : Int) - (N : Int))) = 8 * ((n2 : Int) - (N : Int)) := i64_in (by omega) (by omega)
  have hg1 : decide ((N : Int) < 1) = false := by simp; omega
  have hg2 : ((n2 : Int) == 0) = false := by simp; omega
  by_cases hbit0 : bit < 0
  · go_wp2_with (first | (go_at_call 16; refine (num_c _ _).mono ?_; rintro e w' ⟨rfl, rfl⟩))
    refine (works_c _).mono ?_
    rintro e w3 ⟨rfl, hb3⟩
    go_wp2_with fail
    go_ret
    exact ⟨rfl, below_then hb2 hb3⟩
  by_cases hbit1 : 8 * ((n2 : Int) - (N : Int)) ≤ bit
  · go_wp2_with (first | (go_at_call 16; refine (num_c _ _).mono ?_; rintro e w' ⟨rfl, rfl⟩))
    refine (works_c _).mono ?_
    rintro e w3 ⟨rfl, hb3⟩
    go_wp2_with fail
    go_ret
    exact ⟨rfl, below_then hb2 hb3⟩
  obtain ⟨k, rfl⟩ := Int.eq_ofNat_of_zero_le (by omega : 0 ≤ bit)
  have hnew : OwnB (w2.alloc (.cells #[] 5)) w2.heap.size 5 (.slice (some ⟨w2.heap.size, 0, none⟩) 0 0) [] := ownB_new w2 5 [] (by decide) (cs := #[]) rfl
  go_wp2_with (first
    | (go_at_call 16; refine (num_c _ _).mono ?_; rintro e w' ⟨rfl, rfl⟩)
    | (at_builtin; refine wpList_append_bs rfl _ _ 22 rfl w2.heap.size 5 _ Try.underlying22 infoU8 rfl [] rfl hnew _ n2 c2 F rfl (hs2.alloc _) (by omega) (by simp) ?_; intro a4 cap4 w4 ho4 hb4 _; simp only [Nat.zero_add, List.nil_append] at ho4; obtain ⟨g, cs4, rfl, hg4, hh4, hle4, hm4, hs4, ht4⟩ := own_open ho4 (by omega); have hcell := own_cell (i := N + k / 8) hh4 ht4 (by omega); obtain ⟨x, hx⟩ : ∃ x, F.getD (N + k / 8) 0 = x := ⟨_, rfl⟩; rw [hx] at hcell; have hfz := own_fz (N + k / 8) hh4))
  have hx8 := x.toNat_lt
  have h8 : k % 8 < 8 := Nat.mod_lt _ (by decide)
  have hp7 : 2 ^ (k % 8) ≤ 2 ^ 7 := Nat.pow_le_pow_right (by decide) (by omega)
  have hp0 : 0 < 2 ^ (k % 8) := Nat.pow_pos (by decide)
  have hm : ((2 : Int) ^ (k % 8)) % 256 = ((2 ^ (k % 8) : Nat) : Int) := by
    rw [show ((2 : Int) ^ (k % 8)) = ((2 ^ (k % 8) : Nat) : Int) from by push_cast; rfl]
    omega
  rw [hm]
  generalize 2 ^ (k % 8) = m at *
  have hxor := u8_xor_nat x.toNat m hx8 (by omega)
  have hlt : x.toNat ^^^ m < 256 := Nat.xor_lt_two_pow (n := 8) hx8 (by omega)
  have hy : (UInt8.ofNat (x.toNat ^^^ m)).toNat = x.toNat ^^^ m := by rw [UInt8.toNat_ofNat']; omega
  have hne : UInt8.ofNat (x.toNat ^^^ m) ≠ x := by
    intro he
    have h1 := congrArg UInt8.toNat he
    rw [hy] at h1
    have h2 := congrArg (fun z => x.toNat ^^^ z) h1
    simp only [← Nat.xor_assoc, Nat.xor_self, Nat.zero_xor] at h2
    omega
  rw [hxor, ← hy]
  generalize UInt8.ofNat (x.toNat ^^^ m) = y at *
  have hT := hturn (N + k / 8) y (by omega) (by omega) (by rw [hx]; exact hne)
  have hset := own_set (i := N + k / 8) (cap := cap4) hh4 ht4 hs4 (by omega) hm4 hn2 y
  have hB4 : Below w2.heap.size w2 (w4.setCell ⟨g, N + k / 8, none⟩ (.int .u8 (y.toNat : Int))) := ((below_alloc w2 _).trans hb4).setCell hg4 _
  refine (open_c _ n2 cap4 (F.set (N + k / 8) y) (by omega) _ hset).mono ?_
  rintro e w5 ⟨v5, rfl, ho5, hb5⟩
  rw [hT] at ho5 ⊢
  obtain ⟨a5, n5, c5, rfl, hs5⟩ := ho5.slice'
  obtain rfl : n5 = 0 := by rw [← hs5.len]; rfl
  have hB5 := below_then (below_then hb2 hB4) hb5
  go_wp2_with (first | (go_at_call 16; refine (num_c _ _).mono ?_; rintro e w' ⟨rfl, rfl⟩))
  refine (works_c _).mono ?_
  rintro e w6 ⟨rfl, hb6⟩
  go_wp2_with fail
  go_ret
  exact ⟨rfl, below_then hB5 hb6⟩
end Go.Proofs.Ytfkncnoomablaaa
