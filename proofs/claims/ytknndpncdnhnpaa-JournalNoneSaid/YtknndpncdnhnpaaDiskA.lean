import Derived.Test.YtknndpncdnhnpaaByteFn
import Derived.Test.YtknndpncdnhnpaaMix
import Derived.Test.YtknndpncdnhnpaaIter
namespace Go.Proofs.Ytknndpncdnhnpaa
open Go.RowKit Go.Cas

/-- what an int may be at most -/
def LeftOk (x : Int) : Prop := x ≤ 9223372036854775807
instance (x : Int) : Decidable (LeftOk x) := inferInstanceAs (Decidable (x ≤ 9223372036854775807))
theorem LeftOk.dec {x : Int} (h : LeftOk x) (hp : 0 < x) : -9223372036854775808 ≤ x - 1 ∧ x - 1 ≤ 9223372036854775807 := by unfold LeftOk at h; omega
/-- A disk's state. -/
structure DS where
  room : Int
  now : Int
  left : Int
  f0 : List UInt8
  n0 : Nat
  f1 : List UInt8
  n1 : Nat
/-- A disk as it lies: its files' bytes lie in blocks of their own. -/
structure DD (w : World) (b : Nat) (s : DS) (a0 : Option Addr) (l0 c0 : Nat) (a1 : Option Addr) (l1 c1 : Nat) : Prop where
  heap : w.heap[b]? = some (.cells #[.int .i64 s.room, .int .i64 s.now, .int .i64 s.left, .slice a0 l0 c0, .int .i64 (s.n0 : Int), .slice a1 l1 c1, .int .i64 (s.n1 : Int), .bool true] 76 (0, 0))
  b0 : IsB w a0 l0 c0 s.f0
  b1 : IsB w a1 l1 c1 s.f1
  ne0 : ∀ ad, a0 = some ad → 0 < c0 → ad.block ≠ b
  ne1 : ∀ ad, a1 = some ad → 0 < c1 → ad.block ≠ b
def IsD (w : World) (b : Nat) (s : DS) : Prop := ∃ a0 l0 c0 a1 l1 c1, DD w b s a0 l0 c0 a1 l1 c1
section
variable {w w' : World} {b : Nat} {s : DS} {a0 a1 : Option Addr} {l0 c0 l1 c1 : Nat}
theorem DD.isD (h : DD w b s a0 l0 c0 a1 l1 c1) : IsD w b s := ⟨_, _, _, _, _, _, h⟩
theorem DD.lt (h : DD w b s a0 l0 c0 a1 l1 c1) : b < w.heap.size := (Array.getElem?_eq_some_iff.1 h.heap).1
theorem DD.g0 (h : DD w b s a0 l0 c0 a1 l1 c1) : w.cell? ⟨b, 0, none⟩ = some (.int .i64 s.room) := by simp [World.cell?, h.heap]
theorem DD.g1 (h : DD w b s a0 l0 c0 a1 l1 c1) : w.cell? ⟨b, 1, none⟩ = some (.int .i64 s.now) := by simp [World.cell?, h.heap]
theorem DD.g2 (h : DD w b s a0 l0 c0 a1 l1 c1) : w.cell? ⟨b, 2, none⟩ = some (.int .i64 s.left) := by simp [World.cell?, h.heap]
theorem DD.g3 (h : DD w b s a0 l0 c0 a1 l1 c1) : w.cell? ⟨b, 3, none⟩ = some (.slice a0 l0 c0) := by simp [World.cell?, h.heap]
theorem DD.g4 (h : DD w b s a0 l0 c0 a1 l1 c1) : w.cell? ⟨b, 4, none⟩ = some (.int .i64 (s.n0 : Int)) := by simp [World.cell?, h.heap]
theorem DD.g5 (h : DD w b s a0 l0 c0 a1 l1 c1) : w.cell? ⟨b, 5, none⟩ = some (.slice a1 l1 c1) := by simp [World.cell?, h.heap]
theorem DD.g6 (h : DD w b s a0 l0 c0 a1 l1 c1) : w.cell? ⟨b, 6, none⟩ = some (.int .i64 (s.n1 : Int)) := by simp [World.cell?, h.heap]
theorem DD.g7 (h : DD w b s a0 l0 c0 a1 l1 c1) : w.cell? ⟨b, 7, none⟩ = some (.bool true) := by simp [World.cell?, h.heap]
theorem DD.fz (h : DD w b s a0 l0 c0 a1 l1 c1) (i : Nat) : w.frozen? ⟨b, i, none⟩ = false := by simp [World.frozen?, h.heap]
theorem DD.later (h : DD w b s a0 l0 c0 a1 l1 c1) (hb : Below w.heap.size w w') : DD w' b s a0 l0 c0 a1 l1 c1 :=
  ⟨(hb.block _ h.lt).trans h.heap, h.b0.later hb, h.b1.later hb, h.ne0, h.ne1⟩
theorem DD.grown {r : Option Nat} (h : DD w b s a0 l0 c0 a1 l1 c1) (hg : w.grownBy w' r) (hb : some b ≠ r) (h0 : ∀ ad, a0 = some ad → 0 < c0 → some ad.block ≠ r) (h1 : ∀ ad, a1 = some ad → 0 < c1 → some ad.block ≠ r) : DD w' b s a0 l0 c0 a1 l1 c1 :=
  ⟨(hg.block _ h.lt hb).trans h.heap, h.b0.grown' hg h0, h.b1.grown' hg h1, h.ne0, h.ne1⟩
theorem IsD.later (h : IsD w b s) (hb : Below w.heap.size w w') : IsD w' b s := by obtain ⟨a0, l0, c0, a1, l1, c1, h⟩ := h; exact (h.later hb).isD
theorem IsD.lt (h : IsD w b s) : b < w.heap.size := by obtain ⟨a0, l0, c0, a1, l1, c1, h⟩ := h; exact h.lt
theorem IsD.drewN (h : IsD w b s) (n : Nat) : IsD (w.drewN n) b s := by obtain ⟨a0, l0, c0, a1, l1, c1, h⟩ := h; exact ⟨a0, l0, c0, a1, l1, c1, ⟨h.heap, h.b0, h.b1, h.ne0, h.ne1⟩⟩
end
/-- No disk: nil, or one that was never made. -/
def NoD (w : World) (v : Value) : Prop := v = .pointer none ∨ ∃ b, v = .pointer (some ⟨b, 0, none⟩) ∧ w.cell? ⟨b, 7, none⟩ = some (.bool false)
theorem NoD.later {w w' : World} {v : Value} (h : NoD w v) (hb : Below w.heap.size w w') : NoD w' v := by
  rcases h with h | ⟨b, h, hc⟩
  · exact .inl h
  · exact .inr ⟨b, h, below_cell hb hc⟩
/-- A disk, or none. -/
def NoneIs (w : World) (v : Value) (bo : Bool) : Prop := (bo = true ∧ NoD w v) ∨ (bo = false ∧ ∃ b, v = .pointer (some ⟨b, 0, none⟩) ∧ w.cell? ⟨b, 7, none⟩ = some (.bool true))
theorem NoneIs.later {w w' : World} {v : Value} {bo : Bool} (h : NoneIs w v bo) (hb : Below w.heap.size w w') : NoneIs w' v bo := by
  rcases h with ⟨h, h1⟩ | ⟨h, b, h1, h2⟩
  · exact .inl ⟨h, h1.later hb⟩
  · exact .inr ⟨h, b, h1, below_cell hb h2⟩
theorem IsD.noneIs {w : World} {b : Nat} {s : DS} (h : IsD w b s) : NoneIs w (.pointer (some ⟨b, 0, none⟩)) false := by
  obtain ⟨a0, l0, c0, a1, l1, c1, h⟩ := h
  exact .inr ⟨rfl, b, rfl, h.g7⟩
theorem NoD.noneIs {w : World} {v : Value} (h : NoD w v) : NoneIs w v true := .inl ⟨rfl, h⟩

theorem none_c (v : Value) (bo : Bool) (w : World) (h : NoneIs w v bo) : Calls Try.prog 62 #[v] w fun e w' => e = .returned (.bool bo) ∧ w = w' := by
  rcases h with ⟨rfl, rfl | ⟨b, rfl, hc⟩⟩ | ⟨rfl, b, rfl, hc⟩
  all_goals
    go_enter Try.func62, Try.ntmps62
    go_wp2
    go_ret
    exact ⟨rfl, rfl⟩
theorem space_c (b : Nat) (s : DS) (w : World) (h : IsD w b s) : Calls Try.prog 43 #[.pointer (some ⟨b, 0, none⟩)] w fun e w' => e = .returned (.int .i64 s.room) ∧ w = w' := by
  have hn := none_c _ _ _ h.noneIs
  obtain ⟨a0, l0, c0, a1, l1, c1, h⟩ := h
  have hc := h.g0
  go_enter Try.func43, Try.ntmps43
  go_wp2_with (go_at_call 62; refine hn.mono ?_; rintro e w' ⟨rfl, rfl⟩)
  go_ret
  exact ⟨rfl, rfl⟩
/-- New: none, or a disk at a new block. -/
theorem new_no (room : Int) (w : World) (h : room < 1 ∨ 4194304 < room) : Calls Try.prog 9 #[.int .i64 room] w fun e w' => e = .returned (.tuple #[.pointer none, .int .i64 2]) ∧ w = w' := by
  by_cases h1 : room < 1
  · go_enter Try.func9, Try.ntmps9
    go_wp2
    go_ret2
    exact ⟨rfl, rfl⟩
  · have h2 : 4194304 < room := by omega
    go_enter Try.func9, Try.ntmps9
    go_wp2
    go_ret2
    exact ⟨rfl, rfl⟩
def ds0 (room : Int) : DS := { room := room, now := 0, left := -1, f0 := [], n0 := 0, f1 := [], n1 := 0 }
theorem new_c (room : Int) (w : World) (h1 : 1 ≤ room) (h2 : room ≤ 4194304) : Calls Try.prog 9 #[.int .i64 room] w fun e w' =>
    e = .returned (.tuple #[.pointer (some ⟨w.heap.size, 0, none⟩), .int .i64 0]) ∧ IsD w' w.heap.size (ds0 room) ∧ Below w.heap.size w w' := by
  go_enter Try.func9, Try.ntmps9
  go_wp2
  go_ret2
  exact ⟨rfl, ⟨none, 0, 0, none, 0, 0, ⟨heap_alloc_new w _, IsB.nil _, IsB.nil _, nofun, nofun⟩⟩, below_alloc _ _⟩

/-- A file of a disk. -/
def fileOk (n : Int) : Bool := decide (0 ≤ n) && decide (n < 2)
theorem at_c (b : Nat) (s : DS) (n : Int) (w : World) (h : IsD w b s) (h0 : 0 ≤ n) (h1 : n < 2) : Calls Try.prog 38 #[.pointer (some ⟨b, 0, none⟩), .int .i64 n] w fun e w' => e = .returned (.pointer (some ⟨b, 3 + 2 * n.toNat, none⟩)) ∧ w = w' := by
  have hn := none_c _ _ _ h.noneIs
  obtain rfl | rfl : n = 0 ∨ n = 1 := by omega
  all_goals
    go_enter Try.func38, Try.ntmps38
    go_wp2_with (go_at_call 62; refine hn.mono ?_; rintro e w' ⟨rfl, rfl⟩)
    go_ret
    exact ⟨rfl, rfl⟩
theorem at_no (v : Value) (bo : Bool) (n : Int) (w : World) (h : NoneIs w v bo) (hb : bo = true ∨ n < 0 ∨ 2 ≤ n) : Calls Try.prog 38 #[v, .int .i64 n] w fun e w' => e = .returned (.pointer (some ⟨w.heap.size, 0, none⟩)) ∧ w.alloc (.cells #[.slice none 0 0, .int .i64 0] 71) = w' := by
  have hn := none_c _ _ _ h
  by_cases h0 : bo = true
  · subst h0
    go_enter Try.func38, Try.ntmps38
    go_wp2_with (go_at_call 62; refine hn.mono ?_; rintro e w' ⟨rfl, rfl⟩)
    go_ret
    exact ⟨rfl, rfl⟩
  · obtain rfl : bo = false := by simpa using h0
    by_cases h1 : n < 0
    · go_enter Try.func38, Try.ntmps38
      go_wp2_with (go_at_call 62; refine hn.mono ?_; rintro e w' ⟨rfl, rfl⟩)
      go_ret
      exact ⟨rfl, rfl⟩
    · have h2 : 2 ≤ n := by
        rcases hb with h | h | h
        · cases h
        · omega
        · exact h
      go_enter Try.func38, Try.ntmps38
      go_wp2_with (go_at_call 62; refine hn.mono ?_; rintro e w' ⟨rfl, rfl⟩)
      go_ret
      exact ⟨rfl, rfl⟩

/-! ### What may not be, and why -/
def askV (l : List (Bool × Int)) : List Value := l.flatMap fun x => [.bool x.1, .int .i64 x.2]
theorem askV_len (l : List (Bool × Int)) : (askV l).length = l.length * 2 := by
  induction l with
  | nil => rfl
  | cons x l ih => simp [askV] at ih ⊢; omega
theorem askV_get (l : List (Bool × Int)) {i : Nat} (h : i < l.length) : (askV l)[i * 2]? = some (.bool l[i].1) ∧ (askV l)[i * 2 + 1]? = some (.int .i64 l[i].2) := by
  induction l generalizing i with
  | nil => simp at h
  | cons x l ih =>
    cases i with
    | zero => exact ⟨rfl, rfl⟩
    | succ i =>
      have h' : i < l.length := by simpa using h
      have := ih h'
      rw [show (i + 1) * 2 = i * 2 + 2 from by omega]
      simpa [askV] using this
theorem askV_one (l : List (Bool × Int)) : ∀ u ∈ askV l, u.oneCell' = true := by
  intro u hu
  obtain ⟨x, _, hx⟩ := List.mem_flatMap.1 hu
  simp at hx
  rcases hx with rfl | rfl <;> rfl
theorem askV_append (l m : List (Bool × Int)) : askV (l ++ m) = askV l ++ askV m := List.flatMap_append
def OwnA (w : World) (base : Nat) (v : Value) (l : List (Bool × Int)) : Prop := w.ownsRow base 88 2 v l.length (askV l)
theorem OwnA.slice {w : World} {base : Nat} {v : Value} {l : List (Bool × Int)} (h : OwnA w base v l) : ∃ a cap, v = .slice a l.length cap ∧ Sl w 2 a l.length cap (askV l) := ownsRow_slice h
/-- The first thing that is so. -/
def firstA (l : List (Bool × Int)) : Int := match l.find? (·.1) with | some x => x.2 | none => 0

theorem of_c (v : Value) (bo : Bool) (n : Int) (w : World) (h : NoneIs w v bo) : Calls Try.prog 39 #[v, .int .i64 n] w fun e w' => ∃ v', e = .returned v' ∧ OwnA w' w.heap.size v' [(bo, 1), (!fileOk n, 2)] ∧ Below w.heap.size w w' := by
  have hn := none_c _ _ _ h
  have fin : ∀ x : Bool, x = (!fileOk n) → OwnA (w.alloc (.cells #[.bool bo, .int .i64 1, .bool x, .int .i64 2] 88)) w.heap.size (.slice (some ⟨w.heap.size, 0, none⟩) 2 2) [(bo, 1), (!fileOk n, 2)] := by
    rintro _ rfl
    refine ⟨by simp [askV_len], .inr ⟨w.heap.size, 2, _, rfl, Nat.le_refl _, heap_alloc_new w _, Nat.le_refl _, by decide, rfl, ?_⟩⟩
    simp [askV]
  by_cases h0 : n < 0
  · go_enter Try.func39, Try.ntmps39
    go_wp2_with (go_at_call 62; refine hn.mono ?_; rintro e w' ⟨rfl, rfl⟩)
    go_ret
    exact ⟨_, rfl, fin _ (by simp only [fileOk]; first | (simp; omega) | simp_all), below_alloc _ _⟩
  · by_cases h1 : n < 2
    · go_enter Try.func39, Try.ntmps39
      go_wp2_with (go_at_call 62; refine hn.mono ?_; rintro e w' ⟨rfl, rfl⟩)
      go_ret
      exact ⟨_, rfl, fin _ (by simp only [fileOk]; first | (simp; omega) | simp_all), below_alloc _ _⟩
    · have h2 : 2 ≤ n := by omega
      go_enter Try.func39, Try.ntmps39
      go_wp2_with (go_at_call 62; refine hn.mono ?_; rintro e w' ⟨rfl, rfl⟩)
      go_ret
      exact ⟨_, rfl, fin _ (by simp only [fileOk]; first | (simp; omega) | simp_all), below_alloc _ _⟩
end Go.Proofs.Ytknndpncdnhnpaa
