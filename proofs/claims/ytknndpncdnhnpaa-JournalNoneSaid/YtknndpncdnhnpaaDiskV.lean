import Derived.Test.YtknndpncdnhnpaaDiskU
namespace Go.Proofs.Ytknndpncdnhnpaa
open Go.RowKit Go.Cas

theorem strOf_ext {a b : ByteArray} (h : a.data.toList = b.data.toList) : a = b := by
  obtain ⟨⟨a⟩⟩ := a; obtain ⟨⟨b⟩⟩ := b; simpa using h
theorem strOf_append (l m : List UInt8) : strOf l ++ strOf m = strOf (l ++ m) := by
  apply strOf_ext
  rw [strOf_data]
  simp [ByteArray.data_append, strOf_data]
theorem strOf_take (l : List UInt8) (n : Nat) : (strOf l).extract 0 n = strOf (l.take n) := by
  apply strOf_ext
  rw [strOf_data]
  simp [ByteArray.data_extract, strOf_data]
/-- the document's disk as a value -/
def RV (s : DS) : Value := .agg #[.int .i64 s.room, .string (strOf s.f0), .string (strOf s.f1), .int .i64 (s.n0 : Int), .int .i64 (s.n1 : Int), .int .i64 s.now, .int .i64 s.left]
def Tells (w : World) (r : DS × Int) (e : Ending) (w' : World) : Prop := e = .returned (.tuple #[RV r.1, .int .i64 r.2]) ∧ Below w.heap.size w w'
def DS.cut (s : DS) (n many : Int) : DS × Int :=
  if fileOk n = true ∧ 0 ≤ many then (if ((s.fl n).length : Int) < many then (s, 4) else if s.left = 0 then (s, 171) else ((s.acted.setF n ((s.fl n).take many.toNat)).setN n (min many.toNat (s.la n)), 0)) else (s, 2)
theorem rstop_all (s : DS) (x : Int) (w : World) : Calls Try.prog 28 #[RV s, .int .i64 x] w (Tells w (s.stop x)) := by
  obtain ⟨room, now, left, f0, n0, f1, n1⟩ := s
  refine (rstop_c x room now left n0 n1 (strOf f0) (strOf f1) w).mono ?_
  rintro e w' ⟨rfl, hb⟩
  refine ⟨?_, hb⟩
  unfold DS.stop
  by_cases hx : x < 0
  · rw [if_pos hx, if_pos hx, if_pos hx]; rfl
  · rw [if_neg hx, if_neg hx, if_neg hx]; rfl
theorem rsync_all (s : DS) (n : Int) (w : World) (hl : LeftOk s.left) : Calls Try.prog 27 #[RV s, .int .i64 n] w (Tells w (s.sync n)) := by
  by_cases hok : fileOk n = true
  · by_cases h0 : s.left = 0
    · have hs : s.sync n = (s, 171) := by unfold DS.sync; rw [if_pos hok, if_pos h0]
      rw [hs]
      obtain ⟨room, now, left, f0, n0, f1, n1⟩ := s
      obtain rfl : left = 0 := h0
      obtain rfl | rfl := file_two hok
      · exact rsync_s0 room now 0 n0 n1 (strOf f0) (strOf f1) w
      · exact rsync_s1 room now 0 n0 n1 (strOf f0) (strOf f1) w
    · have hs : s.sync n = (s.acted.setN n (s.fl n).length, 0) := by unfold DS.sync; rw [if_pos hok, if_neg h0]
      rw [hs]
      obtain ⟨room, now, left, f0, n0, f1, n1⟩ := s
      obtain rfl | rfl := file_two hok
      · have := rsync_0 room now left n0 n1 (strOf f0) (strOf f1) w h0 hl
        rw [strOf_size] at this
        exact this
      · have := rsync_1 room now left n0 n1 (strOf f0) (strOf f1) w h0 hl
        rw [strOf_size] at this
        exact this
  · have hs : s.sync n = (s, 2) := by unfold DS.sync; rw [if_neg hok]
    rw [hs]
    exact rsync_bad n s.room s.now s.left s.n0 s.n1 (strOf s.f0) (strOf s.f1) w (by simpa using hok)
theorem rappend_all (s : DS) (n : Int) (ad : Option Addr) (m cm : Nat) (bs : List UInt8) (w : World) (hs : IsB w ad m cm bs) (hm : m ≤ 2 ^ 40) (hr : 0 ≤ s.room ∧ s.room ≤ 2 ^ 40) (hl : LeftOk s.left) :
    Calls Try.prog 15 #[RV s, .int .i64 n, .slice ad m cm] w (Tells w (s.append n bs)) := by
  have hln := hs.len
  by_cases hok : fileOk n = true
  · by_cases hf : s.room - (bs.length : Int) < ((s.fl n).length : Int)
    · have he : s.append n bs = (s, 170) := by unfold DS.append; rw [if_pos hok, if_pos hf]
      rw [he]
      obtain ⟨room, now, left, f0, n0, f1, n1⟩ := s
      rw [hln] at hf
      obtain rfl | rfl := file_two hok
      · exact rappend_f0 ad m cm bs room now left n0 n1 (strOf f0) (strOf f1) w hm hr (by rw [strOf_size]; exact hf)
      · exact rappend_f1 ad m cm bs room now left n0 n1 (strOf f0) (strOf f1) w hm hr (by rw [strOf_size]; exact hf)
    · by_cases h0 : s.left = 0
      · have he : s.append n bs = (s, 171) := by unfold DS.append; rw [if_pos hok, if_neg hf, if_pos h0]
        rw [he]
        obtain ⟨room, now, left, f0, n0, f1, n1⟩ := s
        obtain rfl : left = 0 := h0
        rw [hln] at hf
        obtain rfl | rfl := file_two hok
        · exact rappend_s0 ad m cm bs room now 0 n0 n1 (strOf f0) (strOf f1) w hm hr (by rw [strOf_size]; exact Int.not_lt.1 hf)
        · exact rappend_s1 ad m cm bs room now 0 n0 n1 (strOf f0) (strOf f1) w hm hr (by rw [strOf_size]; exact Int.not_lt.1 hf)
      · have he : s.append n bs = (s.acted.setF n (s.fl n ++ bs), 0) := by unfold DS.append; rw [if_pos hok, if_neg hf, if_neg h0]
        rw [he]
        obtain ⟨room, now, left, f0, n0, f1, n1⟩ := s
        rw [hln] at hf
        obtain rfl | rfl := file_two hok
        · have := rappend_0 ad m cm bs room now left n0 n1 (strOf f0) (strOf f1) w hm hr (by rw [strOf_size]; exact Int.not_lt.1 hf) hs h0 hl
          rw [strOf_append] at this
          exact this
        · have := rappend_1 ad m cm bs room now left n0 n1 (strOf f0) (strOf f1) w hm hr (by rw [strOf_size]; exact Int.not_lt.1 hf) hs h0 hl
          rw [strOf_append] at this
          exact this
  · have he : s.append n bs = (s, 2) := by unfold DS.append; rw [if_neg hok]
    rw [he]
    exact rappend_bad ad m cm bs n s.room s.now s.left s.n0 s.n1 (strOf s.f0) (strOf s.f1) w (by simpa using hok)
theorem ite_min (a b : Int) : (if a < b then a else b) = min b a := by split <;> omega
theorem rcut_all (s : DS) (n many : Int) (w : World) (hl : LeftOk s.left) : Calls Try.prog 47 #[RV s, .int .i64 n, .int .i64 many] w (Tells w (s.cut n many)) := by
  by_cases hok : fileOk n = true
  · by_cases hm : 0 ≤ many
    · by_cases hf : ((s.fl n).length : Int) < many
      · have he : s.cut n many = (s, 4) := by unfold DS.cut; rw [if_pos ⟨hok, hm⟩, if_pos hf]
        rw [he]
        obtain ⟨room, now, left, f0, n0, f1, n1⟩ := s
        obtain rfl | rfl := file_two hok
        · exact rcut_r0 many room now left n0 n1 (strOf f0) (strOf f1) w hm (by rw [strOf_size]; exact hf)
        · exact rcut_r1 many room now left n0 n1 (strOf f0) (strOf f1) w hm (by rw [strOf_size]; exact hf)
      · by_cases h0 : s.left = 0
        · have he : s.cut n many = (s, 171) := by unfold DS.cut; rw [if_pos ⟨hok, hm⟩, if_neg hf, if_pos h0]
          rw [he]
          obtain ⟨room, now, left, f0, n0, f1, n1⟩ := s
          obtain rfl : left = 0 := h0
          obtain rfl | rfl := file_two hok
          · exact rcut_s0 many room now 0 n0 n1 (strOf f0) (strOf f1) w hm (by rw [strOf_size]; exact Int.not_lt.1 hf)
          · exact rcut_s1 many room now 0 n0 n1 (strOf f0) (strOf f1) w hm (by rw [strOf_size]; exact Int.not_lt.1 hf)
        · have he : s.cut n many = ((s.acted.setF n ((s.fl n).take many.toNat)).setN n (min many.toNat (s.la n)), 0) := by unfold DS.cut; rw [if_pos ⟨hok, hm⟩, if_neg hf, if_neg h0]
          rw [he]
          obtain ⟨room, now, left, f0, n0, f1, n1⟩ := s
          obtain rfl | rfl := file_two hok
          · have := rcut_0 many room now left n0 n1 (strOf f0) (strOf f1) w hm (by rw [strOf_size]; exact Int.not_lt.1 hf) h0 hl
            rw [strOf_take, ite_min, show min many (n0 : Int) = ((min many.toNat n0 : Nat) : Int) from by omega] at this
            exact this
          · have := rcut_1 many room now left n0 n1 (strOf f0) (strOf f1) w hm (by rw [strOf_size]; exact Int.not_lt.1 hf) h0 hl
            rw [strOf_take, ite_min, show min many (n1 : Int) = ((min many.toNat n1 : Nat) : Int) from by omega] at this
            exact this
    · have he : s.cut n many = (s, 2) := by unfold DS.cut; rw [if_neg (fun h => hm h.2)]
      rw [he]
      obtain rfl | rfl := file_two hok
      · exact rcut_n0 many s.room s.now s.left s.n0 s.n1 (strOf s.f0) (strOf s.f1) w (by omega)
      · exact rcut_n1 many s.room s.now s.left s.n0 s.n1 (strOf s.f0) (strOf s.f1) w (by omega)
  · have he : s.cut n many = (s, 2) := by unfold DS.cut; rw [if_neg (fun h => hok h.1)]
    rw [he]
    exact rcut_bad n many s.room s.now s.left s.n0 s.n1 (strOf s.f0) (strOf s.f1) w (by simpa using hok)
theorem rcrash_all (s : DS) (k0 k1 : Int) (w : World) (hf : s.fine) : Calls Try.prog 30 #[RV s, .agg #[.int .i64 k0, .int .i64 k1]] w (Tells w (s.crash k0 k1)) := by
  by_cases hk : k0 < 0 ∨ k1 < 0
  · have he : s.crash k0 k1 = (s, 2) := by unfold DS.crash; rw [if_pos hk]
    rw [he]
    exact rcrash_neg k0 k1 s.room s.now s.left s.n0 s.n1 (strOf s.f0) (strOf s.f1) w hk
  · have he : s.crash k0 k1 = ({ (s.crashF 0 k0).crashF 1 k1 with left := -1 }, 0) := by unfold DS.crash; rw [if_neg hk]
    rw [he]
    obtain ⟨room, now, left, f0, n0, f1, n1⟩ := s
    obtain ⟨h1, h2, h3, h4⟩ := hf
    dsimp only at h1 h2 h3 h4
    have c0 : (n0 : Int) + (if ((strOf f0).size : Int) - n0 < k0 then ((strOf f0).size : Int) - n0 else k0) = ((n0 + min k0.toNat (f0.length - n0) : Nat) : Int) := by rw [strOf_size, ite_min]; omega
    have c1 : (n1 : Int) + (if ((strOf f1).size : Int) - n1 < k1 then ((strOf f1).size : Int) - n1 else k1) = ((n1 + min k1.toNat (f1.length - n1) : Nat) : Int) := by rw [strOf_size, ite_min]; omega
    have := rcrash_c k0 k1 _ _ room now left n0 n1 (strOf f0) (strOf f1) w (by omega) (by omega) rfl (by rw [strOf_size]; omega) rfl (by rw [strOf_size]; omega)
    rw [c0, c1, strOf_take, strOf_take, Int.toNat_natCast, Int.toNat_natCast] at this
    exact this
end Go.Proofs.Ytknndpncdnhnpaa
