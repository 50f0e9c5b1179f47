import Derived.Test.YtpobnbiakneoiaaDiskAE
import Derived.ChangeKeysEq
namespace Go.Proofs.Ytpobnbiakneoiaa
open Go.RowKit Go.Cas
set_option linter.unusedSimpArgs false

theorem eqA2s (d : Nat) (x1 x2 y1 y2 : ByteArray) (w : World) : (Op.equalIn (d + 2) 43 (.agg #[.string x1, .string x2]) (.agg #[.string y1, .string y2])).run Try.prog w = .ok (x1.toList == y1.toList && x2.toList == y2.toList) w := by
  have hz : Try.prog.cellsOf 9 = 1 := by kernel_rfl
  have hi : (Try.prog.info? 9).isSome = true := by kernel_rfl
  obtain ⟨i, hi⟩ := Option.isSome_iff_exists.1 hi
  rw [run_equalIn_array _ _ _ _ Try.underlying43 hi, hz, show List.range 2 = [0, 1] from rfl]
  simp only [Op.eqItems]
  go_simp
  by_cases h1 : x1.toList = y1.toList <;> by_cases h2 : x2.toList = y2.toList <;> simp [h1, h2]
theorem eqA2i (d : Nat) (x1 x2 y1 y2 : Int) (w : World) : (Op.equalIn (d + 2) 44 (.agg #[.int .i64 x1, .int .i64 x2]) (.agg #[.int .i64 y1, .int .i64 y2])).run Try.prog w = .ok (x1 == y1 && x2 == y2) w := by
  have hz : Try.prog.cellsOf 3 = 1 := by kernel_rfl
  have hi : (Try.prog.info? 3).isSome = true := by kernel_rfl
  obtain ⟨i, hi⟩ := Option.isSome_iff_exists.1 hi
  rw [run_equalIn_array _ _ _ _ Try.underlying44 hi, hz, show List.range 2 = [0, 1] from rfl]
  simp only [Op.eqItems]
  go_simp
  by_cases h1 : x1 = y1 <;> by_cases h2 : x2 = y2 <;> simp [h1, h2]
theorem eqIn_row (a0 a3 a4 a5 a6 b0 b3 b4 b5 b6 : Int) (x1 x2 y1 y2 : ByteArray) (w : World) :
   (Op.equalIn 10000 46 (.agg #[.int .i64 a0, .string x1, .string x2, .int .i64 a3, .int .i64 a4, .int .i64 a5, .int .i64 a6]) (.agg #[.int .i64 b0, .string y1, .string y2, .int .i64 b3, .int .i64 b4, .int .i64 b5, .int .i64 b6])).run Try.prog w =
     .ok (a0 == b0 && ((x1.toList == y1.toList && x2.toList == y2.toList) && ((a3 == b3 && a4 == b4) && (a5 == b5 && a6 == b6)))) w := by
  have hp : Try.prog.stoodInHeld 46 = false := by kernel_rfl
  have e1 := eqA2s 9997
  have e2 := eqA2i 9997
  simp only [Nat.reduceAdd] at e1 e2
  go_simp
  by_cases h0 : a0 = b0 <;> by_cases h1 : x1.toList = y1.toList <;> by_cases h2 : x2.toList = y2.toList <;> by_cases h3 : a3 = b3 <;> by_cases h4 : a4 = b4 <;> by_cases h5 : a5 = b5 <;> by_cases h6 : a6 = b6 <;> simp [h0, h1, h2, h3, h4, h5, h6]
/-- '==' of two of the document's disks -/
theorem eqIn_RV (s s' : DS) (w : World) : (Op.equalIn 10000 46 (RV s) (RV s')).run Try.prog w = .ok (s.same s') w := by
  unfold RV
  rw [eqIn_row, strOf_toList_beq, strOf_toList_beq]
  congr 1
  unfold DS.same
  by_cases h0 : s.room = s'.room <;> by_cases h1 : s.f0 = s'.f0 <;> by_cases h2 : s.f1 = s'.f1 <;> by_cases h3 : s.n0 = s'.n0 <;> by_cases h4 : s.n1 = s'.n1 <;> by_cases h5 : s.now = s'.now <;> by_cases h6 : s.left = s'.left <;> simp [h0, h1, h2, h3, h4, h5, h6] <;> omega
theorem same_symm (s s' : DS) : s.same s' = s'.same s := by
  unfold DS.same
  congr 1
  apply propext
  constructor
  all_goals
    rintro ⟨h0, h1, h2, h3, h4, h5, h6⟩
    exact ⟨h0.symm, h1.symm, h2.symm, h3.symm, h4.symm, h5.symm, h6.symm⟩
theorem same_refl (s : DS) : s.same s = true := by unfold DS.same; simp
/-- what a copy does, its first one does not see -/
theorem IsD.apart {w w' : World} {b : Nat} {s : DS} (h : IsD w b s) (hg : w.grownBy w' (some w.heap.size)) : IsD w' b s := by
  obtain ⟨a0, l0, c0, a1, l1, c1, h⟩ := h
  refine (h.grown hg (fun e => ?_) (fun ad ha h0 e => ?_) (fun ad ha h0 e => ?_)).isD
  · have := h.lt; have := Option.some.inj e; omega
  · have := h.b0.lt ha h0; have := Option.some.inj e; omega
  · have := h.b1.lt ha h0; have := Option.some.inj e; omega
def OwnAct (w : World) (base : Nat) (v : Value) (l : List AV) : Prop := w.ownsRow base 38 5 v l.length (actV l)
theorem OwnAct.later {w w' : World} {base : Nat} {v : Value} {l : List AV} (h : OwnAct w base v l) (hb : Below w.heap.size w w') : OwnAct w' base v l := ownsRow_later h hb
theorem OwnAct.sl {w : World} {base : Nat} {a : Option Addr} {n c : Nat} {l : List AV} (h : OwnAct w base (.slice a n c) l) : Sl w 5 a n c (actV l) ∧ l.length = n := by
  obtain ⟨a', c', hv, hs⟩ := ownsRow_slice h
  simp only [Value.slice.injEq] at hv
  obtain ⟨rfl, rfl, rfl⟩ := hv
  exact ⟨hs, rfl⟩
theorem infoAct : (Try.prog.info? 38).map (fun i => (i.zero, i.size, i.bytes)) = some (some (.agg #[.int .i64 0, .int .i64 0, .int .i64 0, .int .i64 0, .slice none 0 0]), 5, 56) := by kernel_rfl
/-- 'append(acts, ..)' -/
theorem wpList_append_act {w : World} {ops : Array Oper} {rest : List Oper} {o : Oper} {a : Act} {Q : Exit → Act → World → Prop} (hgd : o.guard = none) (s x : Operand)
    (ho : o.op = .call { callee := .builtin .append, args := #[s, x], argTypes := #[35, 35] }) (base : Nat) (sa : Option Addr) (n c : Nat) (l : List AV) (hs : a.eval s = .slice sa n c) (hown : OwnAct w base (.slice sa n c) l)
    (ad : Option Addr) (m cm : Nat) (ys : List AV) (hx : a.eval x = .slice ad m cm) (hsl : Sl w 5 ad m cm (actV ys)) (hn : n = l.length) (hm : m = ys.length) (hbig : (n + m) * 56 ≤ 140737488355328) (hbase : base ≤ w.heap.size)
    (h : ∀ a' c' w', OwnAct w' base (.slice a' (n + m) c') (l ++ ys) → Below base w w' → w.grownBy w' (Value.ownBlock (.slice sa n c)) → wpList Try.prog ops Q rest (a.put o.dst (.slice a' (n + m) c')) w') : wpList Try.prog ops Q (o :: rest) a w := by
  subst hn hm
  refine wpList_append_sl hgd s x 35 ho base 38 _ 5 56 Try.underlying35 infoAct rfl (by decide) _ l.length (actV l) hs hown ad _ cm (actV ys) hx hsl (actV_one ys) hbig (by unfold maxLen; omega) hbase ?_
  intro a' c' w' ho' hg _
  refine h a' c' w' ?_ ((Below.refl base w).grown hg hbase fun k hk => (World.ownsRow.lt hown k hk).1) hg
  unfold OwnAct
  rw [actV_append, List.length_append]
  exact ho'
theorem own_none (w : World) : OwnAct (w.alloc (.cells #[] 38)) w.heap.size (.slice (some ⟨w.heap.size, 0, none⟩) 0 0) [] :=
  ⟨rfl, .inr ⟨w.heap.size, 0, #[], rfl, Nat.le_refl _, heap_alloc_new w _, Nat.le_refl _, by decide, rfl, rfl⟩⟩
theorem one_act (w : World) (x : AV) : Sl (w.alloc (.cells #[.int .i64 x.what, .int .i64 x.file, .int .i64 x.n, .int .i64 x.more, .slice x.sa x.sn x.sc] 38)) 5 (some ⟨w.heap.size, 0, none⟩) 1 1 (actV [x]) :=
  ⟨rfl, Nat.le_refl _, by decide, (fun h => nomatch h), fun ad had _ => by
    obtain rfl := Option.some.inj had
    exact ⟨rfl, _, _, _, heap_alloc_new w _, Nat.le_refl _, fun i _ => by simp [actV, AV.cells]⟩⟩
theorem OwnAct.mono {w : World} {base base' : Nat} {v : Value} {l : List AV} (h : OwnAct w base v l) (hb : base' ≤ base) : OwnAct w base' v l := ownsRow_mono h hb
theorem ds0_good : (ds0 100).good := ⟨⟨Nat.le_refl _, Nat.le_refl _, by decide, by decide⟩, by decide, by decide, by decide⟩
/-- what the law's loop keeps: a disk, and the document's one in its cell -/
def LP (w6 wr : World) (M : Nat) : Prop := ∃ s : DS, s.good ∧ IsD wr w6.heap.size s ∧ wr.heap[M]? = some (.cells #[.int .i64 s.room, .string (strOf s.f0), .string (strOf s.f1), .int .i64 (s.n0 : Int), .int .i64 (s.n1 : Int), .int .i64 s.now, .int .i64 s.left] 46 (0, 0)) ∧ Below w6.heap.size w6 wr
theorem build_new (room : Int) (w : World) : (Instr.build 46 #[(0, .int .i64 room), (4, .int .i64 (-1))]).run Try.prog w = .ok (.agg #[.int .i64 room, .string ⟨#[]⟩, .string ⟨#[]⟩, .int .i64 0, .int .i64 0, .int .i64 0, .int .i64 (-1)]) w := by kernel_rfl
set_option maxRecDepth 100000 in
theorem rnew_c (room : Int) (w : World) : Calls Try.prog 14 #[.int .i64 room] w fun e w' => e = .returned (RV (ds0 room)) ∧ Below w.heap.size w w' := by
  have hbn := build_new room
  go_enter Try.func14, Try.ntmps14
  go_wp2_with fail
  refine ret_R (cs := #[.int .i64 room, .string ⟨#[]⟩, .string ⟨#[]⟩, .int .i64 0, .int .i64 0, .int .i64 0, .int .i64 (-1)]) rfl rfl (by (repeat (first | (with_reducible exact heap_new' _ _ _ (by first | (simp only [World.size_alloc, World.size_drew, size_drewN']; done) | (simp only [World.size_alloc, World.size_drew, size_drewN']; omega))) | (with_reducible refine heap_drew' ?_) | (with_reducible refine heap_drewN' ?_) | (with_reducible refine heap_old' (by first | omega | (simp only [World.size_alloc, World.size_drew, size_drewN']; omega)) ?_)))) rfl rfl ⟨rfl, below_alloc _ _⟩
end Go.Proofs.Ytpobnbiakneoiaa
