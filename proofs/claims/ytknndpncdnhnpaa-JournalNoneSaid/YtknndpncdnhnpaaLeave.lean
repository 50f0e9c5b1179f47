import Derived.Test.YtknndpncdnhnpaaIter
namespace Go.Cas
open Go.RowKit

def marks (D : List Nat) : List Deferred := D.map fun d => { target := .collected d, args := #[] }
/-- A function is left behind any number of ranges, none of which deferred anything. -/
theorem leaveN {P : Program} {fn : Func} {R : Ending → World → Prop} {tmps : Array Value} : ∀ (D : List Nat) (w : World), (∀ d ∈ D, w.heap[d]? = some (.deferred (some []))) → D.Nodup →
    (∀ w', Keep (fun k => k ∈ D) w w' → ∃ v, (results fn tmps).run P w' = .ok v w' ∧ R (.returned v) w') →
    LeavesInM Fence.wide 0 P fn tmps R (marks D) .returning w
  | [], w, _, _, h => by
    obtain ⟨v, h1, h2⟩ := h w (Keep.refl _ _)
    exact ⟨v, h1, h2⟩
  | d :: D, w, hd, hn, h => by
    have hnd := List.nodup_cons.1 hn
    refine ⟨by simp, .inl ⟨_, _, rfl, run_takeDeferred (hd d (by simp)), ?_⟩⟩
    refine leaveN D _ (fun e he => ?_) hnd.2 (fun w' hk => h w' ?_)
    · rw [World.putObj_heap_other (fun x => hnd.1 (by rw [← x]; exact he))]
      exact hd e (by simp [he])
    · exact (Keep.putObj w d _ (by simp)).trans (hk.mono fun k hk => by simp [hk])
end Go.Cas
