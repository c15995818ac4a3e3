/- Small laws on arrays in variables: a whole array loaded, stored, compared. -/
import Derived.WalkKit
import Derived.WalkLawsBesides
import Derived.WalkSpells
import Derived.Laws.Rows
import Derived.Below
namespace Go.Proofs.YtmlabnbbpmmonaaDoor
open Go.RowKit

theorem setRow_alloc (w : World) (old cs : Array Value) (t : TypeId) (fr : Nat × Nat) : (w.alloc (.cells old t fr)).setRow w.heap.size cs = w.alloc (.cells cs t fr) := by
  have : (w.heap.push (.cells old t fr)).modify w.heap.size (fun | .cells _ elem frozen => .cells cs elem frozen | o => o) = w.heap.push (.cells cs t fr) := by
    apply Array.ext
    · simp
    · intro k h1 h2
      simp only [Array.getElem_modify, Array.getElem_push]
      simp at h1
      by_cases hk : k < w.heap.size
      · simp [hk, show w.heap.size ≠ k by omega]
      · simp [show k = w.heap.size by omega]
  show ({ w with heap := _ } : World) = { w with heap := _ }
  congr 1
theorem below_setRow {B : Nat} {a w : World} (h : Below B a w) (g : Nat) (hg : B ≤ g) (cs : Array Value) : Below B a (w.setRow g cs) := by
  refine h.trans ⟨rfl, rfl, rfl, by simp [World.setRow], fun k hk => ?_⟩
  simp only [World.setRow, Array.getElem?_modify]
  rw [if_neg (by omega)]
end Go.Proofs.YtmlabnbbpmmonaaDoor
