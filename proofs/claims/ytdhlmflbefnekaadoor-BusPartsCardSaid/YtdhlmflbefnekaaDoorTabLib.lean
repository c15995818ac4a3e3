/- Arrays of int64 in package-level variables and in variables of the call's own: what a whole load, a whole store, a cell and a comparison come to. -/
import Derived.Test.YtdhlmflbefnekaaDoorRowsLib
import Derived.Test.YtdhlmflbefnekaaDoorBase
import Derived.Test.YtdhlmflbefnekaaDoorRows
import Derived.WalkKit
import Derived.WalkLawsBesides
import Derived.WalkSpells
import Derived.Outline
import Derived.LoopTactic
import Derived.Below
import Derived.Lib.Hide
import Derived.Lib.LaidTab
import Derived.Laws.Rows
import Derived.Deep.QuietTactic
import Derived.BigQuiet
namespace Go.Proofs.YtdhlmflbefnekaaDoor
open Go.RowKit

/-- The cells of an array of int64. -/
def arrV (L : List Int) : Array Value := (L.map fun n => Value.int .i64 n).toArray
theorem arrV_size (L : List Int) : (arrV L).size = L.length := by simp [arrV]
theorem arrV_at (L : List Int) (k : Nat) (hk : k < L.length) : (arrV L)[k]? = some (.int .i64 (nth L k)) := by
  simp [arrV, nth, List.getD, hk]
theorem arrV_all (L : List Int) : (arrV L).all (·.oneCell') = true := by
  simp [arrV, Value.oneCell']
/-- A variable (block g) that holds just these numbers. -/
def TabAt (w : World) (g : Nat) (L : List Int) : Prop := ∃ t fr, w.heap[g]? = some (.cells (arrV L) t fr)
theorem TabAt.of {P : Program} {W : World} {name : String} {L : List Int} {g : Nat} (hg : P.globalNamed name = some g) (h : Lib.TabIs P W name .i64 L) : TabAt W g L := by
  unfold Lib.TabIs World.var? at h
  rw [hg] at h
  simp only [Option.bind_some] at h
  split at h
  · rename_i c t fr hh
    cases h
    exact ⟨t, fr, hh⟩
  · cases h
theorem TabAt.cell {w : World} {g : Nat} {L : List Int} (h : TabAt w g L) (k : Nat) (hk : k < L.length) : w.cell? ⟨g, k, none⟩ = some (.int .i64 (nth L k)) := by
  obtain ⟨t, fr, h⟩ := h
  rw [cell_of_row w g k _ t fr h]
  exact arrV_at L k hk
theorem TabAt.pos {w : World} {g : Nat} {L : List Int} (h : TabAt w g L) : g < w.heap.size := by
  obtain ⟨t, fr, h⟩ := h
  exact (Array.getElem?_eq_some_iff.1 h).1
theorem TabAt.below {B : Nat} {w w' : World} {g : Nat} {L : List Int} (h : TabAt w g L) (hb : Below B w w') (hB : g < B) : TabAt w' g L := by
  obtain ⟨t, fr, h⟩ := h
  exact ⟨t, fr, (hb.block g hB).trans h⟩
theorem TabAt.grown {w w' : World} {g : Nat} {L : List Int} (h : TabAt w g L) (hb : Below w.heap.size w w') : TabAt w' g L := h.below hb h.pos
theorem TabAt.row {w : World} {g : Nat} {L : List Int} (h : TabAt w g L) : RowAt w (.pointer (some ⟨g, 0, none⟩)) (arrV L) := by
  obtain ⟨t, fr, h⟩ := h
  exact ⟨g, t, fr, rfl, h⟩
/-- 'x := f.Table()': the result's block and the variable's. -/
theorem local_facts (w : World) (cs : Array Value) (t : TypeId) : Below w.heap.size w ((w.alloc (.cells cs t)).alloc (.cells cs t)) ∧
    ((w.alloc (.cells cs t)).alloc (.cells cs t)).heap[w.heap.size + 1]? = some (.cells cs t (0, 0)) ∧ ((w.alloc (.cells cs t)).alloc (.cells cs t)).heap.size = w.heap.size + 2 :=
  ⟨((Below.refl _ _).alloc (Nat.le_refl _) _).alloc (by rw [size_alloc]; omega) _, heap_alloc2_new w _ _, by rw [size_alloc, size_alloc]⟩
theorem row_at {w w' : World} {g : Nat} {L : List Int} {t : TypeId} {fr : Nat × Nat} (h : w.heap[g]? = some (.cells (arrV L) t fr)) (hb : Below w.heap.size w w') (k : Nat) (hk : k < L.length) : w'.cell? ⟨g, k, none⟩ = some (.int .i64 (nth L k)) := by
  rw [cell_of_row w' g k (arrV L) t fr ((hb.block g (Array.getElem?_eq_some_iff.1 h).1).trans h)]
  exact arrV_at L k hk
end Go.Proofs.YtdhlmflbefnekaaDoor
