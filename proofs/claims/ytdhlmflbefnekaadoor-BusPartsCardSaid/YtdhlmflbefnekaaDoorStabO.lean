/- A row of the call's own, sorted: what it owns behind the sort. -/
import Derived.Test.YtdhlmflbefnekaaDoorStabT
import Derived.Test.YtdhlmflbefnekaaDoorPairLib
import Derived.Deep.AppendLies
namespace Go.Proofs.YtdhlmflbefnekaaDoor
namespace Stb
open Go.Shelf Go.RowKit Go.Lib Go.Sort
/-- slices.SortStableFunc's number. -/
abbrev sortF : Nat := 36
variable {α : Type} [Inhabited α]
theorem holds_of_own {enc : α → Value} {w : World} {B e g n c : Nat} {d : Array α} (h : w.ownsRow B e 1 (.slice (some ⟨g, 0, none⟩) n c) n (d.toList.map enc)) (hn : d.size = n) : Holds enc w g 0 d := by
  intro j hj
  refine ⟨?_, by rw [Nat.zero_add]; exact h.frozenAt j⟩
  rw [Nat.zero_add, h.cellAt j (by omega)]
  simp [hj, getElem!_pos d j hj]
theorem heap_sorted {enc : α → Value} {w : World} {g n : Nat} {os : Array Obj} {cur : Array Value} {e : TypeId} {fr : Nat × Nat} (d : Array α) (hb : w.heap[g]? = some (.cells cur e fr)) :
    (grow (putRow enc (Sort.ahead w n) g 0 d) os).heap[g]? = some (.cells (putCells enc 0 d cur) e fr) := by
  have hg : g < w.heap.size := (Array.getElem?_eq_some_iff.1 hb).1
  rw [heap_grow_old _ _ (by simpa using hg)]
  simp [putRow, mapBlock, Sort.ahead, Array.getElem?_modify, hb, onCells]
theorem grownBy_sorted {enc : α → Value} {w : World} {g n : Nat} {os : Array Obj} (d : Array α) : w.grownBy (grow (putRow enc (Sort.ahead w n) g 0 d) os) (some g) := by
  refine ⟨rfl, rfl, rfl, by simp, fun k hk hne => ?_⟩
  rw [heap_grow_old _ _ (by simpa using hk)]
  have : g ≠ k := fun e => hne (by rw [e])
  simp [putRow, mapBlock, Sort.ahead, Array.getElem?_modify, this]
theorem take_putCells {enc : α → Value} (cur : Array Value) (d : Array α) (h : d.size ≤ cur.size) : (putCells enc 0 d cur).toList.take d.size = d.toList.map enc := by
  apply List.ext_getElem?
  intro j
  by_cases hj : j < d.size
  · rw [List.getElem?_take_of_lt hj, Array.getElem?_toList]
    simp [putCells, hj, show j < cur.size by omega]
  · rw [List.getElem?_take_eq_none (by omega), List.getElem?_eq_none (by simp; omega)]
/-- Behind the sort the same slice owns the sorted row; nothing else is turned. -/
theorem own_sorted {enc : α → Value} {w w' : World} {B e g n c : Nat} {d d' : Array α} (h : w.ownsRow B e 1 (.slice (some ⟨g, 0, none⟩) n c) n (d.toList.map enc)) (hn : d.size = n) (hn' : d'.size = n) (hS : SW enc w g 0 d' w') :
    w'.ownsRow B e 1 (.slice (some ⟨g, 0, none⟩) n c) n (d'.toList.map enc) ∧ w.grownBy w' (some g) := by
  obtain ⟨k, os, rfl⟩ := hS
  refine ⟨?_, grownBy_sorted _⟩
  rcases h.2 with ⟨h0, _⟩ | ⟨g', cap', cur, hv, hb, hg, h1, h2, h3, _⟩
  · cases h0
  · simp only [Value.slice.injEq, Option.some.injEq, Addr.mk.injEq, and_true, true_and] at hv
    obtain ⟨rfl, rfl⟩ := hv
    exact ⟨by simp [hn'], .inr ⟨g, c, _, rfl, hb, heap_sorted _ hg, h1, h2, by simp [putCells, h3], by rw [Nat.mul_one, ← hn']; exact take_putCells cur d' (by omega)⟩⟩
/-- A cell of another block, in a world of the sort's. -/
theorem cell_apart {enc : α → Value} {w w' : World} {g off : Nat} {d' : Array α} (hS : SW enc w g off d' w') (a : Addr) (hb : a.block < w.heap.size) (hne : a.block ≠ g) : w'.cell? a = w.cell? a := by
  obtain ⟨k, os, rfl⟩ := hS
  unfold sortWorld
  rw [cell?_grow _ _ _ (by simpa using hb), cell?_putRow_other enc _ g off _ _ (Or.inl hne)]
  rfl
set_option maxHeartbeats 1000000 in
/-- At no element nothing is done, whatever the test. -/
theorem sort_none (p : Option Addr) (cap : Nat) (fv : Value) (w : World) : Calls Tryd.prog 36 #[.slice p 0 cap, fv] w fun e w' => e = .returned (.tuple #[]) ∧ w = w' := by
  have h1 : Calls Tryd.prog 47 #[.slice p 0 cap, .int .i64 0, .int .i64 0, fv] w fun e w' => e = .returned (.tuple #[]) ∧ w = w' := by
    go_enter Tryd.func47, Tryd.ntmps47
    go_wp2
    refine wp_loop_rounds 1 ?_
    rw [rounds_succ]
    go_wp2
    all_goals go_end0
    all_goals exact ⟨rfl, rfl⟩
  have h2 : Calls Tryd.prog 43 #[.slice p 0 cap, .int .i64 0, fv] w fun e w' => e = .returned (.tuple #[]) ∧ w = w' := by
    go_enter Tryd.func43, Tryd.ntmps43
    go_wp2
    refine wp_loop_rounds 1 ?_
    rw [rounds_succ]
    go_wp2_with fail
    refine h1.mono ?_
    rintro e w1 ⟨rfl, rfl⟩
    go_wp2
    refine wp_loop_rounds 1 ?_
    rw [rounds_succ]
    go_wp2
    all_goals go_end0
    all_goals exact ⟨rfl, rfl⟩
  go_enter Tryd.func36, Tryd.ntmps36
  go_wp2_with fail
  refine h2.mono ?_
  rintro e w1 ⟨rfl, rfl⟩
  go_wp2
  go_end0
  exact ⟨rfl, rfl⟩
end Stb
end Go.Proofs.YtdhlmflbefnekaaDoor
