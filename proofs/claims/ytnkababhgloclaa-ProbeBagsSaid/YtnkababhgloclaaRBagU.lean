/- The document's bag walked: Undo, Keep where nothing is there. -/
import Derived.Test.YtnkababhgloclaaRBagG
namespace Go.Proofs.Ytnkababhgloclaa
open Go.RowKit Go.ChangeShapes
def zt6 : List Value := [.int .i64 0, .bool false, .string ⟨#[]⟩, .int .i64 0, .bool false, .string ⟨#[]⟩]
theorem zt6_there (w : World) : (w.alloc (.cells #[.int .i64 0, .bool false, .string ⟨#[]⟩, .int .i64 0, .bool false, .string ⟨#[]⟩] 92)).there w.heap.size 0 6 := fun j hj => ⟨by
  rw [cell_of_row _ _ _ _ _ _ (heap_alloc_new w (.cells #[.int .i64 0, .bool false, .string ⟨#[]⟩, .int .i64 0, .bool false, .string ⟨#[]⟩] 92))]
  exact Option.isSome_iff_exists.2 ⟨_, Array.getElem?_eq_getElem (by simp; omega)⟩, frozen_of_row _ _ _ _ _ (heap_alloc_new w (.cells #[.int .i64 0, .bool false, .string ⟨#[]⟩, .int .i64 0, .bool false, .string ⟨#[]⟩] 92))⟩
theorem zt6_one : ∀ u ∈ zt6, u.oneCell' = true := rc6_one [⟨0, false, ⟨#[]⟩, 0, false, ⟨#[]⟩⟩]
theorem ends6 {w : World} {p : Nat} {t : RT} (h : w.heap[p]? = some (.cells t.cells.toArray 92 (0, 0))) : w.cell? ⟨p, 0, none⟩ = some (.int .i64 t.id) ∧ w.cell? ⟨p, 1, none⟩ = some (.bool t.mark) ∧ w.cell? ⟨p, 2, none⟩ = some (.string t.name) ∧ w.cell? ⟨p, 3, none⟩ = some (.int .i64 t.code) ∧ w.cell? ⟨p, 4, none⟩ = some (.bool t.pan) ∧ w.cell? ⟨p, 5, none⟩ = some (.string t.word) :=
  ⟨(cell_of_row w p 0 _ _ _ h).trans rfl, (cell_of_row w p 1 _ _ _ h).trans rfl, (cell_of_row w p 2 _ _ _ h).trans rfl, (cell_of_row w p 3 _ _ _ h).trans rfl, (cell_of_row w p 4 _ _ _ h).trans rfl, (cell_of_row w p 5 _ _ _ h).trans rfl⟩
set_option maxHeartbeats 4000000 in
set_option maxRecDepth 100000 in
theorem rundo_done {w : World} {B m : Nat} {L : List RT} {last : Int} (h : RBagAt w B m L last true) (id : Int) :
    Calls Try.prog 38 #[.pointer (some ⟨m, 0, none⟩), .int .i64 id] w fun e w' => e = .returned (.tuple #[.agg zt6.toArray, .int .i64 5]) ∧ Below w.heap.size w w' := by
  have ba : Below w.heap.size w (w.alloc (.cells #[.int .i64 0, .bool false, .string ⟨#[]⟩, .int .i64 0, .bool false, .string ⟨#[]⟩] 92)) := (Below.refl _ w).alloc (Nat.le_refl _) _
  obtain ⟨a, c, c0, c1, c2, ho⟩ := (h.below ba).cells
  have TH := Lib.hid (zt6_there w)
  have BA := Lib.hid ba
  clear h ba c0 c1 ho
  go_enter Try.func38, Try.ntmps38
  go_wp2_with (refine wpList_store_all (by rfl) 92 (.tmp 4) (.tmp 12) (by rfl) w.heap.size 0 zt6 (by kernel_rfl) (by kernel_rfl) TH.out (by kernel_rfl) zt6_one ?_)
  intro W4 HW4
  have hh := heap_setCells_same zt6 _ 0 _ (heap_alloc_new w (.cells #[.int .i64 0, .bool false, .string ⟨#[]⟩, .int .i64 0, .bool false, .string ⟨#[]⟩] 92))
  rw [← HW4.out] at hh
  have hk : W4.heap[w.heap.size]? = some (.cells #[.int .i64 0, .bool false, .string ⟨#[]⟩, .int .i64 0, .bool false, .string ⟨#[]⟩] 92 (0, 0)) := hh
  have BW : Hid (Below w.heap.size w W4) := Lib.hid (by
    rw [HW4.out]
    exact BA.out.trans (below_lay (Nat.le_refl _) _ _ _))
  obtain ⟨v0, v1, v2, v3, v4, v5⟩ := ends6 (t := ⟨0, false, ⟨#[]⟩, 0, false, ⟨#[]⟩⟩) hk
  simp only at v0 v1 v2 v3 v4 v5
  clear hh hk
  clear HW4
  go_wp2_with fail
  refine bodyPost_ret (v := .tuple #[.agg zt6.toArray, .int .i64 5]) (by simp [results, Try.results38, go_sem, v0, v1, v2, v3, v4, v5, zt6]) rfl ?_
  exact ⟨rfl, BW.out⟩
set_option maxHeartbeats 4000000 in
set_option maxRecDepth 100000 in
theorem rundo_none {w : World} {B m : Nat} {L : List RT} {last : Int} (h : RBagAt w B m L last false) (hl : L.length ≤ 256) (id : Int) (hp : posR L id false = none) :
    Calls Try.prog 38 #[.pointer (some ⟨m, 0, none⟩), .int .i64 id] w fun e w' => e = .returned (.tuple #[.agg zt6.toArray, .int .i64 6]) ∧ Below w.heap.size w w' := by
  have ba : Below w.heap.size w (w.alloc (.cells #[.int .i64 0, .bool false, .string ⟨#[]⟩, .int .i64 0, .bool false, .string ⟨#[]⟩] 92)) := (Below.refl _ w).alloc (Nat.le_refl _) _
  obtain ⟨a, c, c0, c1, c2, ho⟩ := (h.below ba).cells
  have CF0 := rfind_any (h.below ba) hl id false
  rw [hp, show placeR none = (-1 : Int) from rfl] at CF0
  have CF := Lib.hid CF0
  have TH := Lib.hid (zt6_there w)
  have BA := Lib.hid ba
  have hlt : (-1 : Int) < 0 := by decide
  clear h ba c0 c1 ho CF0 hp hl
  go_enter Try.func38, Try.ntmps38
  go_wp2_with fail
  refine CF.out.mono ?_
  rintro e w1 ⟨rfl, rfl⟩
  go_wp2_with (refine wpList_store_all (by rfl) 92 (.tmp 4) (.tmp 18) (by rfl) w.heap.size 0 zt6 (by kernel_rfl) (by kernel_rfl) TH.out (by kernel_rfl) zt6_one ?_)
  intro W4 HW4
  have hh := heap_setCells_same zt6 _ 0 _ (heap_alloc_new w (.cells #[.int .i64 0, .bool false, .string ⟨#[]⟩, .int .i64 0, .bool false, .string ⟨#[]⟩] 92))
  rw [← HW4.out] at hh
  have hk : W4.heap[w.heap.size]? = some (.cells #[.int .i64 0, .bool false, .string ⟨#[]⟩, .int .i64 0, .bool false, .string ⟨#[]⟩] 92 (0, 0)) := hh
  have BW : Hid (Below w.heap.size w W4) := Lib.hid (by
    rw [HW4.out]
    exact BA.out.trans (below_lay (Nat.le_refl _) _ _ _))
  obtain ⟨v0, v1, v2, v3, v4, v5⟩ := ends6 (t := ⟨0, false, ⟨#[]⟩, 0, false, ⟨#[]⟩⟩) hk
  simp only at v0 v1 v2 v3 v4 v5
  clear hh hk
  clear HW4
  go_wp2_with fail
  refine bodyPost_ret (v := .tuple #[.agg zt6.toArray, .int .i64 6]) (by simp [results, Try.results38, go_sem, v0, v1, v2, v3, v4, v5, zt6]) rfl ?_
  exact ⟨rfl, BW.out⟩
end Go.Proofs.Ytnkababhgloclaa
