/- One thing is undone; one is kept. -/
import Derived.Test.YtnkababhgloclaaCloseB
namespace Go.Proofs.Ytnkababhgloclaa
open Go.RowKit Go.ChangeShapes
def zr5 : List Value := [.int .i64 0, .string ⟨#[]⟩, .int .i64 0, .bool false, .string ⟨#[]⟩]
theorem zr5_there (w : World) : (w.alloc (.cells #[.int .i64 0, .string ⟨#[]⟩, .int .i64 0, .bool false, .string ⟨#[]⟩] 83)).there w.heap.size 0 5 := fun j hj => ⟨by
  rw [cell_of_row _ _ _ _ _ _ (heap_alloc_new w (.cells #[.int .i64 0, .string ⟨#[]⟩, .int .i64 0, .bool false, .string ⟨#[]⟩] 83))]
  exact Option.isSome_iff_exists.2 ⟨_, Array.getElem?_eq_getElem (by simp; omega)⟩, frozen_of_row _ _ _ _ _ (heap_alloc_new w (.cells #[.int .i64 0, .string ⟨#[]⟩, .int .i64 0, .bool false, .string ⟨#[]⟩] 83))⟩
set_option maxHeartbeats 4000000 in
set_option maxRecDepth 100000 in
theorem undo_done {w : World} {B b : Nat} {L : List Th} {last : Int} {busy closed : Bool} (h : BagAt w B b L last busy closed) (hd : (closed || busy) = true) (id : Int) :
    Calls Try.prog 33 #[.pointer (some ⟨b, 0, none⟩), .int .i64 id] w fun e w' => e = .returned (.tuple #[.agg zr5.toArray, .int .i64 5]) ∧ Below w.heap.size w w' := by
  have ba : Below w.heap.size w (w.alloc (.cells #[.int .i64 0, .string ⟨#[]⟩, .int .i64 0, .bool false, .string ⟨#[]⟩] 83)) := (Below.refl _ w).alloc (Nat.le_refl _) _
  have CW := wrong_any (h.below ba)
  rw [hd] at CW
  have CW := Lib.hid CW
  have TH := Lib.hid (zr5_there w)
  have BA := Lib.hid ba
  clear h hd ba
  go_enter Try.func33, Try.ntmps33
  go_wp2_with fail
  refine CW.out.mono ?_
  rintro e w1 ⟨rfl, rfl⟩
  go_wp2_with (refine wpList_store_all (by rfl) 83 (.tmp 4) (.tmp 13) (by rfl) w.heap.size 0 zr5 (by kernel_rfl) (by kernel_rfl) TH.out (by kernel_rfl) (rcells_one 0 ⟨#[]⟩ (.ret 0)) ?_)
  intro W4 HW4
  have K4 : Hid (W4.heap[w.heap.size]? = some (.cells (rcells 0 ⟨#[]⟩ (.ret 0)).toArray 83 (0, 0)) ∧ Below w.heap.size w W4) := Lib.hid (by
    rw [HW4.out]
    exact ⟨heap_setCells_same zr5 _ 0 _ (heap_alloc_new w _), BA.out.trans (below_lay (Nat.le_refl _) _ _ _)⟩)
  obtain ⟨v0, v1, v2, v3, v4⟩ := ends K4.out.1
  clear HW4
  go_wp2_with fail
  refine bodyPost_ret (v := .tuple #[.agg zr5.toArray, .int .i64 5]) (by simp [results, Try.results33, go_sem, v0, v1, v2, v3, v4, zr5, Beh.code, Beh.pan, Beh.word]; rfl) rfl ?_
  exact ⟨rfl, K4.out.2⟩
set_option maxHeartbeats 4000000 in
set_option maxRecDepth 100000 in
theorem undo_nil (id : Int) (w : World) :
    Calls Try.prog 33 #[.pointer none, .int .i64 id] w fun e w' => e = .returned (.tuple #[.agg zr5.toArray, .int .i64 2]) ∧ Below w.heap.size w w' := by
  have ba : Below w.heap.size w (w.alloc (.cells #[.int .i64 0, .string ⟨#[]⟩, .int .i64 0, .bool false, .string ⟨#[]⟩] 83)) := (Below.refl _ w).alloc (Nat.le_refl _) _
  have CW := Lib.hid (wrong_nil (w.alloc (.cells #[.int .i64 0, .string ⟨#[]⟩, .int .i64 0, .bool false, .string ⟨#[]⟩] 83)))
  have TH := Lib.hid (zr5_there w)
  have BA := Lib.hid ba
  clear ba
  go_enter Try.func33, Try.ntmps33
  go_wp2_with fail
  refine CW.out.mono ?_
  rintro e w1 ⟨rfl, rfl⟩
  go_wp2_with (refine wpList_store_all (by rfl) 83 (.tmp 4) (.tmp 13) (by rfl) w.heap.size 0 zr5 (by kernel_rfl) (by kernel_rfl) TH.out (by kernel_rfl) (rcells_one 0 ⟨#[]⟩ (.ret 0)) ?_)
  intro W4 HW4
  have K4 : Hid (W4.heap[w.heap.size]? = some (.cells (rcells 0 ⟨#[]⟩ (.ret 0)).toArray 83 (0, 0)) ∧ Below w.heap.size w W4) := Lib.hid (by
    rw [HW4.out]
    exact ⟨heap_setCells_same zr5 _ 0 _ (heap_alloc_new w _), BA.out.trans (below_lay (Nat.le_refl _) _ _ _)⟩)
  obtain ⟨v0, v1, v2, v3, v4⟩ := ends K4.out.1
  clear HW4
  go_wp2_with fail
  refine bodyPost_ret (v := .tuple #[.agg zr5.toArray, .int .i64 2]) (by simp [results, Try.results33, go_sem, v0, v1, v2, v3, v4, zr5, Beh.code, Beh.pan, Beh.word]; rfl) rfl ?_
  exact ⟨rfl, K4.out.2⟩
set_option maxHeartbeats 4000000 in
set_option maxRecDepth 100000 in
theorem undo_none {w : World} {B b : Nat} {L : List Th} {last : Int} (h : BagAt w B b L last false false) (hl : L.length ≤ 256) (id : Int) (hp : posT L id false = none) :
    Calls Try.prog 33 #[.pointer (some ⟨b, 0, none⟩), .int .i64 id] w fun e w' => e = .returned (.tuple #[.agg zr5.toArray, .int .i64 6]) ∧ Below w.heap.size w w' := by
  have ba : Below w.heap.size w (w.alloc (.cells #[.int .i64 0, .string ⟨#[]⟩, .int .i64 0, .bool false, .string ⟨#[]⟩] 83)) := (Below.refl _ w).alloc (Nat.le_refl _) _
  have za : (w.alloc (.cells #[.int .i64 0, .string ⟨#[]⟩, .int .i64 0, .bool false, .string ⟨#[]⟩] 83)).heap.size = w.heap.size + 1 := by simp
  have CW := Lib.hid (wrong_any (h.below ba))
  have CF := find_any (h.below ba) hl id false
  rw [hp] at CF
  have CF := Lib.hid CF
  have TH := Lib.hid (zr5_there w)
  have BA := Lib.hid ba
  have ZA := Lib.hid za
  clear h hp hl ba za
  go_enter Try.func33, Try.ntmps33
  go_wp2_with fail
  refine CW.out.mono ?_
  rintro e w1 ⟨rfl, rfl⟩
  go_wp2_with fail
  refine CF.out.mono ?_
  rintro e w2 ⟨rfl, hb⟩
  have HB := Lib.hid hb
  have P4 : Hid (w2.heap[w.heap.size]? = some (.cells #[.int .i64 0, .string ⟨#[]⟩, .int .i64 0, .bool false, .string ⟨#[]⟩] 83 (0, 0))) := Lib.hid ((hb.block w.heap.size (by rw [ZA.out]; omega)).trans (heap_alloc_new w _))
  have TH : Hid (w2.there w.heap.size 0 5) := Lib.hid (fun j hj => ⟨by
    rw [cell_of_row _ _ _ _ _ _ P4.out]
    exact Option.isSome_iff_exists.2 ⟨_, Array.getElem?_eq_getElem (by simp; omega)⟩, frozen_of_row _ _ _ _ _ P4.out⟩)
  clear hb
  simp only [placeI]
  go_wp2_with (refine wpList_store_all (by rfl) 83 (.tmp 4) (.tmp 20) (by rfl) w.heap.size 0 zr5 (by kernel_rfl) (by kernel_rfl) TH.out (by kernel_rfl) (rcells_one 0 ⟨#[]⟩ (.ret 0)) ?_)
  intro W4 HW4
  have K4 : Hid (W4.heap[w.heap.size]? = some (.cells (rcells 0 ⟨#[]⟩ (.ret 0)).toArray 83 (0, 0)) ∧ Below w.heap.size w W4) := Lib.hid (by
    rw [HW4.out]
    exact ⟨heap_setCells_same zr5 _ 0 _ P4.out, (BA.out.trans (HB.out.mono BA.out.size)).trans (below_lay (Nat.le_refl _) _ _ _)⟩)
  obtain ⟨v0, v1, v2, v3, v4⟩ := ends K4.out.1
  clear HW4
  go_wp2_with fail
  refine bodyPost_ret (v := .tuple #[.agg zr5.toArray, .int .i64 6]) (by simp [results, Try.results33, go_sem, v0, v1, v2, v3, v4, zr5, Beh.code, Beh.pan, Beh.word]; rfl) rfl ?_
  exact ⟨rfl, K4.out.2⟩
end Go.Proofs.Ytnkababhgloclaa
