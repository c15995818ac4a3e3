/- The families' arrays, written out; Table and the accessor of each by contract. -/
import Derived.Test.YtdhlmflbefnekaaDoorTabLib
namespace Go.Proofs.YtdhlmflbefnekaaDoor
open Go.RowKit

/-- bus's array. -/
def busL : List Int := [271672320, 279750992, 284866528, 289982064, 295097600, 300213136, 305328672, 310444208, 315559744, 320675280, 325790816, 330906352, 336021888, 341137424, 346252960, 351368496, 356484032, 361599568, 366715104, 411830640]
theorem bus_len : busL.length = 20 := rfl
def busAt (w : World) : Prop := TabAt w 0 busL
theorem busAt.grown {w w' : World} (h : busAt w) (hb : Below w.heap.size w w') : busAt w' := TabAt.grown h hb
theorem busAt.cell {w : World} (h : busAt w) (k : Nat) (hk : k < 20) : w.cell? ⟨0, k, none⟩ = some (.int .i64 (nth busL k)) := TabAt.cell h k hk
theorem busAt.pos {w : World} (h : busAt w) : 0 < w.heap.size := TabAt.pos h
theorem bus_named : Tryd.prog.globalNamed "reveille/bus.table" = some 0 := by kernel_rfl
theorem bus_mk {W : World} (h : Lib.TabIs Tryd.prog W "reveille/bus.table" .i64 busL) : busAt W := TabAt.of bus_named h
theorem bus_bd : ∀ k, k < 20 → 0 ≤ nth busL k ∧ nth busL k ≤ 4294967296 := by decide +kernel
theorem bus_cells : (Tryd.prog.info? 22).map (·.size) = some (arrV busL).size := by kernel_rfl
theorem bus_eql (w : World) : (binOp .eql 22 (.agg (arrV busL)) (.agg (arrV busL))).run Tryd.prog w = .ok (.bool true) w := by kernel_rfl
theorem bus_neq (w : World) : (binOp .neq 22 (.agg (arrV busL)) (.agg (arrV busL))).run Tryd.prog w = .ok (.bool false) w := by kernel_rfl
theorem bus_table (w : World) (hT : busAt w) :
    Calls Tryd.prog 9 #[] w fun e w' => e = .returned (.agg (arrV busL)) ∧ w' = w.alloc (.cells (arrV busL) 22) := by
  have hp := hT.pos
  obtain ⟨t, fr, hT⟩ := hT
  have hg : ∀ o, (w.alloc o).heap[0]? = some (.cells (arrV busL) t fr) := fun o => (Below.heap_alloc w o 0 hp).trans hT
  go_enter Tryd.func9, Tryd.ntmps9
  go_wp2_with (first | (refine wpList_load_row rfl 22 _ rfl 0 rfl t _ fr _ (hg _) Tryd.underlying22 rfl bus_cells ?_) | (refine wpList_store_row rfl 22 _ _ rfl w.heap.size (arrV busL) rfl rfl 22 _ (heap_alloc_new w _) bus_cells rfl (arrV_all _) ?_; rw [setRow_alloc]))
  refine bodyPost_ret (v := .agg (arrV busL)) (results_cell_row rfl _ _ w.heap.size 22 (arrV busL) (0, 0) _ rfl (heap_alloc_new w _) Tryd.underlying22 rfl bus_cells) rfl ⟨rfl, rfl⟩
theorem bus_in (k : Nat) (w : World) (hk : k < 20) (hT : busAt w) :
    Calls Tryd.prog 15 #[.int .i64 k] w fun e w' => e = .returned (.tuple #[.int .i64 (nth busL k), .int .i64 0]) ∧ w = w' := by
  have hc := hT.cell k hk
  go_enter Tryd.func15, Tryd.ntmps15
  go_wp2
  go_ret2
  exact ⟨rfl, rfl⟩
theorem bus_out (i : Int) (w : World) (hk : i < 0 ∨ 20 ≤ i) :
    Calls Tryd.prog 15 #[.int .i64 i] w fun e w' => e = .returned (.tuple #[.int .i64 0, .int .i64 1]) ∧ w = w' := by
  rcases hk with h | h
  · go_enter Tryd.func15, Tryd.ntmps15
    go_wp2
    go_ret2
    exact ⟨rfl, rfl⟩
  · have h' : ¬ i < 0 := by omega
    go_enter Tryd.func15, Tryd.ntmps15
    go_wp2
    go_ret2
    exact ⟨rfl, rfl⟩
end Go.Proofs.YtdhlmflbefnekaaDoor
