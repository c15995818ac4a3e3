/- The families' arrays, written out; Table and the accessor of each by contract. -/
import Derived.Test.YtnomamimpnogpaaDoorTabLib
namespace Go.Proofs.YtnomamimpnogpaaDoor
open Go.RowKit

/-- crystal's array. -/
def crystalL : List Int := [32768, 2000000, 3000000, 4000000, 5000000, 6000000, 7000000, 8000000, 9000000, 10000000, 11000000, 12000000, 13000000, 14000000, 15000000, 16000000, 17000000, 18000000, 19000000, 20000000, 21000000, 22000000, 23000000, 24000000, 25000000, 26000000, 27000000, 28000000, 29000000, 30000000, 31000000, 100000000]
theorem crystal_len : crystalL.length = 32 := rfl
def crystalAt (w : World) : Prop := TabAt w 1 crystalL
theorem crystalAt.grown {w w' : World} (h : crystalAt w) (hb : Below w.heap.size w w') : crystalAt w' := TabAt.grown h hb
theorem crystalAt.cell {w : World} (h : crystalAt w) (k : Nat) (hk : k < 32) : w.cell? ⟨1, k, none⟩ = some (.int .i64 (nth crystalL k)) := TabAt.cell h k hk
theorem crystalAt.pos {w : World} (h : crystalAt w) : 1 < w.heap.size := TabAt.pos h
theorem crystal_named : Tryd.prog.globalNamed "reveille/crystal.table" = some 1 := by kernel_rfl
theorem crystal_mk {W : World} (h : Lib.TabIs Tryd.prog W "reveille/crystal.table" .i64 crystalL) : crystalAt W := TabAt.of crystal_named h
theorem crystal_bd : ∀ k, k < 32 → 0 ≤ nth crystalL k ∧ nth crystalL k ≤ 4294967296 := by decide +kernel
theorem crystal_cells : (Tryd.prog.info? 71).map (·.size) = some (arrV crystalL).size := by kernel_rfl
theorem crystal_eql (w : World) : (binOp .eql 71 (.agg (arrV crystalL)) (.agg (arrV crystalL))).run Tryd.prog w = .ok (.bool true) w := by kernel_rfl
theorem crystal_neq (w : World) : (binOp .neq 71 (.agg (arrV crystalL)) (.agg (arrV crystalL))).run Tryd.prog w = .ok (.bool false) w := by kernel_rfl
theorem crystal_table (w : World) (hT : crystalAt w) :
    Calls Tryd.prog 36 #[] w fun e w' => e = .returned (.agg (arrV crystalL)) ∧ w' = w.alloc (.cells (arrV crystalL) 71) := by
  have hp := hT.pos
  obtain ⟨t, fr, hT⟩ := hT
  have hg : ∀ o, (w.alloc o).heap[1]? = some (.cells (arrV crystalL) t fr) := fun o => (Below.heap_alloc w o 1 hp).trans hT
  go_enter Tryd.func36, Tryd.ntmps36
  go_wp2_with (first | (refine wpList_load_row rfl 71 _ rfl 1 rfl t _ fr _ (hg _) Tryd.underlying71 rfl crystal_cells ?_) | (refine wpList_store_row rfl 71 _ _ rfl w.heap.size (arrV crystalL) rfl rfl 71 _ (heap_alloc_new w _) crystal_cells rfl (arrV_all _) ?_; rw [setRow_alloc]))
  refine bodyPost_ret (v := .agg (arrV crystalL)) (results_cell_row rfl _ _ w.heap.size 71 (arrV crystalL) (0, 0) _ rfl (heap_alloc_new w _) Tryd.underlying71 rfl crystal_cells) rfl ⟨rfl, rfl⟩
/-- supply's array. -/
def supplyL : List Int := [800000, 2312500, 3325000, 4337500, 5350000, 6362500, 7375000, 8387500, 9400000, 10412500, 11425000, 12437500, 13450000, 14462500, 15475000, 16487500, 17500000, 18512500, 19525000, 20537500, 21550000, 22562500, 23575000, 25000000]
theorem supply_len : supplyL.length = 24 := rfl
def supplyAt (w : World) : Prop := TabAt w 0 supplyL
theorem supplyAt.grown {w w' : World} (h : supplyAt w) (hb : Below w.heap.size w w') : supplyAt w' := TabAt.grown h hb
theorem supplyAt.cell {w : World} (h : supplyAt w) (k : Nat) (hk : k < 24) : w.cell? ⟨0, k, none⟩ = some (.int .i64 (nth supplyL k)) := TabAt.cell h k hk
theorem supplyAt.pos {w : World} (h : supplyAt w) : 0 < w.heap.size := TabAt.pos h
theorem supply_named : Tryd.prog.globalNamed "reveille/supply.table" = some 0 := by kernel_rfl
theorem supply_mk {W : World} (h : Lib.TabIs Tryd.prog W "reveille/supply.table" .i64 supplyL) : supplyAt W := TabAt.of supply_named h
theorem supply_bd : ∀ k, k < 24 → 0 ≤ nth supplyL k ∧ nth supplyL k ≤ 4294967296 := by decide +kernel
theorem supply_cells : (Tryd.prog.info? 36).map (·.size) = some (arrV supplyL).size := by kernel_rfl
theorem supply_eql (w : World) : (binOp .eql 36 (.agg (arrV supplyL)) (.agg (arrV supplyL))).run Tryd.prog w = .ok (.bool true) w := by kernel_rfl
theorem supply_neq (w : World) : (binOp .neq 36 (.agg (arrV supplyL)) (.agg (arrV supplyL))).run Tryd.prog w = .ok (.bool false) w := by kernel_rfl
theorem supply_table (w : World) (hT : supplyAt w) :
    Calls Tryd.prog 15 #[] w fun e w' => e = .returned (.agg (arrV supplyL)) ∧ w' = w.alloc (.cells (arrV supplyL) 36) := by
  have hp := hT.pos
  obtain ⟨t, fr, hT⟩ := hT
  have hg : ∀ o, (w.alloc o).heap[0]? = some (.cells (arrV supplyL) t fr) := fun o => (Below.heap_alloc w o 0 hp).trans hT
  go_enter Tryd.func15, Tryd.ntmps15
  go_wp2_with (first | (refine wpList_load_row rfl 36 _ rfl 0 rfl t _ fr _ (hg _) Tryd.underlying36 rfl supply_cells ?_) | (refine wpList_store_row rfl 36 _ _ rfl w.heap.size (arrV supplyL) rfl rfl 36 _ (heap_alloc_new w _) supply_cells rfl (arrV_all _) ?_; rw [setRow_alloc]))
  refine bodyPost_ret (v := .agg (arrV supplyL)) (results_cell_row rfl _ _ w.heap.size 36 (arrV supplyL) (0, 0) _ rfl (heap_alloc_new w _) Tryd.underlying36 rfl supply_cells) rfl ⟨rfl, rfl⟩
theorem supply_in (k : Nat) (w : World) (hk : k < 24) (hT : supplyAt w) :
    Calls Tryd.prog 19 #[.int .i64 k] w fun e w' => e = .returned (.tuple #[.int .i64 (nth supplyL k), .int .i64 0]) ∧ w = w' := by
  have hc := hT.cell k hk
  go_enter Tryd.func19, Tryd.ntmps19
  go_wp2
  go_ret2
  exact ⟨rfl, rfl⟩
theorem supply_out (i : Int) (w : World) (hk : i < 0 ∨ 24 ≤ i) :
    Calls Tryd.prog 19 #[.int .i64 i] w fun e w' => e = .returned (.tuple #[.int .i64 0, .int .i64 1]) ∧ w = w' := by
  rcases hk with h | h
  · go_enter Tryd.func19, Tryd.ntmps19
    go_wp2
    go_ret2
    exact ⟨rfl, rfl⟩
  · have h' : ¬ i < 0 := by omega
    go_enter Tryd.func19, Tryd.ntmps19
    go_wp2
    go_ret2
    exact ⟨rfl, rfl⟩
end Go.Proofs.YtnomamimpnogpaaDoor
