/- The families' arrays, written out; Table and the accessor of each by contract. -/
import Derived.Test.YtlkkkohgeakfaaaDoorTabLib
namespace Go.Proofs.YtlkkkohgeakfaaaDoor
open Go.RowKit

/-- bus's array. -/
def busL : List Int := [271672320, 279750992, 284866528, 289982064, 295097600, 300213136, 305328672, 310444208, 315559744, 320675280, 325790816, 330906352, 336021888, 341137424, 346252960, 351368496, 356484032, 361599568, 366715104, 411830640]
theorem bus_len : busL.length = 20 := rfl
def busAt (w : World) : Prop := TabAt w 1 busL
theorem busAt.grown {w w' : World} (h : busAt w) (hb : Below w.heap.size w w') : busAt w' := TabAt.grown h hb
theorem busAt.cell {w : World} (h : busAt w) (k : Nat) (hk : k < 20) : w.cell? ⟨1, k, none⟩ = some (.int .i64 (nth busL k)) := TabAt.cell h k hk
theorem busAt.pos {w : World} (h : busAt w) : 1 < w.heap.size := TabAt.pos h
theorem bus_named : Tryd.prog.globalNamed "reveille/bus.table" = some 1 := by kernel_rfl
theorem bus_mk {W : World} (h : Lib.TabIs Tryd.prog W "reveille/bus.table" .i64 busL) : busAt W := TabAt.of bus_named h
theorem bus_bd : ∀ k, k < 20 → 0 ≤ nth busL k ∧ nth busL k ≤ 4294967296 := by decide +kernel
theorem bus_cells : (Tryd.prog.info? 22).map (·.size) = some (arrV busL).size := by kernel_rfl
theorem bus_eql (w : World) : (binOp .eql 22 (.agg (arrV busL)) (.agg (arrV busL))).run Tryd.prog w = .ok (.bool true) w := by kernel_rfl
theorem bus_neq (w : World) : (binOp .neq 22 (.agg (arrV busL)) (.agg (arrV busL))).run Tryd.prog w = .ok (.bool false) w := by kernel_rfl
theorem bus_table (w : World) (hT : busAt w) :
    Calls Tryd.prog 10 #[] w fun e w' => e = .returned (.agg (arrV busL)) ∧ w' = w.alloc (.cells (arrV busL) 22) := by
  have hp := hT.pos
  obtain ⟨t, fr, hT⟩ := hT
  have hg : ∀ o, (w.alloc o).heap[1]? = some (.cells (arrV busL) t fr) := fun o => (Below.heap_alloc w o 1 hp).trans hT
  go_enter Tryd.func10, Tryd.ntmps10
  go_wp2_with (first | (refine wpList_load_row rfl 22 _ rfl 1 rfl t _ fr _ (hg _) Tryd.underlying22 rfl bus_cells ?_) | (refine wpList_store_row rfl 22 _ _ rfl w.heap.size (arrV busL) rfl rfl 22 _ (heap_alloc_new w _) bus_cells rfl (arrV_all _) ?_; rw [setRow_alloc]))
  refine bodyPost_ret (v := .agg (arrV busL)) (results_cell_row rfl _ _ w.heap.size 22 (arrV busL) (0, 0) _ rfl (heap_alloc_new w _) Tryd.underlying22 rfl bus_cells) rfl ⟨rfl, rfl⟩
/-- sensor's array. -/
def sensorL : List Int := [625000, 2122500, 3145000, 4167500, 5190000, 6212500, 7235000, 8257500, 9280000, 10302500, 11325000, 12347500, 13370000, 14392500, 15415000, 16937500]
theorem sensor_len : sensorL.length = 16 := rfl
def sensorAt (w : World) : Prop := TabAt w 2 sensorL
theorem sensorAt.grown {w w' : World} (h : sensorAt w) (hb : Below w.heap.size w w') : sensorAt w' := TabAt.grown h hb
theorem sensorAt.cell {w : World} (h : sensorAt w) (k : Nat) (hk : k < 16) : w.cell? ⟨2, k, none⟩ = some (.int .i64 (nth sensorL k)) := TabAt.cell h k hk
theorem sensorAt.pos {w : World} (h : sensorAt w) : 2 < w.heap.size := TabAt.pos h
theorem sensor_named : Tryd.prog.globalNamed "reveille/sensor.table" = some 2 := by kernel_rfl
theorem sensor_mk {W : World} (h : Lib.TabIs Tryd.prog W "reveille/sensor.table" .i64 sensorL) : sensorAt W := TabAt.of sensor_named h
theorem sensor_bd : ∀ k, k < 16 → 0 ≤ nth sensorL k ∧ nth sensorL k ≤ 4294967296 := by decide +kernel
theorem sensor_cells : (Tryd.prog.info? 24).map (·.size) = some (arrV sensorL).size := by kernel_rfl
theorem sensor_eql (w : World) : (binOp .eql 24 (.agg (arrV sensorL)) (.agg (arrV sensorL))).run Tryd.prog w = .ok (.bool true) w := by kernel_rfl
theorem sensor_neq (w : World) : (binOp .neq 24 (.agg (arrV sensorL)) (.agg (arrV sensorL))).run Tryd.prog w = .ok (.bool false) w := by kernel_rfl
theorem sensor_table (w : World) (hT : sensorAt w) :
    Calls Tryd.prog 11 #[] w fun e w' => e = .returned (.agg (arrV sensorL)) ∧ w' = w.alloc (.cells (arrV sensorL) 24) := by
  have hp := hT.pos
  obtain ⟨t, fr, hT⟩ := hT
  have hg : ∀ o, (w.alloc o).heap[2]? = some (.cells (arrV sensorL) t fr) := fun o => (Below.heap_alloc w o 2 hp).trans hT
  go_enter Tryd.func11, Tryd.ntmps11
  go_wp2_with (first | (refine wpList_load_row rfl 24 _ rfl 2 rfl t _ fr _ (hg _) Tryd.underlying24 rfl sensor_cells ?_) | (refine wpList_store_row rfl 24 _ _ rfl w.heap.size (arrV sensorL) rfl rfl 24 _ (heap_alloc_new w _) sensor_cells rfl (arrV_all _) ?_; rw [setRow_alloc]))
  refine bodyPost_ret (v := .agg (arrV sensorL)) (results_cell_row rfl _ _ w.heap.size 24 (arrV sensorL) (0, 0) _ rfl (heap_alloc_new w _) Tryd.underlying24 rfl sensor_cells) rfl ⟨rfl, rfl⟩
/-- radio's array. -/
def radioL : List Int := [432920000, 444020992, 451206528, 458392064, 465577600, 472763136, 479948672, 487134208, 494319744, 501505280, 508690816, 515876352, 523061888, 530247424, 537432960, 545618496, 518134032, 526269568, 533455104, 580610000]
theorem radio_len : radioL.length = 20 := rfl
def radioAt (w : World) : Prop := TabAt w 0 radioL
theorem radioAt.grown {w w' : World} (h : radioAt w) (hb : Below w.heap.size w w') : radioAt w' := TabAt.grown h hb
theorem radioAt.cell {w : World} (h : radioAt w) (k : Nat) (hk : k < 20) : w.cell? ⟨0, k, none⟩ = some (.int .i64 (nth radioL k)) := TabAt.cell h k hk
theorem radioAt.pos {w : World} (h : radioAt w) : 0 < w.heap.size := TabAt.pos h
theorem radio_named : Tryd.prog.globalNamed "reveille/radio.table" = some 0 := by kernel_rfl
theorem radio_mk {W : World} (h : Lib.TabIs Tryd.prog W "reveille/radio.table" .i64 radioL) : radioAt W := TabAt.of radio_named h
theorem radio_bd : ∀ k, k < 20 → 0 ≤ nth radioL k ∧ nth radioL k ≤ 4294967296 := by decide +kernel
theorem radio_cells : (Tryd.prog.info? 22).map (·.size) = some (arrV radioL).size := by kernel_rfl
theorem radio_eql (w : World) : (binOp .eql 22 (.agg (arrV radioL)) (.agg (arrV radioL))).run Tryd.prog w = .ok (.bool true) w := by kernel_rfl
theorem radio_neq (w : World) : (binOp .neq 22 (.agg (arrV radioL)) (.agg (arrV radioL))).run Tryd.prog w = .ok (.bool false) w := by kernel_rfl
theorem radio_table (w : World) (hT : radioAt w) :
    Calls Tryd.prog 9 #[] w fun e w' => e = .returned (.agg (arrV radioL)) ∧ w' = w.alloc (.cells (arrV radioL) 22) := by
  have hp := hT.pos
  obtain ⟨t, fr, hT⟩ := hT
  have hg : ∀ o, (w.alloc o).heap[0]? = some (.cells (arrV radioL) t fr) := fun o => (Below.heap_alloc w o 0 hp).trans hT
  go_enter Tryd.func9, Tryd.ntmps9
  go_wp2_with (first | (refine wpList_load_row rfl 22 _ rfl 0 rfl t _ fr _ (hg _) Tryd.underlying22 rfl radio_cells ?_) | (refine wpList_store_row rfl 22 _ _ rfl w.heap.size (arrV radioL) rfl rfl 22 _ (heap_alloc_new w _) radio_cells rfl (arrV_all _) ?_; rw [setRow_alloc]))
  refine bodyPost_ret (v := .agg (arrV radioL)) (results_cell_row rfl _ _ w.heap.size 22 (arrV radioL) (0, 0) _ rfl (heap_alloc_new w _) Tryd.underlying22 rfl radio_cells) rfl ⟨rfl, rfl⟩
theorem radio_in (k : Nat) (w : World) (hk : k < 20) (hT : radioAt w) :
    Calls Tryd.prog 12 #[.int .i64 k] w fun e w' => e = .returned (.tuple #[.int .i64 (nth radioL k), .int .i64 0]) ∧ w = w' := by
  have hc := hT.cell k hk
  go_enter Tryd.func12, Tryd.ntmps12
  go_wp2
  go_ret2
  exact ⟨rfl, rfl⟩
theorem radio_out (i : Int) (w : World) (hk : i < 0 ∨ 20 ≤ i) :
    Calls Tryd.prog 12 #[.int .i64 i] w fun e w' => e = .returned (.tuple #[.int .i64 0, .int .i64 1]) ∧ w = w' := by
  rcases hk with h | h
  · go_enter Tryd.func12, Tryd.ntmps12
    go_wp2
    go_ret2
    exact ⟨rfl, rfl⟩
  · have h' : ¬ i < 0 := by omega
    go_enter Tryd.func12, Tryd.ntmps12
    go_wp2
    go_ret2
    exact ⟨rfl, rfl⟩
end Go.Proofs.YtlkkkohgeakfaaaDoor
