/- Which and Begin, the program's and the document's: run case by case. (Printed by tools/genbus.py.) -/
import Derived.Test.YtdhlmflbefnekaaDoorEvCall
import Derived.Test.YtdhlmflbefnekaaDoorTables
import Derived.KernelRfl
namespace Go.Proofs.YtdhlmflbefnekaaDoor
open Go.RowKit
namespace busRun
def tabs : List (Nat × List Int) := [(0, [271672320, 279750992, 284866528, 289982064, 295097600, 300213136, 305328672, 310444208, 315559744, 320675280, 325790816, 330906352, 336021888, 341137424, 346252960, 351368496, 356484032, 361599568, 366715104, 411830640])]
noncomputable def st : Ev.St := ⟨Ev.heapOf tabs, Tryd.prog.globals.size⟩
theorem tabs_lt : ∀ x ∈ tabs, x.1 < Tryd.prog.globals.size := by
  intro x hx
  exact of_decide_eq_true (List.all_eq_true.1 (by kernel_rfl : tabs.all (fun x => decide (x.1 < Tryd.prog.globals.size)) = true) x hx)
open Ev in
def S : Ev.Sum := ⟨.slc 90 0 20 (.opn 1 20), [(90, .cells 2 20 [] (storeL .lf 0 [.int .i64 (271672320), .int .i64 (279750992), .int .i64 (284866528), .int .i64 (289982064), .int .i64 (295097600), .int .i64 (300213136), .int .i64 (305328672), .int .i64 (310444208), .int .i64 (315559744), .int .i64 (320675280), .int .i64 (325790816), .int .i64 (330906352), .int .i64 (336021888), .int .i64 (341137424), .int .i64 (346252960), .int .i64 (351368496), .int .i64 (356484032), .int .i64 (361599568), .int .i64 (366715104), .int .i64 (411830640)]) true true)], 91⟩
set_option maxRecDepth 1000000 in
theorem fit : Ev.fits S Tryd.prog.globals.size (Ev.runF Tryd.prog 1000000 1000 Tryd.prog.globals.size 10 [] st) = true := by kernel_rfl
noncomputable def k (c : Ev.CallF) : Ev.CallF := Ev.sumF Tryd.prog tabs 10 S c
theorem k_ok [Ev.Env] (c : Ev.CallF) (hc : Ev.FCallOk Tryd.prog c) : Ev.FCallOk Tryd.prog (k c) := Ev.sumF_ok tabs_lt (Ev.runF_ok Tryd.prog 1000000 1000) fit hc
noncomputable def run : Ev.CallF := Ev.runW Tryd.prog 1000000 k 1000
theorem run_ok [Ev.Env] : Ev.FCallOk Tryd.prog run := Ev.runW_ok k_ok 1000
theorem which0 : Ev.valF (.tup [.int .i64 0, .int .i64 6]) (run Tryd.prog.globals.size 17 [.sym (.rng .i64 (-9223372036854775808) 271672319)] st) = true := by kernel_rfl
theorem which1 : Ev.valF (.tup [.int .i64 0, .int .i64 0]) (run Tryd.prog.globals.size 17 [.sym (.rng .i64 271672320 279750991)] st) = true := by kernel_rfl
theorem which2 : Ev.valF (.tup [.int .i64 1, .int .i64 0]) (run Tryd.prog.globals.size 17 [.sym (.rng .i64 279750992 284866527)] st) = true := by kernel_rfl
theorem which3 : Ev.valF (.tup [.int .i64 2, .int .i64 0]) (run Tryd.prog.globals.size 17 [.sym (.rng .i64 284866528 289982063)] st) = true := by kernel_rfl
theorem which4 : Ev.valF (.tup [.int .i64 3, .int .i64 0]) (run Tryd.prog.globals.size 17 [.sym (.rng .i64 289982064 295097599)] st) = true := by kernel_rfl
theorem which5 : Ev.valF (.tup [.int .i64 4, .int .i64 0]) (run Tryd.prog.globals.size 17 [.sym (.rng .i64 295097600 300213135)] st) = true := by kernel_rfl
theorem which6 : Ev.valF (.tup [.int .i64 5, .int .i64 0]) (run Tryd.prog.globals.size 17 [.sym (.rng .i64 300213136 305328671)] st) = true := by kernel_rfl
theorem which7 : Ev.valF (.tup [.int .i64 6, .int .i64 0]) (run Tryd.prog.globals.size 17 [.sym (.rng .i64 305328672 310444207)] st) = true := by kernel_rfl
theorem which8 : Ev.valF (.tup [.int .i64 7, .int .i64 0]) (run Tryd.prog.globals.size 17 [.sym (.rng .i64 310444208 315559743)] st) = true := by kernel_rfl
theorem which9 : Ev.valF (.tup [.int .i64 8, .int .i64 0]) (run Tryd.prog.globals.size 17 [.sym (.rng .i64 315559744 320675279)] st) = true := by kernel_rfl
theorem which10 : Ev.valF (.tup [.int .i64 9, .int .i64 0]) (run Tryd.prog.globals.size 17 [.sym (.rng .i64 320675280 325790815)] st) = true := by kernel_rfl
theorem which11 : Ev.valF (.tup [.int .i64 10, .int .i64 0]) (run Tryd.prog.globals.size 17 [.sym (.rng .i64 325790816 330906351)] st) = true := by kernel_rfl
theorem which12 : Ev.valF (.tup [.int .i64 11, .int .i64 0]) (run Tryd.prog.globals.size 17 [.sym (.rng .i64 330906352 336021887)] st) = true := by kernel_rfl
theorem which13 : Ev.valF (.tup [.int .i64 12, .int .i64 0]) (run Tryd.prog.globals.size 17 [.sym (.rng .i64 336021888 341137423)] st) = true := by kernel_rfl
theorem which14 : Ev.valF (.tup [.int .i64 13, .int .i64 0]) (run Tryd.prog.globals.size 17 [.sym (.rng .i64 341137424 346252959)] st) = true := by kernel_rfl
theorem which15 : Ev.valF (.tup [.int .i64 14, .int .i64 0]) (run Tryd.prog.globals.size 17 [.sym (.rng .i64 346252960 351368495)] st) = true := by kernel_rfl
theorem which16 : Ev.valF (.tup [.int .i64 15, .int .i64 0]) (run Tryd.prog.globals.size 17 [.sym (.rng .i64 351368496 356484031)] st) = true := by kernel_rfl
theorem which17 : Ev.valF (.tup [.int .i64 16, .int .i64 0]) (run Tryd.prog.globals.size 17 [.sym (.rng .i64 356484032 361599567)] st) = true := by kernel_rfl
theorem which18 : Ev.valF (.tup [.int .i64 17, .int .i64 0]) (run Tryd.prog.globals.size 17 [.sym (.rng .i64 361599568 366715103)] st) = true := by kernel_rfl
theorem which19 : Ev.valF (.tup [.int .i64 18, .int .i64 0]) (run Tryd.prog.globals.size 17 [.sym (.rng .i64 366715104 411830639)] st) = true := by kernel_rfl
theorem which20 : Ev.valF (.tup [.int .i64 19, .int .i64 0]) (run Tryd.prog.globals.size 17 [.sym (.rng .i64 411830640 9223372036854775807)] st) = true := by kernel_rfl
theorem rwhich0 : Ev.valF (.tup [.int .i64 0, .int .i64 6]) (run Tryd.prog.globals.size 18 [.sym (.rng .i64 (-9223372036854775808) 271672319)] st) = true := by kernel_rfl
theorem rwhich1 : Ev.valF (.tup [.int .i64 0, .int .i64 0]) (run Tryd.prog.globals.size 18 [.sym (.rng .i64 271672320 279750991)] st) = true := by kernel_rfl
theorem rwhich2 : Ev.valF (.tup [.int .i64 1, .int .i64 0]) (run Tryd.prog.globals.size 18 [.sym (.rng .i64 279750992 284866527)] st) = true := by kernel_rfl
theorem rwhich3 : Ev.valF (.tup [.int .i64 2, .int .i64 0]) (run Tryd.prog.globals.size 18 [.sym (.rng .i64 284866528 289982063)] st) = true := by kernel_rfl
theorem rwhich4 : Ev.valF (.tup [.int .i64 3, .int .i64 0]) (run Tryd.prog.globals.size 18 [.sym (.rng .i64 289982064 295097599)] st) = true := by kernel_rfl
theorem rwhich5 : Ev.valF (.tup [.int .i64 4, .int .i64 0]) (run Tryd.prog.globals.size 18 [.sym (.rng .i64 295097600 300213135)] st) = true := by kernel_rfl
theorem rwhich6 : Ev.valF (.tup [.int .i64 5, .int .i64 0]) (run Tryd.prog.globals.size 18 [.sym (.rng .i64 300213136 305328671)] st) = true := by kernel_rfl
theorem rwhich7 : Ev.valF (.tup [.int .i64 6, .int .i64 0]) (run Tryd.prog.globals.size 18 [.sym (.rng .i64 305328672 310444207)] st) = true := by kernel_rfl
theorem rwhich8 : Ev.valF (.tup [.int .i64 7, .int .i64 0]) (run Tryd.prog.globals.size 18 [.sym (.rng .i64 310444208 315559743)] st) = true := by kernel_rfl
theorem rwhich9 : Ev.valF (.tup [.int .i64 8, .int .i64 0]) (run Tryd.prog.globals.size 18 [.sym (.rng .i64 315559744 320675279)] st) = true := by kernel_rfl
theorem rwhich10 : Ev.valF (.tup [.int .i64 9, .int .i64 0]) (run Tryd.prog.globals.size 18 [.sym (.rng .i64 320675280 325790815)] st) = true := by kernel_rfl
theorem rwhich11 : Ev.valF (.tup [.int .i64 10, .int .i64 0]) (run Tryd.prog.globals.size 18 [.sym (.rng .i64 325790816 330906351)] st) = true := by kernel_rfl
theorem rwhich12 : Ev.valF (.tup [.int .i64 11, .int .i64 0]) (run Tryd.prog.globals.size 18 [.sym (.rng .i64 330906352 336021887)] st) = true := by kernel_rfl
theorem rwhich13 : Ev.valF (.tup [.int .i64 12, .int .i64 0]) (run Tryd.prog.globals.size 18 [.sym (.rng .i64 336021888 341137423)] st) = true := by kernel_rfl
theorem rwhich14 : Ev.valF (.tup [.int .i64 13, .int .i64 0]) (run Tryd.prog.globals.size 18 [.sym (.rng .i64 341137424 346252959)] st) = true := by kernel_rfl
theorem rwhich15 : Ev.valF (.tup [.int .i64 14, .int .i64 0]) (run Tryd.prog.globals.size 18 [.sym (.rng .i64 346252960 351368495)] st) = true := by kernel_rfl
theorem rwhich16 : Ev.valF (.tup [.int .i64 15, .int .i64 0]) (run Tryd.prog.globals.size 18 [.sym (.rng .i64 351368496 356484031)] st) = true := by kernel_rfl
theorem rwhich17 : Ev.valF (.tup [.int .i64 16, .int .i64 0]) (run Tryd.prog.globals.size 18 [.sym (.rng .i64 356484032 361599567)] st) = true := by kernel_rfl
theorem rwhich18 : Ev.valF (.tup [.int .i64 17, .int .i64 0]) (run Tryd.prog.globals.size 18 [.sym (.rng .i64 361599568 366715103)] st) = true := by kernel_rfl
theorem rwhich19 : Ev.valF (.tup [.int .i64 18, .int .i64 0]) (run Tryd.prog.globals.size 18 [.sym (.rng .i64 366715104 411830639)] st) = true := by kernel_rfl
theorem rwhich20 : Ev.valF (.tup [.int .i64 19, .int .i64 0]) (run Tryd.prog.globals.size 18 [.sym (.rng .i64 411830640 9223372036854775807)] st) = true := by kernel_rfl
theorem begin_out0 : Ev.valF (.tup [.int .i64 0, .int .i64 1]) (run Tryd.prog.globals.size 15 [.sym (.rng .i64 (-9223372036854775808) (-1))] st) = true := by kernel_rfl
theorem begin_0 : Ev.valF (.tup [.int .i64 271672320, .int .i64 0]) (run Tryd.prog.globals.size 15 [.int .i64 0] st) = true := by kernel_rfl
theorem begin_1 : Ev.valF (.tup [.int .i64 279750992, .int .i64 0]) (run Tryd.prog.globals.size 15 [.int .i64 1] st) = true := by kernel_rfl
theorem begin_2 : Ev.valF (.tup [.int .i64 284866528, .int .i64 0]) (run Tryd.prog.globals.size 15 [.int .i64 2] st) = true := by kernel_rfl
theorem begin_3 : Ev.valF (.tup [.int .i64 289982064, .int .i64 0]) (run Tryd.prog.globals.size 15 [.int .i64 3] st) = true := by kernel_rfl
theorem begin_4 : Ev.valF (.tup [.int .i64 295097600, .int .i64 0]) (run Tryd.prog.globals.size 15 [.int .i64 4] st) = true := by kernel_rfl
theorem begin_5 : Ev.valF (.tup [.int .i64 300213136, .int .i64 0]) (run Tryd.prog.globals.size 15 [.int .i64 5] st) = true := by kernel_rfl
theorem begin_6 : Ev.valF (.tup [.int .i64 305328672, .int .i64 0]) (run Tryd.prog.globals.size 15 [.int .i64 6] st) = true := by kernel_rfl
theorem begin_7 : Ev.valF (.tup [.int .i64 310444208, .int .i64 0]) (run Tryd.prog.globals.size 15 [.int .i64 7] st) = true := by kernel_rfl
theorem begin_8 : Ev.valF (.tup [.int .i64 315559744, .int .i64 0]) (run Tryd.prog.globals.size 15 [.int .i64 8] st) = true := by kernel_rfl
theorem begin_9 : Ev.valF (.tup [.int .i64 320675280, .int .i64 0]) (run Tryd.prog.globals.size 15 [.int .i64 9] st) = true := by kernel_rfl
theorem begin_10 : Ev.valF (.tup [.int .i64 325790816, .int .i64 0]) (run Tryd.prog.globals.size 15 [.int .i64 10] st) = true := by kernel_rfl
theorem begin_11 : Ev.valF (.tup [.int .i64 330906352, .int .i64 0]) (run Tryd.prog.globals.size 15 [.int .i64 11] st) = true := by kernel_rfl
theorem begin_12 : Ev.valF (.tup [.int .i64 336021888, .int .i64 0]) (run Tryd.prog.globals.size 15 [.int .i64 12] st) = true := by kernel_rfl
theorem begin_13 : Ev.valF (.tup [.int .i64 341137424, .int .i64 0]) (run Tryd.prog.globals.size 15 [.int .i64 13] st) = true := by kernel_rfl
theorem begin_14 : Ev.valF (.tup [.int .i64 346252960, .int .i64 0]) (run Tryd.prog.globals.size 15 [.int .i64 14] st) = true := by kernel_rfl
theorem begin_15 : Ev.valF (.tup [.int .i64 351368496, .int .i64 0]) (run Tryd.prog.globals.size 15 [.int .i64 15] st) = true := by kernel_rfl
theorem begin_16 : Ev.valF (.tup [.int .i64 356484032, .int .i64 0]) (run Tryd.prog.globals.size 15 [.int .i64 16] st) = true := by kernel_rfl
theorem begin_17 : Ev.valF (.tup [.int .i64 361599568, .int .i64 0]) (run Tryd.prog.globals.size 15 [.int .i64 17] st) = true := by kernel_rfl
theorem begin_18 : Ev.valF (.tup [.int .i64 366715104, .int .i64 0]) (run Tryd.prog.globals.size 15 [.int .i64 18] st) = true := by kernel_rfl
theorem begin_19 : Ev.valF (.tup [.int .i64 411830640, .int .i64 0]) (run Tryd.prog.globals.size 15 [.int .i64 19] st) = true := by kernel_rfl
theorem begin_out1 : Ev.valF (.tup [.int .i64 0, .int .i64 1]) (run Tryd.prog.globals.size 15 [.sym (.rng .i64 20 9223372036854775807)] st) = true := by kernel_rfl
theorem rbegin_out0 : Ev.valF (.tup [.int .i64 0, .int .i64 1]) (run Tryd.prog.globals.size 16 [.sym (.rng .i64 (-9223372036854775808) (-1))] st) = true := by kernel_rfl
theorem rbegin_0 : Ev.valF (.tup [.int .i64 271672320, .int .i64 0]) (run Tryd.prog.globals.size 16 [.int .i64 0] st) = true := by kernel_rfl
theorem rbegin_1 : Ev.valF (.tup [.int .i64 279750992, .int .i64 0]) (run Tryd.prog.globals.size 16 [.int .i64 1] st) = true := by kernel_rfl
theorem rbegin_2 : Ev.valF (.tup [.int .i64 284866528, .int .i64 0]) (run Tryd.prog.globals.size 16 [.int .i64 2] st) = true := by kernel_rfl
theorem rbegin_3 : Ev.valF (.tup [.int .i64 289982064, .int .i64 0]) (run Tryd.prog.globals.size 16 [.int .i64 3] st) = true := by kernel_rfl
theorem rbegin_4 : Ev.valF (.tup [.int .i64 295097600, .int .i64 0]) (run Tryd.prog.globals.size 16 [.int .i64 4] st) = true := by kernel_rfl
theorem rbegin_5 : Ev.valF (.tup [.int .i64 300213136, .int .i64 0]) (run Tryd.prog.globals.size 16 [.int .i64 5] st) = true := by kernel_rfl
theorem rbegin_6 : Ev.valF (.tup [.int .i64 305328672, .int .i64 0]) (run Tryd.prog.globals.size 16 [.int .i64 6] st) = true := by kernel_rfl
theorem rbegin_7 : Ev.valF (.tup [.int .i64 310444208, .int .i64 0]) (run Tryd.prog.globals.size 16 [.int .i64 7] st) = true := by kernel_rfl
theorem rbegin_8 : Ev.valF (.tup [.int .i64 315559744, .int .i64 0]) (run Tryd.prog.globals.size 16 [.int .i64 8] st) = true := by kernel_rfl
theorem rbegin_9 : Ev.valF (.tup [.int .i64 320675280, .int .i64 0]) (run Tryd.prog.globals.size 16 [.int .i64 9] st) = true := by kernel_rfl
theorem rbegin_10 : Ev.valF (.tup [.int .i64 325790816, .int .i64 0]) (run Tryd.prog.globals.size 16 [.int .i64 10] st) = true := by kernel_rfl
theorem rbegin_11 : Ev.valF (.tup [.int .i64 330906352, .int .i64 0]) (run Tryd.prog.globals.size 16 [.int .i64 11] st) = true := by kernel_rfl
theorem rbegin_12 : Ev.valF (.tup [.int .i64 336021888, .int .i64 0]) (run Tryd.prog.globals.size 16 [.int .i64 12] st) = true := by kernel_rfl
theorem rbegin_13 : Ev.valF (.tup [.int .i64 341137424, .int .i64 0]) (run Tryd.prog.globals.size 16 [.int .i64 13] st) = true := by kernel_rfl
theorem rbegin_14 : Ev.valF (.tup [.int .i64 346252960, .int .i64 0]) (run Tryd.prog.globals.size 16 [.int .i64 14] st) = true := by kernel_rfl
theorem rbegin_15 : Ev.valF (.tup [.int .i64 351368496, .int .i64 0]) (run Tryd.prog.globals.size 16 [.int .i64 15] st) = true := by kernel_rfl
theorem rbegin_16 : Ev.valF (.tup [.int .i64 356484032, .int .i64 0]) (run Tryd.prog.globals.size 16 [.int .i64 16] st) = true := by kernel_rfl
theorem rbegin_17 : Ev.valF (.tup [.int .i64 361599568, .int .i64 0]) (run Tryd.prog.globals.size 16 [.int .i64 17] st) = true := by kernel_rfl
theorem rbegin_18 : Ev.valF (.tup [.int .i64 366715104, .int .i64 0]) (run Tryd.prog.globals.size 16 [.int .i64 18] st) = true := by kernel_rfl
theorem rbegin_19 : Ev.valF (.tup [.int .i64 411830640, .int .i64 0]) (run Tryd.prog.globals.size 16 [.int .i64 19] st) = true := by kernel_rfl
theorem rbegin_out1 : Ev.valF (.tup [.int .i64 0, .int .i64 1]) (run Tryd.prog.globals.size 16 [.sym (.rng .i64 20 9223372036854775807)] st) = true := by kernel_rfl
/-- the arrays stand, here and in what grows of it. -/
def Stood (W : World) : Prop := W.ShapedOpen Tryd.prog ∧ ∀ x ∈ tabs, Ev.HoldsAt W x.1 x.2 ∧ x.1 < Tryd.prog.globals.size
/-- called with a, f answers these two numbers. -/
def Gives (W : World) (f : FuncId) (a x y : Int) : Prop := ∀ w, Below W.heap.size W w → Calls Tryd.prog f #[.int .i64 a] w fun e w' => e = .returned (.tuple #[.int .i64 x, .int .i64 y]) ∧ Below w.heap.size w w'
theorem gives_of {W : World} (h : Stood W) {f : FuncId} {a x y : Int} {v : Ev.AV} (hr : ∀ [Ev.Env] β, Ev.Rep β v (.int .i64 a)) (hx : Ev.valF (.tup [.int .i64 x, .int .i64 y]) (run Tryd.prog.globals.size f [v] st) = true) : Gives W f a x y := by
  intro w hb
  letI : Ev.Env := ⟨0, fun _ => []⟩
  refine (Ev.run_val h.1 h.2 hb run_ok (vs := #[.int .i64 a]) (fun β => show Ev.Reps β [v] [.int .i64 a] from ⟨_, _, rfl, hr β, rfl⟩) hx).mono ?_
  rintro e w' ⟨⟨u, β, rfl, hu⟩, hw⟩
  exact ⟨by rw [Ev.rep_int2 hu], hw⟩
theorem which_both {W : World} (h : Stood W) (a : Int) (h0 : -9223372036854775808 ≤ a) (h1 : a ≤ 9223372036854775807) : ∃ x y, Gives W 17 a x y ∧ Gives W 18 a x y := by
  have hc : ((-9223372036854775808) ≤ a ∧ a ≤ 271672319) ∨ (271672320 ≤ a ∧ a ≤ 279750991) ∨ (279750992 ≤ a ∧ a ≤ 284866527) ∨ (284866528 ≤ a ∧ a ≤ 289982063) ∨ (289982064 ≤ a ∧ a ≤ 295097599) ∨ (295097600 ≤ a ∧ a ≤ 300213135) ∨ (300213136 ≤ a ∧ a ≤ 305328671) ∨ (305328672 ≤ a ∧ a ≤ 310444207) ∨ (310444208 ≤ a ∧ a ≤ 315559743) ∨ (315559744 ≤ a ∧ a ≤ 320675279) ∨ (320675280 ≤ a ∧ a ≤ 325790815) ∨ (325790816 ≤ a ∧ a ≤ 330906351) ∨ (330906352 ≤ a ∧ a ≤ 336021887) ∨ (336021888 ≤ a ∧ a ≤ 341137423) ∨ (341137424 ≤ a ∧ a ≤ 346252959) ∨ (346252960 ≤ a ∧ a ≤ 351368495) ∨ (351368496 ≤ a ∧ a ≤ 356484031) ∨ (356484032 ≤ a ∧ a ≤ 361599567) ∨ (361599568 ≤ a ∧ a ≤ 366715103) ∨ (366715104 ≤ a ∧ a ≤ 411830639) ∨ (411830640 ≤ a ∧ a ≤ 9223372036854775807) := by omega
  rcases hc with ⟨g0, g1⟩ | ⟨g0, g1⟩ | ⟨g0, g1⟩ | ⟨g0, g1⟩ | ⟨g0, g1⟩ | ⟨g0, g1⟩ | ⟨g0, g1⟩ | ⟨g0, g1⟩ | ⟨g0, g1⟩ | ⟨g0, g1⟩ | ⟨g0, g1⟩ | ⟨g0, g1⟩ | ⟨g0, g1⟩ | ⟨g0, g1⟩ | ⟨g0, g1⟩ | ⟨g0, g1⟩ | ⟨g0, g1⟩ | ⟨g0, g1⟩ | ⟨g0, g1⟩ | ⟨g0, g1⟩ | ⟨g0, g1⟩
  · exact ⟨_, _, gives_of h (fun _ => Ev.rep_rng g0 g1) which0, gives_of h (fun _ => Ev.rep_rng g0 g1) rwhich0⟩
  · exact ⟨_, _, gives_of h (fun _ => Ev.rep_rng g0 g1) which1, gives_of h (fun _ => Ev.rep_rng g0 g1) rwhich1⟩
  · exact ⟨_, _, gives_of h (fun _ => Ev.rep_rng g0 g1) which2, gives_of h (fun _ => Ev.rep_rng g0 g1) rwhich2⟩
  · exact ⟨_, _, gives_of h (fun _ => Ev.rep_rng g0 g1) which3, gives_of h (fun _ => Ev.rep_rng g0 g1) rwhich3⟩
  · exact ⟨_, _, gives_of h (fun _ => Ev.rep_rng g0 g1) which4, gives_of h (fun _ => Ev.rep_rng g0 g1) rwhich4⟩
  · exact ⟨_, _, gives_of h (fun _ => Ev.rep_rng g0 g1) which5, gives_of h (fun _ => Ev.rep_rng g0 g1) rwhich5⟩
  · exact ⟨_, _, gives_of h (fun _ => Ev.rep_rng g0 g1) which6, gives_of h (fun _ => Ev.rep_rng g0 g1) rwhich6⟩
  · exact ⟨_, _, gives_of h (fun _ => Ev.rep_rng g0 g1) which7, gives_of h (fun _ => Ev.rep_rng g0 g1) rwhich7⟩
  · exact ⟨_, _, gives_of h (fun _ => Ev.rep_rng g0 g1) which8, gives_of h (fun _ => Ev.rep_rng g0 g1) rwhich8⟩
  · exact ⟨_, _, gives_of h (fun _ => Ev.rep_rng g0 g1) which9, gives_of h (fun _ => Ev.rep_rng g0 g1) rwhich9⟩
  · exact ⟨_, _, gives_of h (fun _ => Ev.rep_rng g0 g1) which10, gives_of h (fun _ => Ev.rep_rng g0 g1) rwhich10⟩
  · exact ⟨_, _, gives_of h (fun _ => Ev.rep_rng g0 g1) which11, gives_of h (fun _ => Ev.rep_rng g0 g1) rwhich11⟩
  · exact ⟨_, _, gives_of h (fun _ => Ev.rep_rng g0 g1) which12, gives_of h (fun _ => Ev.rep_rng g0 g1) rwhich12⟩
  · exact ⟨_, _, gives_of h (fun _ => Ev.rep_rng g0 g1) which13, gives_of h (fun _ => Ev.rep_rng g0 g1) rwhich13⟩
  · exact ⟨_, _, gives_of h (fun _ => Ev.rep_rng g0 g1) which14, gives_of h (fun _ => Ev.rep_rng g0 g1) rwhich14⟩
  · exact ⟨_, _, gives_of h (fun _ => Ev.rep_rng g0 g1) which15, gives_of h (fun _ => Ev.rep_rng g0 g1) rwhich15⟩
  · exact ⟨_, _, gives_of h (fun _ => Ev.rep_rng g0 g1) which16, gives_of h (fun _ => Ev.rep_rng g0 g1) rwhich16⟩
  · exact ⟨_, _, gives_of h (fun _ => Ev.rep_rng g0 g1) which17, gives_of h (fun _ => Ev.rep_rng g0 g1) rwhich17⟩
  · exact ⟨_, _, gives_of h (fun _ => Ev.rep_rng g0 g1) which18, gives_of h (fun _ => Ev.rep_rng g0 g1) rwhich18⟩
  · exact ⟨_, _, gives_of h (fun _ => Ev.rep_rng g0 g1) which19, gives_of h (fun _ => Ev.rep_rng g0 g1) rwhich19⟩
  · exact ⟨_, _, gives_of h (fun _ => Ev.rep_rng g0 g1) which20, gives_of h (fun _ => Ev.rep_rng g0 g1) rwhich20⟩
theorem begin_both {W : World} (h : Stood W) (a : Int) (h0 : -9223372036854775808 ≤ a) (h1 : a ≤ 9223372036854775807) : ∃ x y, Gives W 15 a x y ∧ Gives W 16 a x y := by
  have hc : (-9223372036854775808 ≤ a ∧ a ≤ -1) ∨ a = 0 ∨ a = 1 ∨ a = 2 ∨ a = 3 ∨ a = 4 ∨ a = 5 ∨ a = 6 ∨ a = 7 ∨ a = 8 ∨ a = 9 ∨ a = 10 ∨ a = 11 ∨ a = 12 ∨ a = 13 ∨ a = 14 ∨ a = 15 ∨ a = 16 ∨ a = 17 ∨ a = 18 ∨ a = 19 ∨ (20 ≤ a ∧ a ≤ 9223372036854775807) := by omega
  rcases hc with ⟨g0, g1⟩ | rfl | rfl | rfl | rfl | rfl | rfl | rfl | rfl | rfl | rfl | rfl | rfl | rfl | rfl | rfl | rfl | rfl | rfl | rfl | rfl | ⟨g0, g1⟩
  · exact ⟨_, _, gives_of h (fun _ => Ev.rep_rng g0 g1) begin_out0, gives_of h (fun _ => Ev.rep_rng g0 g1) rbegin_out0⟩
  · exact ⟨_, _, gives_of h (v := .int .i64 0) (fun _ => rfl) begin_0, gives_of h (v := .int .i64 0) (fun _ => rfl) rbegin_0⟩
  · exact ⟨_, _, gives_of h (v := .int .i64 1) (fun _ => rfl) begin_1, gives_of h (v := .int .i64 1) (fun _ => rfl) rbegin_1⟩
  · exact ⟨_, _, gives_of h (v := .int .i64 2) (fun _ => rfl) begin_2, gives_of h (v := .int .i64 2) (fun _ => rfl) rbegin_2⟩
  · exact ⟨_, _, gives_of h (v := .int .i64 3) (fun _ => rfl) begin_3, gives_of h (v := .int .i64 3) (fun _ => rfl) rbegin_3⟩
  · exact ⟨_, _, gives_of h (v := .int .i64 4) (fun _ => rfl) begin_4, gives_of h (v := .int .i64 4) (fun _ => rfl) rbegin_4⟩
  · exact ⟨_, _, gives_of h (v := .int .i64 5) (fun _ => rfl) begin_5, gives_of h (v := .int .i64 5) (fun _ => rfl) rbegin_5⟩
  · exact ⟨_, _, gives_of h (v := .int .i64 6) (fun _ => rfl) begin_6, gives_of h (v := .int .i64 6) (fun _ => rfl) rbegin_6⟩
  · exact ⟨_, _, gives_of h (v := .int .i64 7) (fun _ => rfl) begin_7, gives_of h (v := .int .i64 7) (fun _ => rfl) rbegin_7⟩
  · exact ⟨_, _, gives_of h (v := .int .i64 8) (fun _ => rfl) begin_8, gives_of h (v := .int .i64 8) (fun _ => rfl) rbegin_8⟩
  · exact ⟨_, _, gives_of h (v := .int .i64 9) (fun _ => rfl) begin_9, gives_of h (v := .int .i64 9) (fun _ => rfl) rbegin_9⟩
  · exact ⟨_, _, gives_of h (v := .int .i64 10) (fun _ => rfl) begin_10, gives_of h (v := .int .i64 10) (fun _ => rfl) rbegin_10⟩
  · exact ⟨_, _, gives_of h (v := .int .i64 11) (fun _ => rfl) begin_11, gives_of h (v := .int .i64 11) (fun _ => rfl) rbegin_11⟩
  · exact ⟨_, _, gives_of h (v := .int .i64 12) (fun _ => rfl) begin_12, gives_of h (v := .int .i64 12) (fun _ => rfl) rbegin_12⟩
  · exact ⟨_, _, gives_of h (v := .int .i64 13) (fun _ => rfl) begin_13, gives_of h (v := .int .i64 13) (fun _ => rfl) rbegin_13⟩
  · exact ⟨_, _, gives_of h (v := .int .i64 14) (fun _ => rfl) begin_14, gives_of h (v := .int .i64 14) (fun _ => rfl) rbegin_14⟩
  · exact ⟨_, _, gives_of h (v := .int .i64 15) (fun _ => rfl) begin_15, gives_of h (v := .int .i64 15) (fun _ => rfl) rbegin_15⟩
  · exact ⟨_, _, gives_of h (v := .int .i64 16) (fun _ => rfl) begin_16, gives_of h (v := .int .i64 16) (fun _ => rfl) rbegin_16⟩
  · exact ⟨_, _, gives_of h (v := .int .i64 17) (fun _ => rfl) begin_17, gives_of h (v := .int .i64 17) (fun _ => rfl) rbegin_17⟩
  · exact ⟨_, _, gives_of h (v := .int .i64 18) (fun _ => rfl) begin_18, gives_of h (v := .int .i64 18) (fun _ => rfl) rbegin_18⟩
  · exact ⟨_, _, gives_of h (v := .int .i64 19) (fun _ => rfl) begin_19, gives_of h (v := .int .i64 19) (fun _ => rfl) rbegin_19⟩
  · exact ⟨_, _, gives_of h (fun _ => Ev.rep_rng g0 g1) begin_out1, gives_of h (fun _ => Ev.rep_rng g0 g1) rbegin_out1⟩
end busRun
end Go.Proofs.YtdhlmflbefnekaaDoor
