/- The walk of SupplyNone. -/
import Derived.Test.YtnomamimpnogpaaDoorWayO
import Derived.Test.YtnomamimpnogpaaDoorSupplyA
import Derived.Test.YtnomamimpnogpaaDoorCodeC
namespace Go.Proofs.YtnomamimpnogpaaDoor
open Go.RowKit
theorem Vars.mk {W : World} (h : Lib.TabIs Tryd.prog W "reveille/supply.table" .i64 supplyL) : supplyAt W := supply_mk h
namespace snone
theorem f1 : firstV (-1) 5 = (0, 1) := by decide
theorem f2 : firstV 0 1099511627777 = (0, 1) := by decide
theorem f3 : firstV 0 1099511627776 = (0, 0) := by decide
theorem m1 : meetV [] = (0, 1099511627776, 0) := by decide
theorem k1 : codeV 409593750 = (32767, true) := by decide
theorem k2 : codeV 409593751 = (32767, false) := by decide
theorem k3 : codeV (-9223372036854775808) = (-32768, false) := by decide
end snone
open snone
set_option maxHeartbeats 4000000 in
set_option maxRecDepth 100000 in
theorem supplyNone_walk (W : World) (_ : W.ShapedOpen Tryd.prog) (hT : supplyAt W) :
    Calls Tryd.prog 6 #[] W fun e w' => e = .returned (.bool true) ∧ Below W.heap.size W w' := by
  have HT := Lib.hid hT
  clear hT
  go_enter Tryd.func6, Tryd.ntmps6
  go_wp2_with fail
  refine (supply_out 24 W (by omega)).mono ?_
  rintro e w' ⟨rfl, rfl⟩
  go_wp2_with fail
  refine (volts_out (-1) W (by omega)).mono ?_
  rintro e w' ⟨rfl, rfl⟩
  go_wp2_with fail
  refine (way_out2 0 24 W (by omega) (by omega)).mono ?_
  rintro e w' ⟨rfl, rfl⟩
  go_wp2_with fail
  have c1 := first_any (-1) 5 W HT.out
  rw [f1] at c1
  refine c1.mono ?_
  clear c1
  rintro e w1 ⟨rfl, hb1⟩
  have B1 := Lib.hid hb1
  clear hb1
  go_wp2_with fail
  have c1 := first_any 0 1099511627777 w1 (HT.out.grown B1.out)
  rw [f2] at c1
  refine c1.mono ?_
  clear c1
  rintro e w2 ⟨rfl, hb1⟩
  have B2 := Lib.hid (B1.out.trans (hb1.mono B1.out.size))
  clear hb1
  go_wp2_with fail
  have c1 := first_any 0 1099511627776 w2 (HT.out.grown B2.out)
  rw [f3] at c1
  refine c1.mono ?_
  clear c1
  rintro e w3 ⟨rfl, hb1⟩
  have B3 := Lib.hid (B2.out.trans (hb1.mono B2.out.size))
  clear hb1
  go_wp2_with fail
  have c1 := meet_any (.slice none 0 0) [] w3 ⟨none, 0, rfl, by simp, fun _ => ⟨rfl, rfl⟩, fun i hi => by simp at hi⟩
  rw [m1] at c1
  refine c1.mono ?_
  clear c1
  rintro e w4 ⟨rfl, hb1⟩
  have B4 := Lib.hid (B3.out.trans (hb1.mono B3.out.size))
  clear hb1
  go_wp2_with fail
  have c1 := code_any 409593750 (w4.alloc (.cells #[.int .i64 0, .int .i64 1099511627776] 26)) (by omega) (by omega)
  rw [k1] at c1
  refine c1.mono ?_
  clear c1
  rintro e w' ⟨rfl, rfl⟩
  go_wp2_with fail
  have c1 := code_any 409593751 (w4.alloc (.cells #[.int .i64 0, .int .i64 1099511627776] 26)) (by omega) (by omega)
  rw [k2] at c1
  refine c1.mono ?_
  clear c1
  rintro e w' ⟨rfl, rfl⟩
  go_wp2_with fail
  have c1 := code_any (-9223372036854775808) (w4.alloc (.cells #[.int .i64 0, .int .i64 1099511627776] 26)) (by omega) (by omega)
  rw [k3] at c1
  refine c1.mono ?_
  clear c1
  rintro e w' ⟨rfl, rfl⟩
  have B5 := Lib.hid (B4.out.alloc B4.out.size (.cells #[.int .i64 0, .int .i64 1099511627776] 26))
  go_wp2_with fail
  refine (awake_any _ (HT.out.grown B5.out)).mono ?_
  rintro e w' ⟨rfl, rfl⟩
  go_wp2_with fail
  go_ret
  exact ⟨rfl, B5.out⟩
end Go.Proofs.YtnomamimpnogpaaDoor
