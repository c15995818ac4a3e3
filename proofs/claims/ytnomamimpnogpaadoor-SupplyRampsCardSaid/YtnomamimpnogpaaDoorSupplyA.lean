/- The law's awake and meets; rows of pairs. -/
import Derived.Test.YtnomamimpnogpaaDoorMeetC
namespace Go.Proofs.YtnomamimpnogpaaDoor
open Go.RowKit
theorem awake_any (w : World) (hT : supplyAt w) : Calls Tryd.prog 11 #[] w fun e w' => e = .returned (.bool true) ∧ w = w' := by
  have c0 := supply_in 0 w (by omega) hT
  have c1 := supply_in 23 w (by omega) hT
  rw [show nth supplyL 0 = 800000 from rfl] at c0
  rw [show nth supplyL 23 = 25000000 from rfl] at c1
  have C0 := Lib.hid c0
  have C1 := Lib.hid c1
  clear c0 c1
  go_enter Tryd.func11, Tryd.ntmps11
  go_wp2_with fail
  refine C0.out.mono ?_
  rintro e w' ⟨rfl, rfl⟩
  go_wp2_with fail
  refine C1.out.mono ?_
  rintro e w' ⟨rfl, rfl⟩
  go_wp2_with fail
  go_ret
  exact ⟨rfl, rfl⟩

set_option maxHeartbeats 1000000 in
theorem meets_any (v u : Value) (ps : List (Int × Int)) (w : World) (hv : Pairs w v ps) (hu : Pairs w u ps) :
    Calls Tryd.prog 10 #[v, u] w fun e w' => e = .returned (.bool true) ∧ Below w.heap.size w w' := by
  have HV := Lib.hid hv
  have HU := Lib.hid hu
  clear hv hu
  go_enter Tryd.func10, Tryd.ntmps10
  go_wp2_with fail
  refine (meet_any v ps w HV.out).mono ?_
  rintro e w1 ⟨rfl, hb⟩
  have HB := Lib.hid hb
  clear hb
  have HA : Hid (Below w.heap.size w (w1.alloc (.cells #[.int .i64 (meetV ps).1, .int .i64 (meetV ps).2.1] 26))) := HB.out.alloc HB.out.size _
  go_wp2_with fail
  refine (refMeet_any u ps _ (HU.out.grown HA.out)).mono ?_
  rintro e w2 ⟨rfl, n, rfl⟩
  go_wp2_with fail
  go_ret
  exact ⟨rfl, below_drewN HA.out n⟩
end Go.Proofs.YtnomamimpnogpaaDoor
