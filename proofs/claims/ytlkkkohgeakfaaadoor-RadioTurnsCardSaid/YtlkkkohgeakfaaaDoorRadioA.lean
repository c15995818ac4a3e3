/- The law's awake. -/
import Derived.Test.YtlkkkohgeakfaaaDoorTables
namespace Go.Proofs.YtlkkkohgeakfaaaDoor
open Go.RowKit
theorem awake_any (w : World) (hT : radioAt w) : Calls Tryd.prog 13 #[] w fun e w' => e = .returned (.bool true) ∧ w = w' := by
  have c0 := radio_in 0 w (by omega) hT
  have c1 := radio_in 19 w (by omega) hT
  rw [show nth radioL 0 = 432920000 from rfl] at c0
  rw [show nth radioL 19 = 580610000 from rfl] at c1
  have C0 := Lib.hid c0
  have C1 := Lib.hid c1
  clear c0 c1
  go_enter Tryd.func13, Tryd.ntmps13
  go_wp2_with fail
  refine C0.out.mono ?_
  rintro e w' ⟨rfl, rfl⟩
  go_wp2_with fail
  refine C1.out.mono ?_
  rintro e w' ⟨rfl, rfl⟩
  go_wp2_with fail
  go_ret
  exact ⟨rfl, rfl⟩
end Go.Proofs.YtlkkkohgeakfaaaDoor
