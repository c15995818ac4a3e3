/- The walk of CrystalNames. -/
import Derived.Test.YtmlabnbbpmmonaaDoorCrystalC
namespace Go.Proofs.YtmlabnbbpmmonaaDoor
open Go.RowKit

theorem crystalNames_walk (W : World) (_ : W.ShapedOpen Tryd.prog) (_hv : Tab W) :
    Calls Tryd.prog 3 #[] W fun e w' => e = .returned (.bool true) ∧ Below W.heap.size W w' := by
  go_enter Tryd.func3, Tryd.ntmps3
  go_wp2_with fail
  refine (rate_out (-1) W (by omega)).mono ?_
  rintro e w' ⟨rfl, rfl⟩
  go_wp2_with fail
  refine (rate_out 32 W (by omega)).mono ?_
  rintro e w' ⟨rfl, rfl⟩
  go_wp2_with fail
  refine (period_out 32 W (by omega)).mono ?_
  rintro e w' ⟨rfl, rfl⟩
  go_wp2_with fail
  refine (divider_none 65536 1 W (by omega) (by omega) (by omega) (by omega) (by decide)).mono ?_
  rintro e w' ⟨rfl, rfl⟩
  go_wp2_with fail
  refine (divider_ok 65535 1 W (by omega) (by omega) (by omega) (by omega) (by decide)).mono ?_
  rintro e w' ⟨rfl, rfl⟩
  go_wp2_with fail
  go_ret
  exact ⟨rfl, Below.refl _ _⟩
end Go.Proofs.YtmlabnbbpmmonaaDoor
