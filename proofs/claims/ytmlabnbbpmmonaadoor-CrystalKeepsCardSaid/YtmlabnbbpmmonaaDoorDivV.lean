/- crystal.Divider as a function of numbers. -/
import Derived.Test.YtmlabnbbpmmonaaDoorDivC
namespace Go.Proofs.YtmlabnbbpmmonaaDoor
open Go.RowKit
/-- What Divider answers. -/
def divV (f t : Int) : Int × Int :=
  if f < 1 ∨ 1099511627776 < f ∨ t < 1 ∨ 1099511627776 < t then (0, 1)
  else if 65535 < (f + t - 1) / t then (0, 6) else ((f + t - 1) / t, 0)
theorem divider_any (f t : Int) (w : World) :
    Calls Tryd.prog 11 #[.int .i64 f, .int .i64 t] w fun e w' => e = .returned (.tuple #[.int .i64 (divV f t).1, .int .i64 (divV f t).2]) ∧ w = w' := by
  unfold divV
  by_cases h : f < 1 ∨ 1099511627776 < f ∨ t < 1 ∨ 1099511627776 < t
  · rw [if_pos h]
    exact divider_arg f t w h
  · rw [if_neg h]
    by_cases h2 : 65535 < (f + t - 1) / t
    · rw [if_pos h2]
      exact divider_none f t w (by omega) (by omega) (by omega) (by omega) h2
    · rw [if_neg h2]
      exact divider_ok f t w (by omega) (by omega) (by omega) (by omega) (by omega)

end Go.Proofs.YtmlabnbbpmmonaaDoor
