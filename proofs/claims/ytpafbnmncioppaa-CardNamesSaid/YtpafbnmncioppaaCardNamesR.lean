/- What CardNames asks of its argument; its body. -/
import Derived.Test.YtpafbnmncioppaaEvCut
import Derived.Test.YtpafbnmncioppaaRows
import Derived.Lib.LaidTab
import Derived.KernelRfl

namespace Go.Proofs.Ytpafbnmncioppaa
open Go.RowKit
namespace cardNamesRun
def tabs : List (Nat × List Int) := []
theorem tabs_lt : ∀ x ∈ tabs, x.1 < Try.prog.globals.size := by
  intro x hx
  exact of_decide_eq_true (List.all_eq_true.1 (by kernel_rfl : tabs.all (fun x => decide (x.1 < Try.prog.globals.size)) = true) x hx)
noncomputable def body : Code := Ev.bodyOf Try.prog 7
end cardNamesRun
end Go.Proofs.Ytpafbnmncioppaa
