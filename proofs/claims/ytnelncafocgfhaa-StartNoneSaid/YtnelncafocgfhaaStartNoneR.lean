/- What StartNone asks of its argument; its body. -/
import Derived.Test.YtnelncafocgfhaaEvCut
import Derived.Test.YtnelncafocgfhaaRows
import Derived.Lib.LaidTab
import Derived.KernelRfl

namespace Go.Proofs.Ytnelncafocgfhaa
open Go.RowKit
namespace startNoneRun
def tabs : List (Nat × List Int) := []
theorem tabs_lt : ∀ x ∈ tabs, x.1 < Try.prog.globals.size := by
  intro x hx
  exact of_decide_eq_true (List.all_eq_true.1 (by kernel_rfl : tabs.all (fun x => decide (x.1 < Try.prog.globals.size)) = true) x hx)
noncomputable def body : Code := Ev.bodyOf Try.prog 4
noncomputable def body13 : Code := Ev.bodyOf Try.prog 13
noncomputable def body14 : Code := Ev.bodyOf Try.prog 14
noncomputable def body27 : Code := Ev.bodyOf Try.prog 27
noncomputable def body28 : Code := Ev.bodyOf Try.prog 28
noncomputable def body32 : Code := Ev.bodyOf Try.prog 32
noncomputable def body34 : Code := Ev.bodyOf Try.prog 34
noncomputable def body35 : Code := Ev.bodyOf Try.prog 35
noncomputable def body40 : Code := Ev.bodyOf Try.prog 40
noncomputable def body48 : Code := Ev.bodyOf Try.prog 48
noncomputable def body51 : Code := Ev.bodyOf Try.prog 51
noncomputable def body56 : Code := Ev.bodyOf Try.prog 56
noncomputable def body58 : Code := Ev.bodyOf Try.prog 58
noncomputable def body59 : Code := Ev.bodyOf Try.prog 59
end startNoneRun
end Go.Proofs.Ytnelncafocgfhaa
