/- RollKept, case by case: run on an abstract memory. -/
import Derived.Test.YtlgbmjdlgjdolaaDoorEvSum
import Derived.Test.YtlgbmjdlgjdolaaDoorRows
import Derived.Lib.LaidTab
import Derived.KernelRfl
import Derived.Test.YtlgbmjdlgjdolaaDoorRollKeptR
namespace Go.Proofs.YtlgbmjdlgjdolaaDoor
open Go.RowKit
namespace rollKeptRun
set_option maxRecDepth 1000000 in
theorem run0 : Ev.trueF (Ev.runW Tryd.prog 1000000 k0 1000 Tryd.prog.globals.size 6 [.sym (.txt 0 []), .sym (.lin false 0 1)] ⟨Ev.heapOf tabs, Tryd.prog.globals.size⟩) = true := by kernel_rfl
end rollKeptRun
end Go.Proofs.YtlgbmjdlgjdolaaDoor
