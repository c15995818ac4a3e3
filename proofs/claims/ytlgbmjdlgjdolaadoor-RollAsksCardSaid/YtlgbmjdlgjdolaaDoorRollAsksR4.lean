/- RollAsks, case by case: run on an abstract memory. -/
import Derived.Test.YtlgbmjdlgjdolaaDoorEvSum
import Derived.Test.YtlgbmjdlgjdolaaDoorRows
import Derived.Lib.LaidTab
import Derived.KernelRfl
import Derived.Test.YtlgbmjdlgjdolaaDoorRollAsksR
namespace Go.Proofs.YtlgbmjdlgjdolaaDoor
open Go.RowKit
namespace rollAsksRun
set_option maxRecDepth 1000000 in
theorem run24 : Ev.trueF (Ev.runW Tryd.prog 1000000 k0 1000 Tryd.prog.globals.size 3 [.str [116, 104, 101, 114, 109, 105, 115, 116, 111, 114]] ⟨Ev.heapOf tabs, Tryd.prog.globals.size⟩) = true := by kernel_rfl
set_option maxRecDepth 1000000 in
theorem run25 : Ev.trueF (Ev.runW Tryd.prog 1000000 k0 1000 Tryd.prog.globals.size 3 [.str [119, 97, 116, 99, 104, 45, 99, 108, 111, 99, 107]] ⟨Ev.heapOf tabs, Tryd.prog.globals.size⟩) = true := by kernel_rfl
set_option maxRecDepth 1000000 in
theorem run26 : Ev.trueF (Ev.runW Tryd.prog 1000000 k0 1000 Tryd.prog.globals.size 3 [.str [119, 105, 102, 105]] ⟨Ev.heapOf tabs, Tryd.prog.globals.size⟩) = true := by kernel_rfl
set_option maxRecDepth 1000000 in
theorem run27 : Ev.trueF (Ev.runW Tryd.prog 1000000 k0 1000 Tryd.prog.globals.size 3 [.sym (.txt 0 rollAsksRun.nes)] ⟨Ev.heapOf tabs, Tryd.prog.globals.size⟩) = true := by kernel_rfl
end rollAsksRun
end Go.Proofs.YtlgbmjdlgjdolaaDoor
