/- RollAsks, case by case: run on an abstract memory. -/
import Derived.Test.YtlgbmjdlgjdolaaDoorEvSum
import Derived.Test.YtlgbmjdlgjdolaaDoorRows
import Derived.Lib.LaidTab
import Derived.KernelRfl
import Derived.Test.YtlgbmjdlgjdolaaDoorRollAsksR
namespace Go.Proofs.YtlgbmjdlgjdolaaDoor
open Go.RowKit
namespace rollAsksRun
set_option maxRecDepth 1000000 in
theorem run0 : Ev.trueF (Ev.runW Tryd.prog 1000000 k0 1000 Tryd.prog.globals.size 3 [.str [97, 100, 99]] ⟨Ev.heapOf tabs, Tryd.prog.globals.size⟩) = true := by kernel_rfl
set_option maxRecDepth 1000000 in
theorem run1 : Ev.trueF (Ev.runW Tryd.prog 1000000 k0 1000 Tryd.prog.globals.size 3 [.str [97, 110, 116, 101, 110, 110, 97]] ⟨Ev.heapOf tabs, Tryd.prog.globals.size⟩) = true := by kernel_rfl
set_option maxRecDepth 1000000 in
theorem run2 : Ev.trueF (Ev.runW Tryd.prog 1000000 k0 1000 Tryd.prog.globals.size 3 [.str [98, 114, 105, 100, 103, 101]] ⟨Ev.heapOf tabs, Tryd.prog.globals.size⟩) = true := by kernel_rfl
set_option maxRecDepth 1000000 in
theorem run3 : Ev.trueF (Ev.runW Tryd.prog 1000000 k0 1000 Tryd.prog.globals.size 3 [.str [98, 117, 99, 107]] ⟨Ev.heapOf tabs, Tryd.prog.globals.size⟩) = true := by kernel_rfl
set_option maxRecDepth 1000000 in
theorem run4 : Ev.trueF (Ev.runW Tryd.prog 1000000 k0 1000 Tryd.prog.globals.size 3 [.str [98, 117, 115]] ⟨Ev.heapOf tabs, Tryd.prog.globals.size⟩) = true := by kernel_rfl
set_option maxRecDepth 1000000 in
theorem run5 : Ev.trueF (Ev.runW Tryd.prog 1000000 k0 1000 Tryd.prog.globals.size 3 [.str [99, 104, 97, 114, 103, 101, 114]] ⟨Ev.heapOf tabs, Tryd.prog.globals.size⟩) = true := by kernel_rfl
end rollAsksRun
end Go.Proofs.YtlgbmjdlgjdolaaDoor
