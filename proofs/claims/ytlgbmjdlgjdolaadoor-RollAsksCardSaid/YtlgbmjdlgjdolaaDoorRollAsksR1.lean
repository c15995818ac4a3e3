/- RollAsks, case by case: run on an abstract memory. -/
import Derived.Test.YtlgbmjdlgjdolaaDoorEvSum
import Derived.Test.YtlgbmjdlgjdolaaDoorRows
import Derived.Lib.LaidTab
import Derived.KernelRfl
import Derived.Test.YtlgbmjdlgjdolaaDoorRollAsksR
namespace Go.Proofs.YtlgbmjdlgjdolaaDoor
open Go.RowKit
namespace rollAsksRun
set_option maxRecDepth 1000000 in
theorem run6 : Ev.trueF (Ev.runW Tryd.prog 1000000 k0 1000 Tryd.prog.globals.size 3 [.str [99, 114, 121, 115, 116, 97, 108]] ⟨Ev.heapOf tabs, Tryd.prog.globals.size⟩) = true := by kernel_rfl
set_option maxRecDepth 1000000 in
theorem run7 : Ev.trueF (Ev.runW Tryd.prog 1000000 k0 1000 Tryd.prog.globals.size 3 [.str [100, 105, 111, 100, 101]] ⟨Ev.heapOf tabs, Tryd.prog.globals.size⟩) = true := by kernel_rfl
set_option maxRecDepth 1000000 in
theorem run8 : Ev.trueF (Ev.runW Tryd.prog 1000000 k0 1000 Tryd.prog.globals.size 3 [.str [100, 105, 118, 105, 100, 101, 114]] ⟨Ev.heapOf tabs, Tryd.prog.globals.size⟩) = true := by kernel_rfl
set_option maxRecDepth 1000000 in
theorem run9 : Ev.trueF (Ev.runW Tryd.prog 1000000 k0 1000 Tryd.prog.globals.size 3 [.str [102, 105, 120, 101, 100, 45, 99, 108, 111, 99, 107]] ⟨Ev.heapOf tabs, Tryd.prog.globals.size⟩) = true := by kernel_rfl
set_option maxRecDepth 1000000 in
theorem run10 : Ev.trueF (Ev.runW Tryd.prog 1000000 k0 1000 Tryd.prog.globals.size 3 [.str [102, 105, 120, 101, 100, 45, 114, 97, 105, 108]] ⟨Ev.heapOf tabs, Tryd.prog.globals.size⟩) = true := by kernel_rfl
set_option maxRecDepth 1000000 in
theorem run11 : Ev.trueF (Ev.runW Tryd.prog 1000000 k0 1000 Tryd.prog.globals.size 3 [.str [102, 117, 101, 108, 45, 103, 97, 117, 103, 101]] ⟨Ev.heapOf tabs, Tryd.prog.globals.size⟩) = true := by kernel_rfl
end rollAsksRun
end Go.Proofs.YtlgbmjdlgjdolaaDoor
