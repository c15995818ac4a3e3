/- RollAsks, case by case: run on an abstract memory. -/
import Derived.Test.YtlgbmjdlgjdolaaDoorEvSum
import Derived.Test.YtlgbmjdlgjdolaaDoorRows
import Derived.Lib.LaidTab
import Derived.KernelRfl
import Derived.Test.YtlgbmjdlgjdolaaDoorRollAsksR
namespace Go.Proofs.YtlgbmjdlgjdolaaDoor
open Go.RowKit
namespace rollAsksRun
set_option maxRecDepth 1000000 in
theorem run18 : Ev.trueF (Ev.runW Tryd.prog 1000000 k0 1000 Tryd.prog.globals.size 3 [.str [112, 108, 108]] ⟨Ev.heapOf tabs, Tryd.prog.globals.size⟩) = true := by kernel_rfl
set_option maxRecDepth 1000000 in
theorem run19 : Ev.trueF (Ev.runW Tryd.prog 1000000 k0 1000 Tryd.prog.globals.size 3 [.str [114, 97, 100, 105, 111]] ⟨Ev.heapOf tabs, Tryd.prog.globals.size⟩) = true := by kernel_rfl
set_option maxRecDepth 1000000 in
theorem run20 : Ev.trueF (Ev.runW Tryd.prog 1000000 k0 1000 Tryd.prog.globals.size 3 [.str [115, 101, 110, 115, 111, 114]] ⟨Ev.heapOf tabs, Tryd.prog.globals.size⟩) = true := by kernel_rfl
set_option maxRecDepth 1000000 in
theorem run21 : Ev.trueF (Ev.runW Tryd.prog 1000000 k0 1000 Tryd.prog.globals.size 3 [.str [115, 105, 109, 112, 108, 101, 45, 98, 117, 115]] ⟨Ev.heapOf tabs, Tryd.prog.globals.size⟩) = true := by kernel_rfl
set_option maxRecDepth 1000000 in
theorem run22 : Ev.trueF (Ev.runW Tryd.prog 1000000 k0 1000 Tryd.prog.globals.size 3 [.str [115, 112, 105]] ⟨Ev.heapOf tabs, Tryd.prog.globals.size⟩) = true := by kernel_rfl
set_option maxRecDepth 1000000 in
theorem run23 : Ev.trueF (Ev.runW Tryd.prog 1000000 k0 1000 Tryd.prog.globals.size 3 [.str [115, 117, 112, 112, 108, 121]] ⟨Ev.heapOf tabs, Tryd.prog.globals.size⟩) = true := by kernel_rfl
end rollAsksRun
end Go.Proofs.YtlgbmjdlgjdolaaDoor
