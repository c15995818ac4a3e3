/- StartNone, pieces: run on an abstract memory. -/
import Derived.Test.YtnelncafocgfhaaEvCut
import Derived.Test.YtnelncafocgfhaaRows
import Derived.Lib.LaidTab
import Derived.KernelRfl
import Derived.Test.YtnelncafocgfhaaStartNoneR
import Derived.Test.YtnelncafocgfhaaStartNoneL0
import Derived.Test.YtnelncafocgfhaaStartNoneL1
namespace Go.Proofs.Ytnelncafocgfhaa
open Go.RowKit
namespace startNoneRun
namespace c0
set_option maxRecDepth 1000000 in
theorem p0 : Ev.fitsT 149 .nrm L3 (Ev.stepsF Try.prog 149 3 body35 (Ev.runF Try.prog 1000000 1000) 1000000 Try.prog.globals.size (Ev.startFr [.ptr 189 0]) L2.st) = true := by kernel_rfl
set_option maxRecDepth 1000000 in
theorem p1 : Ev.fitsT 149 .ret L4 ((Ev.cCode Try.prog 149 (Ev.codeAt [.r, .r, .r] body35)).run (Ev.runF Try.prog 1000000 1000) 1000000 Try.prog.globals.size L3.frame L3.st) = true := by kernel_rfl
end c0
end startNoneRun
end Go.Proofs.Ytnelncafocgfhaa
