/- StartNone, pieces: run on an abstract memory. -/
import Derived.Test.YtnelncafocgfhaaEvCut
import Derived.Test.YtnelncafocgfhaaRows
import Derived.Lib.LaidTab
import Derived.KernelRfl
import Derived.Test.YtnelncafocgfhaaStartNoneR
import Derived.Test.YtnelncafocgfhaaStartNoneL0
import Derived.Test.YtnelncafocgfhaaStartNoneL1
namespace Go.Proofs.Ytnelncafocgfhaa
open Go.RowKit
namespace startNoneRun
namespace c0
set_option maxRecDepth 1000000 in
theorem p28 : Ev.fitsT 25 .nrm L22 (Ev.roundsF ((Ev.cCode Try.prog 25 (Ev.codeAt [.r, .r, .l, .r, .i, .i] body51)).run (Ev.runF Try.prog 1000000 1000) 1000000 Try.prog.globals.size) 1 L21.frame L21.st) = true := by kernel_rfl
set_option maxRecDepth 1000000 in
theorem p29 : Ev.fitsT 25 .nrm L23 (Ev.roundsF ((Ev.cCode Try.prog 25 (Ev.codeAt [.r, .r, .l, .r, .i, .i] body51)).run (Ev.runF Try.prog 1000000 1000) 1000000 Try.prog.globals.size) 1 L22.frame L22.st) = true := by kernel_rfl
end c0
end startNoneRun
end Go.Proofs.Ytnelncafocgfhaa
