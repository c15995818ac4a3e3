/- StartNone, pieces: run on an abstract memory. -/
import Derived.Test.YtnelncafocgfhaaEvCut
import Derived.Test.YtnelncafocgfhaaRows
import Derived.Lib.LaidTab
import Derived.KernelRfl
import Derived.Test.YtnelncafocgfhaaStartNoneR
import Derived.Test.YtnelncafocgfhaaStartNoneL0
import Derived.Test.YtnelncafocgfhaaStartNoneL1
namespace Go.Proofs.Ytnelncafocgfhaa
open Go.RowKit
namespace startNoneRun
namespace c0
set_option maxRecDepth 1000000 in
theorem p20 : Ev.fitsT 112 .ret L15 ((Ev.cCode Try.prog 112 body56).run (Ev.runF Try.prog 1000000 1000) 1000000 Try.prog.globals.size (Ev.startFr [.ptr 3054 0, .int .i64 (0)]) L14.st) = true := by kernel_rfl
set_option maxRecDepth 1000000 in
theorem p23 : Ev.fitsT 191 .ret L16 ((Ev.cCode Try.prog 191 body34).run (Ev.memoF Try.prog 56 [.ptr 3054 0, .int .i64 (0)] L14 (.bool true) L15 (Ev.runF Try.prog 1000000 1000)) 1000000 Try.prog.globals.size (Ev.startFr [.slc 1435 0 1 (.fix 1)]) L13.st) = true := by kernel_rfl
set_option maxRecDepth 1000000 in
theorem p26 : Ev.fitsT 25 .nrm L20 (Ev.stepsF Try.prog 25 2 body51 (Ev.runF Try.prog 1000000 1000) 1000000 Try.prog.globals.size (Ev.startFr [.int .i64 (32), .fn 78 [.ptr 5198 0, .ptr 5199 0, .ptr 5200 0]]) L19.st) = true := by kernel_rfl
set_option maxRecDepth 1000000 in
theorem p27 : Ev.fitsT 25 .nrm L21 (Ev.stepsF Try.prog 25 1 (Ev.codeAt [.r, .r, .l] body51) (Ev.runF Try.prog 1000000 1000) 1000000 Try.prog.globals.size L20.frame L20.st) = true := by kernel_rfl
end c0
end startNoneRun
end Go.Proofs.Ytnelncafocgfhaa
