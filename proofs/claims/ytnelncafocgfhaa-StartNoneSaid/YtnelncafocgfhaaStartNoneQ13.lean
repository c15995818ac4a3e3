/- StartNone, pieces: run on an abstract memory. -/
import Derived.Test.YtnelncafocgfhaaEvCut
import Derived.Test.YtnelncafocgfhaaRows
import Derived.Lib.LaidTab
import Derived.KernelRfl
import Derived.Test.YtnelncafocgfhaaStartNoneR
import Derived.Test.YtnelncafocgfhaaStartNoneL0
import Derived.Test.YtnelncafocgfhaaStartNoneL1
namespace Go.Proofs.Ytnelncafocgfhaa
open Go.RowKit
namespace startNoneRun
namespace c0
set_option maxRecDepth 1000000 in
theorem p41 : Ev.fitsT 25 (.exit 0) L35 (Ev.loopF ((Ev.cCode Try.prog 25 (Ev.codeAt [.r, .r, .l, .r, .i, .i] body51)).run (Ev.runF Try.prog 1000000 1000) 1000000 Try.prog.globals.size) 8 L34.frame L34.st) = true := by kernel_rfl
set_option maxRecDepth 1000000 in
theorem p59 : Ev.fitsT 25 .ret L36 ((Ev.cCode Try.prog 25 (Ev.codeAt [.r, .r, .r] body51)).run (Ev.runF Try.prog 1000000 1000) 1000000 Try.prog.globals.size L35.frame L35.st) = true := by kernel_rfl
set_option maxRecDepth 1000000 in
theorem p64 : Ev.fitsT 18 .ret L37 ((Ev.cCode Try.prog 18 body58).run (Ev.memoF Try.prog 51 [.int .i64 (32), .fn 78 [.ptr 5198 0, .ptr 5199 0, .ptr 5200 0]] L19 (.slc 5202 0 32 (.fix 32)) L36 (Ev.runF Try.prog 1000000 1000)) 1000000 Try.prog.globals.size (Ev.startFr [.ptr 3054 0, .int .i64 (0)]) L18.st) = true := by kernel_rfl
set_option maxRecDepth 1000000 in
theorem p67 : Ev.fitsT 149 .ret L38 ((Ev.cCode Try.prog 149 body35).run (Ev.memoF Try.prog 58 [.ptr 3054 0, .int .i64 (0)] L18 (.slc 5202 0 32 (.fix 32)) L37 (Ev.runF Try.prog 1000000 1000)) 1000000 Try.prog.globals.size (Ev.startFr [.ptr 3054 0]) L17.st) = true := by kernel_rfl
set_option maxRecDepth 1000000 in
theorem p70 : Ev.fitsT 31 .ret L39 ((Ev.cCode Try.prog 31 body27).run (Ev.memoF Try.prog 34 [.slc 1435 0 1 (.fix 1)] L13 (.ptr 3054 0) L16 (Ev.memoF Try.prog 35 [.ptr 3054 0] L17 (.tup [.nils, .nils]) L38 (Ev.runF Try.prog 1000000 1000))) 1000000 Try.prog.globals.size (Ev.startFr [.slc 1435 0 1 (.fix 1)]) L12.st) = true := by kernel_rfl
end c0
end startNoneRun
end Go.Proofs.Ytnelncafocgfhaa
