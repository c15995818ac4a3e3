/- StartNone, pieces: run on an abstract memory. -/
import Derived.Test.YtnelncafocgfhaaEvCut
import Derived.Test.YtnelncafocgfhaaRows
import Derived.Lib.LaidTab
import Derived.KernelRfl
import Derived.Test.YtnelncafocgfhaaStartNoneR
import Derived.Test.YtnelncafocgfhaaStartNoneL0
import Derived.Test.YtnelncafocgfhaaStartNoneL1
namespace Go.Proofs.Ytnelncafocgfhaa
open Go.RowKit
namespace startNoneRun
namespace c0
set_option maxRecDepth 1000000 in
theorem p175 : Ev.fitsT 18 .ret L109 ((Ev.cCode Try.prog 18 body32).run (Ev.memoF Try.prog 28 [.ptr 3054 0, .fn 48 [.ptr 31223 0, .ptr 31210 0, .ptr 31225 0, .ptr 31224 0], .fn 50 [.ptr 31223 0, .ptr 31224 0, .ptr 31210 0]] L41 (.tup []) L108 (Ev.runF Try.prog 1000000 1000)) 1000000 Try.prog.globals.size (Ev.startFr [.ptr 3054 0]) L40.st) = true := by kernel_rfl
set_option maxRecDepth 1000000 in
theorem p178 : Ev.fitsT 25 .ret L110 ((Ev.cCode Try.prog 25 body14).run (Ev.memoF Try.prog 27 [.slc 1435 0 1 (.fix 1)] L12 (.tup [.ptr 3054 0, .str [], .int .i64 (0)]) L39 (Ev.memoF Try.prog 32 [.ptr 3054 0] L40 (.tup [.agg [.slc 35483 0 1 (.opn 3 1), .slc 35476 0 1 (.opn 5 1)], .nils]) L109 (Ev.runF Try.prog 1000000 1000))) 1000000 Try.prog.globals.size (Ev.startFr [.slc 1435 0 1 (.fix 1)]) L11.st) = true := by kernel_rfl
set_option maxRecDepth 1000000 in
theorem p181 : Ev.fitsT 340 .ret L111 ((Ev.cCode Try.prog 340 (Ev.codeAt [.r, .r, .r, .r, .r, .r, .r, .r, .r, .r, .r, .r, .r, .r, .r, .r, .r, .r, .r, .r, .r, .r, .r] body)).run (Ev.memoF Try.prog 14 [.slc 1435 0 1 (.fix 1)] L11 (.tup [.agg [.slc 35483 0 1 (.opn 3 1), .slc 35476 0 1 (.opn 5 1)], .int .i64 (0)]) L110 (Ev.runF Try.prog 1000000 1000)) 1000000 Try.prog.globals.size L10.frame L10.st) = true := by kernel_rfl
end c0
end startNoneRun
end Go.Proofs.Ytnelncafocgfhaa
