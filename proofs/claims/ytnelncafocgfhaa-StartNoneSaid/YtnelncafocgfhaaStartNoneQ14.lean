/- StartNone, pieces: run on an abstract memory. -/
import Derived.Test.YtnelncafocgfhaaEvCut
import Derived.Test.YtnelncafocgfhaaRows
import Derived.Lib.LaidTab
import Derived.KernelRfl
import Derived.Test.YtnelncafocgfhaaStartNoneR
import Derived.Test.YtnelncafocgfhaaStartNoneL0
import Derived.Test.YtnelncafocgfhaaStartNoneL1
namespace Go.Proofs.Ytnelncafocgfhaa
open Go.RowKit
namespace startNoneRun
namespace c0
set_option maxRecDepth 1000000 in
theorem p73 : Ev.fitsT 127 .ret L75 ((Ev.cCode Try.prog 127 body59).run (Ev.runF Try.prog 1000000 1000) 1000000 Try.prog.globals.size (Ev.startFr [.ptr 31212 0, .int .i64 (0), .agg [.int .i64 (1), .int .i64 (0), .nils, .slc 2993 0 16 (.opn 2 16), .nils], .map 32821]) L74.st) = true := by kernel_rfl
set_option maxRecDepth 1000000 in
theorem p76 : Ev.fitsT 127 .ret L76 ((Ev.cCode Try.prog 127 body59).run (Ev.memoF Try.prog 59 [.ptr 31212 0, .int .i64 (0), .agg [.int .i64 (1), .int .i64 (0), .nils, .slc 2993 0 16 (.opn 2 16), .nils], .map 32821] L74 (.agg [.int .i64 (273), .int .i64 (273), .int .i64 (273), .int .i64 (273), .int .i64 (273), .int .i64 (273), .int .i64 (273), .int .i64 (273), .int .i64 (273), .int .i64 (273), .int .i64 (273), .int .i64 (273), .int .i64 (273), .int .i64 (273), .int .i64 (273), .int .i64 (273), .int .i64 (273), .int .i64 (273), .int .i64 (273), .int .i64 (273), .int .i64 (273), .int .i64 (273), .int .i64 (273), .int .i64 (273), .int .i64 (273), .int .i64 (273), .int .i64 (273), .int .i64 (273), .int .i64 (273), .int .i64 (273), .int .i64 (273), .int .i64 (273), .int .i64 (273), .int .i64 (273), .int .i64 (273), .int .i64 (273), .int .i64 (273), .int .i64 (273), .int .i64 (273), .int .i64 (273), .int .i64 (273), .int .i64 (273), .int .i64 (273), .int .i64 (273), .int .i64 (273), .int .i64 (273), .int .i64 (273), .int .i64 (273)]) L75 (Ev.runF Try.prog 1000000 1000)) 1000000 Try.prog.globals.size (Ev.startFr [.ptr 31212 0, .int .i64 (0), .agg [.int .i64 (1), .int .i64 (0), .nils, .slc 2941 0 16 (.opn 2 16), .nils], .map 32821]) L73.st) = true := by kernel_rfl
end c0
end startNoneRun
end Go.Proofs.Ytnelncafocgfhaa
