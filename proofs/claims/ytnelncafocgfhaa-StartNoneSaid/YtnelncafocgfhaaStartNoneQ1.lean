/- StartNone, pieces: run on an abstract memory. -/
import Derived.Test.YtnelncafocgfhaaEvCut
import Derived.Test.YtnelncafocgfhaaRows
import Derived.Lib.LaidTab
import Derived.KernelRfl
import Derived.Test.YtnelncafocgfhaaStartNoneR
import Derived.Test.YtnelncafocgfhaaStartNoneL0
import Derived.Test.YtnelncafocgfhaaStartNoneL1
namespace Go.Proofs.Ytnelncafocgfhaa
open Go.RowKit
namespace startNoneRun
namespace c0
set_option maxRecDepth 1000000 in
theorem p5 : Ev.fitsT 31 .ret L5 ((Ev.cCode Try.prog 31 body27).run (Ev.memoF Try.prog 35 [.ptr 189 0] L2 (.tup [.nils, .nils]) L4 (Ev.runF Try.prog 1000000 1000)) 1000000 Try.prog.globals.size (Ev.startFr [.slc 185 0 32 (.opn 5 33)]) L1.st) = true := by kernel_rfl
set_option maxRecDepth 1000000 in
theorem p8 : Ev.fitsT 15 .ret L6 ((Ev.cCode Try.prog 15 body13).run (Ev.memoF Try.prog 27 [.slc 185 0 32 (.opn 5 33)] L1 (.tup [.ptr 189 0, .str [], .int .i64 (0)]) L5 (Ev.runF Try.prog 1000000 1000)) 1000000 Try.prog.globals.size (Ev.startFr [.slc 185 0 32 (.opn 5 33)]) L0.st) = true := by kernel_rfl
set_option maxRecDepth 1000000 in
theorem p11 : Ev.fitsT 340 .nrm L7 (Ev.stepsF Try.prog 340 22 body (Ev.memoF Try.prog 13 [.slc 185 0 32 (.opn 5 33)] L0 (.tup [.str [], .int .i64 (0)]) L6 (Ev.runF Try.prog 1000000 1000)) 1000000 Try.prog.globals.size (Ev.startFr []) ⟨Ev.heapOf tabs, Try.prog.globals.size⟩) = true := by kernel_rfl
set_option maxRecDepth 1000000 in
theorem p12 : Ev.fitsT 340 .nrm L8 (Ev.stepsF Try.prog 340 1 (Ev.codeAt [.r, .r, .r, .r, .r, .r, .r, .r, .r, .r, .r, .r, .r, .r, .r, .r, .r, .r, .r, .r, .r, .r, .l] body) (Ev.runF Try.prog 1000000 1000) 1000000 Try.prog.globals.size L7.frame L7.st) = true := by kernel_rfl
set_option maxRecDepth 1000000 in
theorem p13 : Ev.fitsT 340 .nrm L9 (Ev.roundsF ((Ev.cCode Try.prog 340 (Ev.codeAt [.r, .r, .r, .r, .r, .r, .r, .r, .r, .r, .r, .r, .r, .r, .r, .r, .r, .r, .r, .r, .r, .r, .l, .r, .i, .i] body)).run (Ev.runF Try.prog 1000000 1000) 1000000 Try.prog.globals.size) 17 L8.frame L8.st) = true := by kernel_rfl
set_option maxRecDepth 1000000 in
theorem p14 : Ev.fitsT 340 (.exit 4) L10 (Ev.loopF ((Ev.cCode Try.prog 340 (Ev.codeAt [.r, .r, .r, .r, .r, .r, .r, .r, .r, .r, .r, .r, .r, .r, .r, .r, .r, .r, .r, .r, .r, .r, .l, .r, .i, .i] body)).run (Ev.runF Try.prog 1000000 1000) 1000000 Try.prog.globals.size) 16 L9.frame L9.st) = true := by kernel_rfl
end c0
end startNoneRun
end Go.Proofs.Ytnelncafocgfhaa
