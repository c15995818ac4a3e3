/- CardNames: the pieces, joined. -/
import Derived.Test.YtpafbnmncioppaaEvCut
import Derived.Test.YtpafbnmncioppaaRows
import Derived.Lib.LaidTab
import Derived.KernelRfl
import Derived.Test.YtpafbnmncioppaaCardNamesR
import Derived.Test.YtpafbnmncioppaaCardNamesL0
import Derived.Test.YtpafbnmncioppaaCardNamesL1
import Derived.Test.YtpafbnmncioppaaCardNamesL2
import Derived.Test.YtpafbnmncioppaaCardNamesQ0
import Derived.Test.YtpafbnmncioppaaCardNamesQ1
import Derived.Test.YtpafbnmncioppaaCardNamesQ2
import Derived.Test.YtpafbnmncioppaaCardNamesQ3
import Derived.Test.YtpafbnmncioppaaCardNamesQ4
import Derived.Test.YtpafbnmncioppaaCardNamesQ5
import Derived.Test.YtpafbnmncioppaaCardNamesQ6
import Derived.Test.YtpafbnmncioppaaCardNamesQ7
import Derived.Test.YtpafbnmncioppaaCardNamesQ8
namespace Go.Proofs.Ytpafbnmncioppaa
open Go.RowKit
namespace cardNamesRun
namespace c0
set_option maxRecDepth 1000000 in
theorem n4 [Ev.Env] : Ev.RndsOk Try.prog 196 Try.prog.globals.size (Ev.codeAt [.r, .r, .r, .r, .l, .r, .i, .i] body) L2.frame L2.st (.exit 0) L3.frame L3.st := Ev.loop_end (Ev.runF_ok Try.prog 1000000 1000) 6 _ _ p3
set_option maxRecDepth 1000000 in
theorem n5 [Ev.Env] : Ev.RndsOk Try.prog 196 Try.prog.globals.size (Ev.codeAt [.r, .r, .r, .r, .l, .r, .i, .i] body) L1.frame L1.st (.exit 0) L3.frame L3.st := Ev.rounds_run (Ev.runF_ok Try.prog 1000000 1000) n4 61 _ _ p2
set_option maxRecDepth 1000000 in
theorem n6 [Ev.Env] : Ev.CutOk Try.prog 196 Try.prog.globals.size (Ev.codeAt [.r, .r, .r, .r, .l, .r, .i] body) L1.frame L1.st (.exit 0) L3.frame L3.st := Ev.cut_loop (by kernel_rfl : (Ev.codeAt [.r, .r, .r, .r, .l, .r, .i] body) = .loop (Ev.codeAt [.r, .r, .r, .r, .l, .r, .i, .i] body)) n5
set_option maxRecDepth 1000000 in
theorem n7 [Ev.Env] : Ev.CutOk Try.prog 196 Try.prog.globals.size (Ev.codeAt [.r, .r, .r, .r, .l, .r] body) L1.frame L1.st .nrm L3.frame L3.st := Ev.cut_block (by kernel_rfl : (Ev.codeAt [.r, .r, .r, .r, .l, .r] body) = .block 0 (Ev.codeAt [.r, .r, .r, .r, .l, .r, .i] body)) n6
set_option maxRecDepth 1000000 in
theorem n8 [Ev.Env] : Ev.CutOk Try.prog 196 Try.prog.globals.size (Ev.codeAt [.r, .r, .r, .r, .l] body) L0.frame L0.st .nrm L3.frame L3.st := Ev.cut_steps' (Ev.runF_ok Try.prog 1000000 1000) (by kernel_rfl : Ev.restOf 1 (Ev.codeAt [.r, .r, .r, .r, .l] body) = (Ev.codeAt [.r, .r, .r, .r, .l, .r] body)) p1 n7
set_option maxRecDepth 1000000 in
theorem n14 [Ev.Env] : Ev.CutOk Try.prog 196 Try.prog.globals.size (Ev.codeAt [.r, .r, .r, .r, .r, .r, .r, .r, .r, .r, .r, .r, .r] body) L7.frame L7.st .ret L8.frame L8.st := Ev.cut_run (Ev.runF_ok Try.prog 1000000 1000) p13
set_option maxRecDepth 1000000 in
theorem n15 [Ev.Env] : Ev.CutOk Try.prog 196 Try.prog.globals.size (Ev.codeAt [.r, .r, .r, .r, .r, .r, .r, .r] body) L6.frame L6.st .ret L8.frame L8.st := Ev.cut_steps' (Ev.runF_ok Try.prog 1000000 1000) (by kernel_rfl : Ev.restOf 5 (Ev.codeAt [.r, .r, .r, .r, .r, .r, .r, .r] body) = (Ev.codeAt [.r, .r, .r, .r, .r, .r, .r, .r, .r, .r, .r, .r, .r] body)) p12 n14
set_option maxRecDepth 1000000 in
theorem n16 [Ev.Env] : Ev.CutOk Try.prog 196 Try.prog.globals.size (Ev.codeAt [.r, .r, .r, .r, .r, .r, .r] body) L5.frame L5.st .ret L8.frame L8.st := Ev.cut_steps' (Ev.runF_ok Try.prog 1000000 1000) (by kernel_rfl : Ev.restOf 1 (Ev.codeAt [.r, .r, .r, .r, .r, .r, .r] body) = (Ev.codeAt [.r, .r, .r, .r, .r, .r, .r, .r] body)) p11 n15
set_option maxRecDepth 1000000 in
theorem n17 [Ev.Env] : Ev.CutOk Try.prog 196 Try.prog.globals.size (Ev.codeAt [.r, .r, .r, .r, .r, .r] body) L4.frame L4.st .ret L8.frame L8.st := Ev.cut_steps' (Ev.runF_ok Try.prog 1000000 1000) (by kernel_rfl : Ev.restOf 1 (Ev.codeAt [.r, .r, .r, .r, .r, .r] body) = (Ev.codeAt [.r, .r, .r, .r, .r, .r, .r] body)) p10 n16
set_option maxRecDepth 1000000 in
theorem n18 [Ev.Env] : Ev.CutOk Try.prog 196 Try.prog.globals.size (Ev.codeAt [.r, .r, .r, .r, .r] body) L3.frame L3.st .ret L8.frame L8.st := Ev.cut_steps' (Ev.runF_ok Try.prog 1000000 1000) (by kernel_rfl : Ev.restOf 1 (Ev.codeAt [.r, .r, .r, .r, .r] body) = (Ev.codeAt [.r, .r, .r, .r, .r, .r] body)) p9 n17
set_option maxRecDepth 1000000 in
theorem n19 [Ev.Env] : Ev.CutOk Try.prog 196 Try.prog.globals.size (Ev.codeAt [.r, .r, .r, .r] body) L0.frame L0.st .ret L8.frame L8.st := Ev.cut_seq (by kernel_rfl : (Ev.codeAt [.r, .r, .r, .r] body) = .seq (Ev.codeAt [.r, .r, .r, .r, .l] body) (Ev.codeAt [.r, .r, .r, .r, .r] body)) n8 n18
set_option maxRecDepth 1000000 in
theorem n20 [Ev.Env] : Ev.CutOk Try.prog 196 Try.prog.globals.size body (Ev.startFr []) ⟨Ev.heapOf tabs, Try.prog.globals.size⟩ .ret L8.frame L8.st := Ev.cut_steps' (Ev.runF_ok Try.prog 1000000 1000) (by kernel_rfl : Ev.restOf 4 body = (Ev.codeAt [.r, .r, .r, .r] body)) p0 n19
end c0
end cardNamesRun
end Go.Proofs.Ytpafbnmncioppaa
