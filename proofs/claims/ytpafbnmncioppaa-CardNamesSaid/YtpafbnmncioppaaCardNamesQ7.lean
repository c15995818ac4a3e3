/- CardNames, piece 7: run on an abstract memory. -/
import Derived.Test.YtpafbnmncioppaaEvCut
import Derived.Test.YtpafbnmncioppaaRows
import Derived.Lib.LaidTab
import Derived.KernelRfl
import Derived.Test.YtpafbnmncioppaaCardNamesR
import Derived.Test.YtpafbnmncioppaaCardNamesL0
import Derived.Test.YtpafbnmncioppaaCardNamesL1
import Derived.Test.YtpafbnmncioppaaCardNamesL2
namespace Go.Proofs.Ytpafbnmncioppaa
open Go.RowKit
namespace cardNamesRun
namespace c0
set_option maxRecDepth 1000000 in
theorem p12 : Ev.fitsT 196 .nrm L7 (Ev.stepsF Try.prog 196 5 (Ev.codeAt [.r, .r, .r, .r, .r, .r, .r, .r] body) (Ev.runF Try.prog 1000000 1000) 1000000 Try.prog.globals.size L6.frame L6.st) = true := by kernel_rfl
end c0
end cardNamesRun
end Go.Proofs.Ytpafbnmncioppaa
