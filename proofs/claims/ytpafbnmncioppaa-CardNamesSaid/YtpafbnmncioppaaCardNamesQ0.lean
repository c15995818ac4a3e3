/- CardNames, piece 0: run on an abstract memory. -/
import Derived.Test.YtpafbnmncioppaaEvCut
import Derived.Test.YtpafbnmncioppaaRows
import Derived.Lib.LaidTab
import Derived.KernelRfl
import Derived.Test.YtpafbnmncioppaaCardNamesR
import Derived.Test.YtpafbnmncioppaaCardNamesL0
import Derived.Test.YtpafbnmncioppaaCardNamesL1
import Derived.Test.YtpafbnmncioppaaCardNamesL2
namespace Go.Proofs.Ytpafbnmncioppaa
open Go.RowKit
namespace cardNamesRun
namespace c0
set_option maxRecDepth 1000000 in
theorem p0 : Ev.fitsT 196 .nrm L0 (Ev.stepsF Try.prog 196 4 body (Ev.runF Try.prog 1000000 1000) 1000000 Try.prog.globals.size (Ev.startFr []) ⟨Ev.heapOf tabs, Try.prog.globals.size⟩) = true := by kernel_rfl
end c0
end cardNamesRun
end Go.Proofs.Ytpafbnmncioppaa
