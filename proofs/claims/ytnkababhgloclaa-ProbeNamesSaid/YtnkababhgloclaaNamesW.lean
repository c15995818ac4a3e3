/- ProbeNames answers true: the closed statement's walk. -/
import Derived.Test.YtnkababhgloclaaNamesC
namespace Go.Proofs.Ytnkababhgloclaa
open Go.RowKit Go.ChangeShapes
theorem probeNames_walk (W : World) (hsh : W.ShapedOpen Try.prog) : Calls Try.prog 5 #[] W fun e w' => e = .returned (.bool true) ∧ Below W.heap.size W w' := names_any hsh W (Below.refl _ W)
end Go.Proofs.Ytnkababhgloclaa
