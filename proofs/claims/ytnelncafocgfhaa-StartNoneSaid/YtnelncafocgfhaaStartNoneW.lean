/- The walk of StartNone: a call, run on an abstract memory. -/
import Derived.Test.YtnelncafocgfhaaEvCut
import Derived.Test.YtnelncafocgfhaaRows
import Derived.Lib.LaidTab
import Derived.KernelRfl
import Derived.Test.YtnelncafocgfhaaStartNoneR
import Derived.Test.YtnelncafocgfhaaStartNoneC0
namespace Go.Proofs.Ytnelncafocgfhaa
open Go.RowKit
namespace startNoneRun
theorem holds {P : Program} {W : World} {name : String} {L : List Int} {g : Nat} (hg : P.globalNamed name = some g) (h : Lib.TabIs P W name .i64 L) : Ev.HoldsAt W g L := by
  unfold Lib.TabIs World.var? at h
  rw [hg] at h
  simp only [Option.bind_some] at h
  split at h
  · rename_i c t fr hh
    cases h
    exact ⟨t, fr, hh⟩
  · cases h
end startNoneRun
theorem startNone_walk (W : World) (hsh : W.ShapedOpen Try.prog) :
    Calls Try.prog 4 #[] W fun e w' => e = .returned (.bool true) ∧ Below W.heap.size W w' := by
  letI : Ev.Env := ⟨0, fun _ => []⟩
  exact Ev.true_cut (L := startNoneRun.c0.L111) hsh (fun x hx => by cases hx) (vs := #[]) (fun β => show Ev.Reps β [] [] from rfl) Try.func4 (body := startNoneRun.body) (by kernel_rfl) (by kernel_rfl) startNoneRun.c0.n184 (by kernel_rfl)
#print axioms startNone_walk
end Go.Proofs.Ytnelncafocgfhaa
