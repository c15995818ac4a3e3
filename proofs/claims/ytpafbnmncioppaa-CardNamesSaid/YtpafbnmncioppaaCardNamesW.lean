/- The walk of CardNames: a call, run on an abstract memory. -/
import Derived.Test.YtpafbnmncioppaaEvCut
import Derived.Test.YtpafbnmncioppaaRows
import Derived.Lib.LaidTab
import Derived.KernelRfl
import Derived.Test.YtpafbnmncioppaaCardNamesR
import Derived.Test.YtpafbnmncioppaaCardNamesC0
namespace Go.Proofs.Ytpafbnmncioppaa
open Go.RowKit
namespace cardNamesRun
theorem holds {P : Program} {W : World} {name : String} {L : List Int} {g : Nat} (hg : P.globalNamed name = some g) (h : Lib.TabIs P W name .i64 L) : Ev.HoldsAt W g L := by
  unfold Lib.TabIs World.var? at h
  rw [hg] at h
  simp only [Option.bind_some] at h
  split at h
  · rename_i c t fr hh
    cases h
    exact ⟨t, fr, hh⟩
  · cases h
end cardNamesRun
theorem cardNames_walk (W : World) (hsh : W.ShapedOpen Try.prog) :
    Calls Try.prog 7 #[] W fun e w' => e = .returned (.bool true) ∧ Below W.heap.size W w' := by
  letI : Ev.Env := ⟨0, fun _ => []⟩
  exact Ev.true_cut (L := cardNamesRun.c0.L8) hsh (fun x hx => by cases hx) (vs := #[]) (fun β => show Ev.Reps β [] [] from rfl) Try.func7 (body := cardNamesRun.body) (by kernel_rfl) (by kernel_rfl) cardNamesRun.c0.n20 (by kernel_rfl)
#print axioms cardNames_walk
end Go.Proofs.Ytpafbnmncioppaa
