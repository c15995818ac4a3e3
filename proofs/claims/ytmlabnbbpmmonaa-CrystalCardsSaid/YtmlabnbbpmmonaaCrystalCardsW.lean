/- The walk of CrystalCards: a closed call, run on an abstract memory. -/
import Derived.Test.YtmlabnbbpmmonaaEvCode
import Derived.Test.YtmlabnbbpmmonaaRows
import Derived.Lib.LaidTab
import Derived.KernelRfl
namespace Go.Proofs.Ytmlabnbbpmmonaa
open Go.RowKit
namespace crystalCardsRun
def tabs : List (Nat × List Int) := []
set_option maxRecDepth 1000000 in
theorem run : Ev.saysTrue (Ev.ev Try.prog 1000000 Try.prog.globals.size (.call 3 [] ⟨Ev.heapOf tabs, Try.prog.globals.size⟩)) = true := by kernel_rfl
theorem holds {P : Program} {W : World} {name : String} {L : List Int} {g : Nat} (hg : P.globalNamed name = some g) (h : Lib.TabIs P W name .i64 L) : Ev.HoldsAt W g L := by
  unfold Lib.TabIs World.var? at h
  rw [hg] at h
  simp only [Option.bind_some] at h
  split at h
  · rename_i c t fr hh
    cases h
    exact ⟨t, fr, hh⟩
  · cases h
end crystalCardsRun
theorem crystalCards_walk (W : World) (hsh : W.ShapedOpen Try.prog) :
    Calls Try.prog 3 #[] W fun e w' => e = .returned (.bool true) ∧ Below W.heap.size W w' :=
  Ev.closed_true hsh (fun x hx => by cases hx) crystalCardsRun.run
#print axioms crystalCards_walk
end Go.Proofs.Ytmlabnbbpmmonaa
