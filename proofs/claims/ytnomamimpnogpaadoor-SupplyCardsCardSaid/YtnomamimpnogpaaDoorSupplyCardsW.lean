/- The walk of SupplyCards: a closed call, run on an abstract memory. -/
import Derived.Test.YtnomamimpnogpaaDoorEvCode
import Derived.Test.YtnomamimpnogpaaDoorRows
import Derived.Lib.LaidTab
import Derived.KernelRfl
namespace Go.Proofs.YtnomamimpnogpaaDoor
open Go.RowKit
namespace supplyCardsRun
def t0 : List Int := [800000, 2312500, 3325000, 4337500, 5350000, 6362500, 7375000, 8387500, 9400000, 10412500, 11425000, 12437500, 13450000, 14462500, 15475000, 16487500, 17500000, 18512500, 19525000, 20537500, 21550000, 22562500, 23575000, 25000000]
def tabs : List (Nat × List Int) := [(0, t0)]
set_option maxRecDepth 1000000 in
theorem run : Ev.saysTrue (Ev.ev Tryd.prog 1000000 Tryd.prog.globals.size (.call 8 [] ⟨Ev.heapOf tabs, Tryd.prog.globals.size⟩)) = true := by kernel_rfl
theorem holds {P : Program} {W : World} {name : String} {L : List Int} {g : Nat} (hg : P.globalNamed name = some g) (h : Lib.TabIs P W name .i64 L) : Ev.HoldsAt W g L := by
  unfold Lib.TabIs World.var? at h
  rw [hg] at h
  simp only [Option.bind_some] at h
  split at h
  · rename_i c t fr hh
    cases h
    exact ⟨t, fr, hh⟩
  · cases h
end supplyCardsRun
theorem Vars.mk {W : World} (h0 : Lib.TabIs Tryd.prog W "reveille/supply.table" .i64 supplyCardsRun.t0) : ∀ x ∈ supplyCardsRun.tabs, Ev.HoldsAt W x.1 x.2 ∧ x.1 < Tryd.prog.globals.size := by
  intro x hx
  simp only [supplyCardsRun.tabs, List.mem_cons, List.not_mem_nil, or_false] at hx
  subst hx
  · exact ⟨supplyCardsRun.holds (by kernel_rfl) h0, of_decide_eq_true (by kernel_rfl)⟩
theorem supplyCards_walk (W : World) (hsh : W.ShapedOpen Tryd.prog) (hv : ∀ x ∈ supplyCardsRun.tabs, Ev.HoldsAt W x.1 x.2 ∧ x.1 < Tryd.prog.globals.size) :
    Calls Tryd.prog 8 #[] W fun e w' => e = .returned (.bool true) ∧ Below W.heap.size W w' :=
  Ev.closed_true hsh hv supplyCardsRun.run
#print axioms supplyCards_walk
end Go.Proofs.YtnomamimpnogpaaDoor
