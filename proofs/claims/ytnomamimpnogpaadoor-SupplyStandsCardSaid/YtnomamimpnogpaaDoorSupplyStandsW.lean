/- The walk of SupplyStands: a closed call, run on an abstract memory. -/
import Derived.Test.YtnomamimpnogpaaDoorEvCode
import Derived.Test.YtnomamimpnogpaaDoorRows
import Derived.Lib.LaidTab
import Derived.KernelRfl
namespace Go.Proofs.YtnomamimpnogpaaDoor
open Go.RowKit
namespace supplyStandsRun
def t0 : List Int := [32768, 2000000, 3000000, 4000000, 5000000, 6000000, 7000000, 8000000, 9000000, 10000000, 11000000, 12000000, 13000000, 14000000, 15000000, 16000000, 17000000, 18000000, 19000000, 20000000, 21000000, 22000000, 23000000, 24000000, 25000000, 26000000, 27000000, 28000000, 29000000, 30000000, 31000000, 100000000]
def t1 : List Int := [800000, 2312500, 3325000, 4337500, 5350000, 6362500, 7375000, 8387500, 9400000, 10412500, 11425000, 12437500, 13450000, 14462500, 15475000, 16487500, 17500000, 18512500, 19525000, 20537500, 21550000, 22562500, 23575000, 25000000]
def tabs : List (Nat × List Int) := [(1, t0), (0, t1)]
set_option maxRecDepth 1000000 in
theorem run : Ev.saysTrue (Ev.ev Tryd.prog 1000000 Tryd.prog.globals.size (.call 9 [] ⟨Ev.heapOf tabs, Tryd.prog.globals.size⟩)) = true := by kernel_rfl
theorem holds {P : Program} {W : World} {name : String} {L : List Int} {g : Nat} (hg : P.globalNamed name = some g) (h : Lib.TabIs P W name .i64 L) : Ev.HoldsAt W g L := by
  unfold Lib.TabIs World.var? at h
  rw [hg] at h
  simp only [Option.bind_some] at h
  split at h
  · rename_i c t fr hh
    cases h
    exact ⟨t, fr, hh⟩
  · cases h
end supplyStandsRun
theorem Vars.mk {W : World} (h0 : Lib.TabIs Tryd.prog W "reveille/crystal.table" .i64 supplyStandsRun.t0) (h1 : Lib.TabIs Tryd.prog W "reveille/supply.table" .i64 supplyStandsRun.t1) : ∀ x ∈ supplyStandsRun.tabs, Ev.HoldsAt W x.1 x.2 ∧ x.1 < Tryd.prog.globals.size := by
  intro x hx
  simp only [supplyStandsRun.tabs, List.mem_cons, List.not_mem_nil, or_false] at hx
  rcases hx with rfl | rfl
  · exact ⟨supplyStandsRun.holds (by kernel_rfl) h0, of_decide_eq_true (by kernel_rfl)⟩
  · exact ⟨supplyStandsRun.holds (by kernel_rfl) h1, of_decide_eq_true (by kernel_rfl)⟩
theorem supplyStands_walk (W : World) (hsh : W.ShapedOpen Tryd.prog) (hv : ∀ x ∈ supplyStandsRun.tabs, Ev.HoldsAt W x.1 x.2 ∧ x.1 < Tryd.prog.globals.size) :
    Calls Tryd.prog 9 #[] W fun e w' => e = .returned (.bool true) ∧ Below W.heap.size W w' :=
  Ev.closed_true hsh hv supplyStandsRun.run
#print axioms supplyStands_walk
end Go.Proofs.YtnomamimpnogpaaDoor
