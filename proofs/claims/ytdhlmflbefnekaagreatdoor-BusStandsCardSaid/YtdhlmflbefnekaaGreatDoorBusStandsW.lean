/- The walk of BusStands: a closed call, run on an abstract memory. -/
import Derived.Test.YtdhlmflbefnekaaGreatDoorEvFast
import Derived.Test.YtdhlmflbefnekaaGreatDoorRows
import Derived.Lib.LaidTab
import Derived.KernelRfl
namespace Go.Proofs.YtdhlmflbefnekaaGreatDoor
open Go.RowKit
namespace busStandsRun
def t0 : List Int := [271672320, 279750992, 284866528, 289982064, 295097600, 300213136, 305328672, 310444208, 315559744, 320675280, 325790816, 330906352, 336021888, 341137424, 346252960, 351368496, 356484032, 361599568, 366715104, 411830640]
def t1 : List Int := [32768, 2000000, 3000000, 4000000, 5000000, 6000000, 7000000, 8000000, 9000000, 10000000, 11000000, 12000000, 13000000, 14000000, 15000000, 16000000, 17000000, 18000000, 19000000, 20000000, 21000000, 22000000, 23000000, 24000000, 25000000, 26000000, 27000000, 28000000, 29000000, 30000000, 31000000, 100000000]
def t2 : List Int := [800000, 2312500, 3325000, 4337500, 5350000, 6362500, 7375000, 8387500, 9400000, 10412500, 11425000, 12437500, 13450000, 14462500, 15475000, 16487500, 17500000, 18512500, 19525000, 20537500, 21550000, 22562500, 23575000, 25000000]
def tabs : List (Nat × List Int) := [(0, t0), (1, t1), (2, t2)]
set_option maxRecDepth 1000000 in
theorem run : Ev.trueF (Ev.runF Tryz.prog 1000000 1000 Tryz.prog.globals.size 3 [] ⟨Ev.heapOf tabs, Tryz.prog.globals.size⟩) = true := by kernel_rfl
theorem holds {P : Program} {W : World} {name : String} {L : List Int} {g : Nat} (hg : P.globalNamed name = some g) (h : Lib.TabIs P W name .i64 L) : Ev.HoldsAt W g L := by
  unfold Lib.TabIs World.var? at h
  rw [hg] at h
  simp only [Option.bind_some] at h
  split at h
  · rename_i c t fr hh
    cases h
    exact ⟨t, fr, hh⟩
  · cases h
end busStandsRun
theorem Vars.mk {W : World} (h0 : Lib.TabIs Tryz.prog W "reveille/bus.table" .i64 busStandsRun.t0) (h1 : Lib.TabIs Tryz.prog W "reveille/crystal.table" .i64 busStandsRun.t1) (h2 : Lib.TabIs Tryz.prog W "reveille/supply.table" .i64 busStandsRun.t2) : ∀ x ∈ busStandsRun.tabs, Ev.HoldsAt W x.1 x.2 ∧ x.1 < Tryz.prog.globals.size := by
  intro x hx
  simp only [busStandsRun.tabs, List.mem_cons, List.not_mem_nil, or_false] at hx
  rcases hx with rfl | rfl | rfl
  · exact ⟨busStandsRun.holds (by kernel_rfl) h0, of_decide_eq_true (by kernel_rfl)⟩
  · exact ⟨busStandsRun.holds (by kernel_rfl) h1, of_decide_eq_true (by kernel_rfl)⟩
  · exact ⟨busStandsRun.holds (by kernel_rfl) h2, of_decide_eq_true (by kernel_rfl)⟩
theorem busStands_walk (W : World) (hsh : W.ShapedOpen Tryz.prog) (hv : ∀ x ∈ busStandsRun.tabs, Ev.HoldsAt W x.1 x.2 ∧ x.1 < Tryz.prog.globals.size) :
    Calls Tryz.prog 3 #[] W fun e w' => e = .returned (.bool true) ∧ Below W.heap.size W w' :=
  Ev.closed_fast hsh hv busStandsRun.run
#print axioms busStands_walk
end Go.Proofs.YtdhlmflbefnekaaGreatDoor
