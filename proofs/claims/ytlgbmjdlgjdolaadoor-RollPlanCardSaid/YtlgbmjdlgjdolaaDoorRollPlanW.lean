/- The walk of RollPlan: a call, run on an abstract memory. -/
import Derived.Test.YtlgbmjdlgjdolaaDoorEvSum
import Derived.Test.YtlgbmjdlgjdolaaDoorRows
import Derived.Lib.LaidTab
import Derived.KernelRfl
import Derived.Test.YtlgbmjdlgjdolaaDoorRollPlanS0
namespace Go.Proofs.YtlgbmjdlgjdolaaDoor
open Go.RowKit
namespace rollPlanRun
set_option maxRecDepth 1000000 in
theorem run0 : Ev.trueF (Ev.runW Tryd.prog 1000000 k0 1000 Tryd.prog.globals.size 5 [] ⟨Ev.heapOf tabs, Tryd.prog.globals.size⟩) = true := by kernel_rfl
theorem holds {P : Program} {W : World} {name : String} {L : List Int} {g : Nat} (hg : P.globalNamed name = some g) (h : Lib.TabIs P W name .i64 L) : Ev.HoldsAt W g L := by
  unfold Lib.TabIs World.var? at h
  rw [hg] at h
  simp only [Option.bind_some] at h
  split at h
  · rename_i c t fr hh
    cases h
    exact ⟨t, fr, hh⟩
  · cases h
end rollPlanRun
theorem Vars.mk {W : World} (h0 : Lib.TabIs Tryd.prog W "reveille/bus.table" .i64 rollPlanRun.t0) (h1 : Lib.TabIs Tryd.prog W "reveille/crystal.table" .i64 rollPlanRun.t1) (h2 : Lib.TabIs Tryd.prog W "reveille/radio.table" .i64 rollPlanRun.t2) (h3 : Lib.TabIs Tryd.prog W "reveille/sensor.table" .i64 rollPlanRun.t3) (h4 : Lib.TabIs Tryd.prog W "reveille/supply.table" .i64 rollPlanRun.t4) : ∀ x ∈ rollPlanRun.tabs, Ev.HoldsAt W x.1 x.2 ∧ x.1 < Tryd.prog.globals.size := by
  intro x hx
  simp only [rollPlanRun.tabs, List.mem_cons, List.not_mem_nil, or_false] at hx
  rcases hx with rfl | rfl | rfl | rfl | rfl
  · exact ⟨rollPlanRun.holds (by kernel_rfl) h0, of_decide_eq_true (by kernel_rfl)⟩
  · exact ⟨rollPlanRun.holds (by kernel_rfl) h1, of_decide_eq_true (by kernel_rfl)⟩
  · exact ⟨rollPlanRun.holds (by kernel_rfl) h2, of_decide_eq_true (by kernel_rfl)⟩
  · exact ⟨rollPlanRun.holds (by kernel_rfl) h3, of_decide_eq_true (by kernel_rfl)⟩
  · exact ⟨rollPlanRun.holds (by kernel_rfl) h4, of_decide_eq_true (by kernel_rfl)⟩
theorem rollPlan_walk (W : World) (hsh : W.ShapedOpen Tryd.prog) (hv : ∀ x ∈ rollPlanRun.tabs, Ev.HoldsAt W x.1 x.2 ∧ x.1 < Tryd.prog.globals.size) :
    Calls Tryd.prog 5 #[] W fun e w' => e = .returned (.bool true) ∧ Below W.heap.size W w' := by
  haveI : Ev.Env := ⟨0, fun _ => []⟩
  exact Ev.closed_with hsh hv (Ev.runW_ok rollPlanRun.k0_ok 1000) rollPlanRun.run0
#print axioms rollPlan_walk
end Go.Proofs.YtlgbmjdlgjdolaaDoor
