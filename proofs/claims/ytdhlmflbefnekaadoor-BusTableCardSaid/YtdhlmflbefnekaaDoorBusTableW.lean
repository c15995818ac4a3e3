/- The walk of BusTable: a closed call, run on an abstract memory. -/
import Derived.Test.YtdhlmflbefnekaaDoorEvCode
import Derived.Test.YtdhlmflbefnekaaDoorRows
import Derived.Lib.LaidTab
import Derived.KernelRfl
namespace Go.Proofs.YtdhlmflbefnekaaDoor
open Go.RowKit
namespace busTableRun
def t0 : List Int := [271672320, 279750992, 284866528, 289982064, 295097600, 300213136, 305328672, 310444208, 315559744, 320675280, 325790816, 330906352, 336021888, 341137424, 346252960, 351368496, 356484032, 361599568, 366715104, 411830640]
def tabs : List (Nat × List Int) := [(0, t0)]
set_option maxRecDepth 1000000 in
theorem run : Ev.saysTrue (Ev.ev Tryd.prog 1000000 Tryd.prog.globals.size (.call 3 [] ⟨Ev.heapOf tabs, Tryd.prog.globals.size⟩)) = true := by kernel_rfl
theorem holds {P : Program} {W : World} {name : String} {L : List Int} {g : Nat} (hg : P.globalNamed name = some g) (h : Lib.TabIs P W name .i64 L) : Ev.HoldsAt W g L := by
  unfold Lib.TabIs World.var? at h
  rw [hg] at h
  simp only [Option.bind_some] at h
  split at h
  · rename_i c t fr hh
    cases h
    exact ⟨t, fr, hh⟩
  · cases h
end busTableRun
theorem Vars.mk {W : World} (h0 : Lib.TabIs Tryd.prog W "reveille/bus.table" .i64 busTableRun.t0) : ∀ x ∈ busTableRun.tabs, Ev.HoldsAt W x.1 x.2 ∧ x.1 < Tryd.prog.globals.size := by
  intro x hx
  simp only [busTableRun.tabs, List.mem_cons, List.not_mem_nil, or_false] at hx
  subst hx
  · exact ⟨busTableRun.holds (by kernel_rfl) h0, of_decide_eq_true (by kernel_rfl)⟩
theorem busTable_walk (W : World) (hsh : W.ShapedOpen Tryd.prog) (hv : ∀ x ∈ busTableRun.tabs, Ev.HoldsAt W x.1 x.2 ∧ x.1 < Tryd.prog.globals.size) :
    Calls Tryd.prog 3 #[] W fun e w' => e = .returned (.bool true) ∧ Below W.heap.size W w' :=
  Ev.closed_true hsh hv busTableRun.run
#print axioms busTable_walk
end Go.Proofs.YtdhlmflbefnekaaDoor
