/- works() of the bus's statements: run once. -/
import Derived.Test.YtdhlmflbefnekaaDoorEvCall
import Derived.Test.YtdhlmflbefnekaaDoorTables
import Derived.KernelRfl
namespace Go.Proofs.YtdhlmflbefnekaaDoor
open Go.RowKit
namespace wkRun
def tabs : List (Nat × List Int) := [(0, busL)]
noncomputable def st : Ev.St := ⟨Ev.heapOf tabs, Tryd.prog.globals.size⟩
def Stood (W : World) : Prop := W.ShapedOpen Tryd.prog ∧ ∀ x ∈ tabs, Ev.HoldsAt W x.1 x.2 ∧ x.1 < Tryd.prog.globals.size
set_option maxRecDepth 1000000 in
theorem works_run : Ev.valF (.bool true) (Ev.runF Tryd.prog 1000000 1000 Tryd.prog.globals.size 24 [] st) = true := by kernel_rfl
theorem works_any {W : World} (h : Stood W) (w : World) (hb : Below W.heap.size W w) : Calls Tryd.prog 24 #[] w fun e w' => e = .returned (.bool true) ∧ Below w.heap.size w w' := by
  letI : Ev.Env := ⟨0, fun _ => []⟩
  refine (Ev.run_val h.1 h.2 hb (Ev.runF_ok Tryd.prog 1000000 1000) (ars := []) (vs := #[]) (fun β => show Ev.Reps β [] [] from rfl) works_run).mono ?_
  rintro e w' ⟨⟨u, β, rfl, hu⟩, hw⟩
  exact ⟨by rw [Ev.rep_bool1 hu], hw⟩
theorem holdsAt_of {P : Program} {W : World} {name : String} {L : List Int} {g : Nat} (hg : P.globalNamed name = some g) (h : Lib.TabIs P W name .i64 L) : Ev.HoldsAt W g L := by
  unfold Lib.TabIs World.var? at h
  rw [hg] at h
  simp only [Option.bind_some] at h
  split at h
  · rename_i c t fr hh
    cases h
    exact ⟨t, fr, hh⟩
  · cases h
theorem stood_tabs {W : World} (h0 : Lib.TabIs Tryd.prog W "reveille/bus.table" .i64 busL) : ∀ x ∈ tabs, Ev.HoldsAt W x.1 x.2 ∧ x.1 < Tryd.prog.globals.size := fun x hx => by
  simp only [tabs, List.mem_cons, List.not_mem_nil, or_false] at hx
  subst hx
  exact ⟨holdsAt_of bus_named h0, of_decide_eq_true (by kernel_rfl)⟩
end wkRun
end Go.Proofs.YtdhlmflbefnekaaDoor
