/- The walk of RollKept: a call, run on an abstract memory. -/
import Derived.Test.YtlgbmjdlgjdolaaDoorEvSum
import Derived.Test.YtlgbmjdlgjdolaaDoorRows
import Derived.Lib.LaidTab
import Derived.KernelRfl
import Derived.Test.YtlgbmjdlgjdolaaDoorRollKeptR
import Derived.Test.YtlgbmjdlgjdolaaDoorRollKeptR0
namespace Go.Proofs.YtlgbmjdlgjdolaaDoor
open Go.RowKit
namespace rollKeptRun
theorem holds {P : Program} {W : World} {name : String} {L : List Int} {g : Nat} (hg : P.globalNamed name = some g) (h : Lib.TabIs P W name .i64 L) : Ev.HoldsAt W g L := by
  unfold Lib.TabIs World.var? at h
  rw [hg] at h
  simp only [Option.bind_some] at h
  split at h
  · rename_i c t fr hh
    cases h
    exact ⟨t, fr, hh⟩
  · cases h
end rollKeptRun
theorem Vars.mk {W : World} (h0 : Lib.TabIs Tryd.prog W "reveille/bus.table" .i64 rollKeptRun.t0) (h1 : Lib.TabIs Tryd.prog W "reveille/crystal.table" .i64 rollKeptRun.t1) (h2 : Lib.TabIs Tryd.prog W "reveille/radio.table" .i64 rollKeptRun.t2) (h3 : Lib.TabIs Tryd.prog W "reveille/sensor.table" .i64 rollKeptRun.t3) (h4 : Lib.TabIs Tryd.prog W "reveille/supply.table" .i64 rollKeptRun.t4) : ∀ x ∈ rollKeptRun.tabs, Ev.HoldsAt W x.1 x.2 ∧ x.1 < Tryd.prog.globals.size := by
  intro x hx
  simp only [rollKeptRun.tabs, List.mem_cons, List.not_mem_nil, or_false] at hx
  rcases hx with rfl | rfl | rfl | rfl | rfl
  · exact ⟨rollKeptRun.holds (by kernel_rfl) h0, of_decide_eq_true (by kernel_rfl)⟩
  · exact ⟨rollKeptRun.holds (by kernel_rfl) h1, of_decide_eq_true (by kernel_rfl)⟩
  · exact ⟨rollKeptRun.holds (by kernel_rfl) h2, of_decide_eq_true (by kernel_rfl)⟩
  · exact ⟨rollKeptRun.holds (by kernel_rfl) h3, of_decide_eq_true (by kernel_rfl)⟩
  · exact ⟨rollKeptRun.holds (by kernel_rfl) h4, of_decide_eq_true (by kernel_rfl)⟩
theorem rollKept_walk (x0 : ByteArray) (x1 : Int) (W : World) (wf0 : x0.size ≤ maxLen) (wf1 : (Lit.int .i64 x1).wf = true) (hsh : W.ShapedOpen Tryd.prog) (hv : ∀ x ∈ rollKeptRun.tabs, Ev.HoldsAt W x.1 x.2 ∧ x.1 < Tryd.prog.globals.size) :
    Calls Tryd.prog 6 #[.string x0, .int .i64 x1] W fun e w' => e = .returned (.bool true) ∧ Below W.heap.size W w' := by
  letI : Ev.Env := ⟨x1, fun _ => x0.data.toList⟩
  exact Ev.run_with hsh hv (Ev.runW_ok rollKeptRun.k0_ok 1000) (vs := #[.string x0, .int .i64 x1]) (fun β => show Ev.Reps β [.sym (.txt 0 []), .sym (.lin false 0 1)] [.string x0, .int .i64 x1] from ⟨_, _, rfl, Ev.rep_none (fun h => by cases h), ⟨_, _, rfl, Ev.rep_num wf1, rfl⟩⟩) rollKeptRun.run0
#print axioms rollKept_walk
end Go.Proofs.YtlgbmjdlgjdolaaDoor
