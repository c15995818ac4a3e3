/- The walk of RollAsks: a call, run on an abstract memory. -/
import Derived.Test.YtlgbmjdlgjdolaaDoorEvSum
import Derived.Test.YtlgbmjdlgjdolaaDoorRows
import Derived.Lib.LaidTab
import Derived.KernelRfl
import Derived.Test.YtlgbmjdlgjdolaaDoorRollAsksR
import Derived.Test.YtlgbmjdlgjdolaaDoorRollAsksR0
import Derived.Test.YtlgbmjdlgjdolaaDoorRollAsksR1
import Derived.Test.YtlgbmjdlgjdolaaDoorRollAsksR2
import Derived.Test.YtlgbmjdlgjdolaaDoorRollAsksR3
import Derived.Test.YtlgbmjdlgjdolaaDoorRollAsksR4
namespace Go.Proofs.YtlgbmjdlgjdolaaDoor
open Go.RowKit
namespace rollAsksRun
theorem holds {P : Program} {W : World} {name : String} {L : List Int} {g : Nat} (hg : P.globalNamed name = some g) (h : Lib.TabIs P W name .i64 L) : Ev.HoldsAt W g L := by
  unfold Lib.TabIs World.var? at h
  rw [hg] at h
  simp only [Option.bind_some] at h
  split at h
  · rename_i c t fr hh
    cases h
    exact ⟨t, fr, hh⟩
  · cases h
end rollAsksRun
theorem Vars.mk {W : World} (h0 : Lib.TabIs Tryd.prog W "reveille/bus.table" .i64 rollAsksRun.t0) (h1 : Lib.TabIs Tryd.prog W "reveille/crystal.table" .i64 rollAsksRun.t1) (h2 : Lib.TabIs Tryd.prog W "reveille/radio.table" .i64 rollAsksRun.t2) (h3 : Lib.TabIs Tryd.prog W "reveille/sensor.table" .i64 rollAsksRun.t3) (h4 : Lib.TabIs Tryd.prog W "reveille/supply.table" .i64 rollAsksRun.t4) : ∀ x ∈ rollAsksRun.tabs, Ev.HoldsAt W x.1 x.2 ∧ x.1 < Tryd.prog.globals.size := by
  intro x hx
  simp only [rollAsksRun.tabs, List.mem_cons, List.not_mem_nil, or_false] at hx
  rcases hx with rfl | rfl | rfl | rfl | rfl
  · exact ⟨rollAsksRun.holds (by kernel_rfl) h0, of_decide_eq_true (by kernel_rfl)⟩
  · exact ⟨rollAsksRun.holds (by kernel_rfl) h1, of_decide_eq_true (by kernel_rfl)⟩
  · exact ⟨rollAsksRun.holds (by kernel_rfl) h2, of_decide_eq_true (by kernel_rfl)⟩
  · exact ⟨rollAsksRun.holds (by kernel_rfl) h3, of_decide_eq_true (by kernel_rfl)⟩
  · exact ⟨rollAsksRun.holds (by kernel_rfl) h4, of_decide_eq_true (by kernel_rfl)⟩
theorem rollAsks_walk (x0 : ByteArray) (W : World) (wf0 : x0.size ≤ maxLen) (hsh : W.ShapedOpen Tryd.prog) (hv : ∀ x ∈ rollAsksRun.tabs, Ev.HoldsAt W x.1 x.2 ∧ x.1 < Tryd.prog.globals.size) :
    Calls Tryd.prog 3 #[.string x0] W fun e w' => e = .returned (.bool true) ∧ Below W.heap.size W w' := by
  letI : Ev.Env := ⟨0, fun _ => x0.data.toList⟩
  by_cases hn : x0.data.toList ∈ rollAsksRun.nes
  · simp only [rollAsksRun.nes, List.mem_cons, List.not_mem_nil, or_false] at hn
    rcases hn with hc | hc | hc | hc | hc | hc | hc | hc | hc | hc | hc | hc | hc | hc | hc | hc | hc | hc | hc | hc | hc | hc | hc | hc | hc | hc | hc
    · exact Ev.run_with hsh hv (Ev.runW_ok rollAsksRun.k0_ok 1000) (vs := #[.string x0]) (fun β => show Ev.Reps β [.str [97, 100, 99]] [.string x0] from ⟨_, _, rfl, Ev.rep_text hc, rfl⟩) rollAsksRun.run0
    · exact Ev.run_with hsh hv (Ev.runW_ok rollAsksRun.k0_ok 1000) (vs := #[.string x0]) (fun β => show Ev.Reps β [.str [97, 110, 116, 101, 110, 110, 97]] [.string x0] from ⟨_, _, rfl, Ev.rep_text hc, rfl⟩) rollAsksRun.run1
    · exact Ev.run_with hsh hv (Ev.runW_ok rollAsksRun.k0_ok 1000) (vs := #[.string x0]) (fun β => show Ev.Reps β [.str [98, 114, 105, 100, 103, 101]] [.string x0] from ⟨_, _, rfl, Ev.rep_text hc, rfl⟩) rollAsksRun.run2
    · exact Ev.run_with hsh hv (Ev.runW_ok rollAsksRun.k0_ok 1000) (vs := #[.string x0]) (fun β => show Ev.Reps β [.str [98, 117, 99, 107]] [.string x0] from ⟨_, _, rfl, Ev.rep_text hc, rfl⟩) rollAsksRun.run3
    · exact Ev.run_with hsh hv (Ev.runW_ok rollAsksRun.k0_ok 1000) (vs := #[.string x0]) (fun β => show Ev.Reps β [.str [98, 117, 115]] [.string x0] from ⟨_, _, rfl, Ev.rep_text hc, rfl⟩) rollAsksRun.run4
    · exact Ev.run_with hsh hv (Ev.runW_ok rollAsksRun.k0_ok 1000) (vs := #[.string x0]) (fun β => show Ev.Reps β [.str [99, 104, 97, 114, 103, 101, 114]] [.string x0] from ⟨_, _, rfl, Ev.rep_text hc, rfl⟩) rollAsksRun.run5
    · exact Ev.run_with hsh hv (Ev.runW_ok rollAsksRun.k0_ok 1000) (vs := #[.string x0]) (fun β => show Ev.Reps β [.str [99, 114, 121, 115, 116, 97, 108]] [.string x0] from ⟨_, _, rfl, Ev.rep_text hc, rfl⟩) rollAsksRun.run6
    · exact Ev.run_with hsh hv (Ev.runW_ok rollAsksRun.k0_ok 1000) (vs := #[.string x0]) (fun β => show Ev.Reps β [.str [100, 105, 111, 100, 101]] [.string x0] from ⟨_, _, rfl, Ev.rep_text hc, rfl⟩) rollAsksRun.run7
    · exact Ev.run_with hsh hv (Ev.runW_ok rollAsksRun.k0_ok 1000) (vs := #[.string x0]) (fun β => show Ev.Reps β [.str [100, 105, 118, 105, 100, 101, 114]] [.string x0] from ⟨_, _, rfl, Ev.rep_text hc, rfl⟩) rollAsksRun.run8
    · exact Ev.run_with hsh hv (Ev.runW_ok rollAsksRun.k0_ok 1000) (vs := #[.string x0]) (fun β => show Ev.Reps β [.str [102, 105, 120, 101, 100, 45, 99, 108, 111, 99, 107]] [.string x0] from ⟨_, _, rfl, Ev.rep_text hc, rfl⟩) rollAsksRun.run9
    · exact Ev.run_with hsh hv (Ev.runW_ok rollAsksRun.k0_ok 1000) (vs := #[.string x0]) (fun β => show Ev.Reps β [.str [102, 105, 120, 101, 100, 45, 114, 97, 105, 108]] [.string x0] from ⟨_, _, rfl, Ev.rep_text hc, rfl⟩) rollAsksRun.run10
    · exact Ev.run_with hsh hv (Ev.runW_ok rollAsksRun.k0_ok 1000) (vs := #[.string x0]) (fun β => show Ev.Reps β [.str [102, 117, 101, 108, 45, 103, 97, 117, 103, 101]] [.string x0] from ⟨_, _, rfl, Ev.rep_text hc, rfl⟩) rollAsksRun.run11
    · exact Ev.run_with hsh hv (Ev.runW_ok rollAsksRun.k0_ok 1000) (vs := #[.string x0]) (fun β => show Ev.Reps β [.str [104, 117, 98]] [.string x0] from ⟨_, _, rfl, Ev.rep_text hc, rfl⟩) rollAsksRun.run12
    · exact Ev.run_with hsh hv (Ev.runW_ok rollAsksRun.k0_ok 1000) (vs := #[.string x0]) (fun β => show Ev.Reps β [.str [105, 50, 99]] [.string x0] from ⟨_, _, rfl, Ev.rep_text hc, rfl⟩) rollAsksRun.run13
    · exact Ev.run_with hsh hv (Ev.runW_ok rollAsksRun.k0_ok 1000) (vs := #[.string x0]) (fun β => show Ev.Reps β [.str [108, 100, 111]] [.string x0] from ⟨_, _, rfl, Ev.rep_text hc, rfl⟩) rollAsksRun.run14
    · exact Ev.run_with hsh hv (Ev.runW_ok rollAsksRun.k0_ok 1000) (vs := #[.string x0]) (fun β => show Ev.Reps β [.str [108, 111, 97, 100, 45, 115, 119, 105, 116, 99, 104]] [.string x0] from ⟨_, _, rfl, Ev.rep_text hc, rfl⟩) rollAsksRun.run15
    · exact Ev.run_with hsh hv (Ev.runW_ok rollAsksRun.k0_ok 1000) (vs := #[.string x0]) (fun β => show Ev.Reps β [.str [108, 111, 114, 97]] [.string x0] from ⟨_, _, rfl, Ev.rep_text hc, rfl⟩) rollAsksRun.run16
    · exact Ev.run_with hsh hv (Ev.runW_ok rollAsksRun.k0_ok 1000) (vs := #[.string x0]) (fun β => show Ev.Reps β [.str [109, 111, 100, 101, 109]] [.string x0] from ⟨_, _, rfl, Ev.rep_text hc, rfl⟩) rollAsksRun.run17
    · exact Ev.run_with hsh hv (Ev.runW_ok rollAsksRun.k0_ok 1000) (vs := #[.string x0]) (fun β => show Ev.Reps β [.str [112, 108, 108]] [.string x0] from ⟨_, _, rfl, Ev.rep_text hc, rfl⟩) rollAsksRun.run18
    · exact Ev.run_with hsh hv (Ev.runW_ok rollAsksRun.k0_ok 1000) (vs := #[.string x0]) (fun β => show Ev.Reps β [.str [114, 97, 100, 105, 111]] [.string x0] from ⟨_, _, rfl, Ev.rep_text hc, rfl⟩) rollAsksRun.run19
    · exact Ev.run_with hsh hv (Ev.runW_ok rollAsksRun.k0_ok 1000) (vs := #[.string x0]) (fun β => show Ev.Reps β [.str [115, 101, 110, 115, 111, 114]] [.string x0] from ⟨_, _, rfl, Ev.rep_text hc, rfl⟩) rollAsksRun.run20
    · exact Ev.run_with hsh hv (Ev.runW_ok rollAsksRun.k0_ok 1000) (vs := #[.string x0]) (fun β => show Ev.Reps β [.str [115, 105, 109, 112, 108, 101, 45, 98, 117, 115]] [.string x0] from ⟨_, _, rfl, Ev.rep_text hc, rfl⟩) rollAsksRun.run21
    · exact Ev.run_with hsh hv (Ev.runW_ok rollAsksRun.k0_ok 1000) (vs := #[.string x0]) (fun β => show Ev.Reps β [.str [115, 112, 105]] [.string x0] from ⟨_, _, rfl, Ev.rep_text hc, rfl⟩) rollAsksRun.run22
    · exact Ev.run_with hsh hv (Ev.runW_ok rollAsksRun.k0_ok 1000) (vs := #[.string x0]) (fun β => show Ev.Reps β [.str [115, 117, 112, 112, 108, 121]] [.string x0] from ⟨_, _, rfl, Ev.rep_text hc, rfl⟩) rollAsksRun.run23
    · exact Ev.run_with hsh hv (Ev.runW_ok rollAsksRun.k0_ok 1000) (vs := #[.string x0]) (fun β => show Ev.Reps β [.str [116, 104, 101, 114, 109, 105, 115, 116, 111, 114]] [.string x0] from ⟨_, _, rfl, Ev.rep_text hc, rfl⟩) rollAsksRun.run24
    · exact Ev.run_with hsh hv (Ev.runW_ok rollAsksRun.k0_ok 1000) (vs := #[.string x0]) (fun β => show Ev.Reps β [.str [119, 97, 116, 99, 104, 45, 99, 108, 111, 99, 107]] [.string x0] from ⟨_, _, rfl, Ev.rep_text hc, rfl⟩) rollAsksRun.run25
    · exact Ev.run_with hsh hv (Ev.runW_ok rollAsksRun.k0_ok 1000) (vs := #[.string x0]) (fun β => show Ev.Reps β [.str [119, 105, 102, 105]] [.string x0] from ⟨_, _, rfl, Ev.rep_text hc, rfl⟩) rollAsksRun.run26
  · have hc := hn
    exact Ev.run_with hsh hv (Ev.runW_ok rollAsksRun.k0_ok 1000) (vs := #[.string x0]) (fun β => show Ev.Reps β [.sym (.txt 0 rollAsksRun.nes)] [.string x0] from ⟨_, _, rfl, Ev.rep_none hc, rfl⟩) rollAsksRun.run27
#print axioms rollAsks_walk
end Go.Proofs.YtlgbmjdlgjdolaaDoor
