/- The walk of RollOthers: a call, run on an abstract memory. -/
import Derived.Test.YtlgbmjdlgjdolaaDoorEvCut
import Derived.Test.YtlgbmjdlgjdolaaDoorRows
import Derived.Lib.LaidTab
import Derived.KernelRfl
import Derived.Test.YtlgbmjdlgjdolaaDoorRollOthersR
import Derived.Test.YtlgbmjdlgjdolaaDoorRollOthersC0
import Derived.Test.YtlgbmjdlgjdolaaDoorRollOthersC1
import Derived.Test.YtlgbmjdlgjdolaaDoorRollOthersC2
import Derived.Test.YtlgbmjdlgjdolaaDoorRollOthersC3
import Derived.Test.YtlgbmjdlgjdolaaDoorRollOthersC4
import Derived.Test.YtlgbmjdlgjdolaaDoorRollOthersC5
import Derived.Test.YtlgbmjdlgjdolaaDoorRollOthersC6
import Derived.Test.YtlgbmjdlgjdolaaDoorRollOthersC7
import Derived.Test.YtlgbmjdlgjdolaaDoorRollOthersC8
namespace Go.Proofs.YtlgbmjdlgjdolaaDoor
open Go.RowKit
namespace rollOthersRun
theorem holds {P : Program} {W : World} {name : String} {L : List Int} {g : Nat} (hg : P.globalNamed name = some g) (h : Lib.TabIs P W name .i64 L) : Ev.HoldsAt W g L := by
  unfold Lib.TabIs World.var? at h
  rw [hg] at h
  simp only [Option.bind_some] at h
  split at h
  · rename_i c t fr hh
    cases h
    exact ⟨t, fr, hh⟩
  · cases h
end rollOthersRun
theorem Vars.mk {W : World} (h0 : Lib.TabIs Tryd.prog W "reveille/bus.table" .i64 rollOthersRun.t0) (h1 : Lib.TabIs Tryd.prog W "reveille/crystal.table" .i64 rollOthersRun.t1) (h2 : Lib.TabIs Tryd.prog W "reveille/radio.table" .i64 rollOthersRun.t2) (h3 : Lib.TabIs Tryd.prog W "reveille/sensor.table" .i64 rollOthersRun.t3) (h4 : Lib.TabIs Tryd.prog W "reveille/supply.table" .i64 rollOthersRun.t4) : ∀ x ∈ rollOthersRun.tabs, Ev.HoldsAt W x.1 x.2 ∧ x.1 < Tryd.prog.globals.size := by
  intro x hx
  simp only [rollOthersRun.tabs, List.mem_cons, List.not_mem_nil, or_false] at hx
  rcases hx with rfl | rfl | rfl | rfl | rfl
  · exact ⟨rollOthersRun.holds (by kernel_rfl) h0, of_decide_eq_true (by kernel_rfl)⟩
  · exact ⟨rollOthersRun.holds (by kernel_rfl) h1, of_decide_eq_true (by kernel_rfl)⟩
  · exact ⟨rollOthersRun.holds (by kernel_rfl) h2, of_decide_eq_true (by kernel_rfl)⟩
  · exact ⟨rollOthersRun.holds (by kernel_rfl) h3, of_decide_eq_true (by kernel_rfl)⟩
  · exact ⟨rollOthersRun.holds (by kernel_rfl) h4, of_decide_eq_true (by kernel_rfl)⟩
theorem rollOthers_walk (x0 : Int) (x1 : Int) (W : World) (wf0 : (Lit.int .i64 x0).wf = true) (wf1 : (Lit.int .i64 x1).wf = true) (hsh : W.ShapedOpen Tryd.prog) (hv : ∀ x ∈ rollOthersRun.tabs, Ev.HoldsAt W x.1 x.2 ∧ x.1 < Tryd.prog.globals.size) :
    Calls Tryd.prog 7 #[.int .i64 x0, .int .i64 x1] W fun e w' => e = .returned (.bool true) ∧ Below W.heap.size W w' := by
  letI : Ev.Env := ⟨x1, fun _ => []⟩
  have hr := Ev.tmod_cases x0 5 (by decide)
  have hn : Int.tmod x0 5 = -4 ∨ Int.tmod x0 5 = -3 ∨ Int.tmod x0 5 = -2 ∨ Int.tmod x0 5 = -1 ∨ Int.tmod x0 5 = 0 ∨ Int.tmod x0 5 = 1 ∨ Int.tmod x0 5 = 2 ∨ Int.tmod x0 5 = 3 ∨ Int.tmod x0 5 = 4 := by generalize Int.tmod x0 5 = r at hr; omega
  rcases hn with hc | hc | hc | hc | hc | hc | hc | hc | hc
  · exact Ev.true_cut (L := rollOthersRun.c0.L1) hsh hv (vs := #[.int .i64 x0, .int .i64 x1]) (fun β => show Ev.Reps β [.sym (.res 5 (-4)), .sym (.lin false 0 1)] [.int .i64 x0, .int .i64 x1] from ⟨_, _, rfl, ⟨x0, rfl, hc⟩, ⟨_, _, rfl, Ev.rep_num wf1, rfl⟩⟩) Tryd.func7 (body := rollOthersRun.body) (by kernel_rfl) (by kernel_rfl) rollOthersRun.c0.n3 (by kernel_rfl)
  · exact Ev.true_cut (L := rollOthersRun.c1.L1) hsh hv (vs := #[.int .i64 x0, .int .i64 x1]) (fun β => show Ev.Reps β [.sym (.res 5 (-3)), .sym (.lin false 0 1)] [.int .i64 x0, .int .i64 x1] from ⟨_, _, rfl, ⟨x0, rfl, hc⟩, ⟨_, _, rfl, Ev.rep_num wf1, rfl⟩⟩) Tryd.func7 (body := rollOthersRun.body) (by kernel_rfl) (by kernel_rfl) rollOthersRun.c1.n3 (by kernel_rfl)
  · exact Ev.true_cut (L := rollOthersRun.c2.L1) hsh hv (vs := #[.int .i64 x0, .int .i64 x1]) (fun β => show Ev.Reps β [.sym (.res 5 (-2)), .sym (.lin false 0 1)] [.int .i64 x0, .int .i64 x1] from ⟨_, _, rfl, ⟨x0, rfl, hc⟩, ⟨_, _, rfl, Ev.rep_num wf1, rfl⟩⟩) Tryd.func7 (body := rollOthersRun.body) (by kernel_rfl) (by kernel_rfl) rollOthersRun.c2.n3 (by kernel_rfl)
  · exact Ev.true_cut (L := rollOthersRun.c3.L1) hsh hv (vs := #[.int .i64 x0, .int .i64 x1]) (fun β => show Ev.Reps β [.sym (.res 5 (-1)), .sym (.lin false 0 1)] [.int .i64 x0, .int .i64 x1] from ⟨_, _, rfl, ⟨x0, rfl, hc⟩, ⟨_, _, rfl, Ev.rep_num wf1, rfl⟩⟩) Tryd.func7 (body := rollOthersRun.body) (by kernel_rfl) (by kernel_rfl) rollOthersRun.c3.n3 (by kernel_rfl)
  · exact Ev.true_cut (L := rollOthersRun.c4.L1) hsh hv (vs := #[.int .i64 x0, .int .i64 x1]) (fun β => show Ev.Reps β [.sym (.res 5 (0)), .sym (.lin false 0 1)] [.int .i64 x0, .int .i64 x1] from ⟨_, _, rfl, ⟨x0, rfl, hc⟩, ⟨_, _, rfl, Ev.rep_num wf1, rfl⟩⟩) Tryd.func7 (body := rollOthersRun.body) (by kernel_rfl) (by kernel_rfl) rollOthersRun.c4.n3 (by kernel_rfl)
  · exact Ev.true_cut (L := rollOthersRun.c5.L1) hsh hv (vs := #[.int .i64 x0, .int .i64 x1]) (fun β => show Ev.Reps β [.sym (.res 5 (1)), .sym (.lin false 0 1)] [.int .i64 x0, .int .i64 x1] from ⟨_, _, rfl, ⟨x0, rfl, hc⟩, ⟨_, _, rfl, Ev.rep_num wf1, rfl⟩⟩) Tryd.func7 (body := rollOthersRun.body) (by kernel_rfl) (by kernel_rfl) rollOthersRun.c5.n3 (by kernel_rfl)
  · exact Ev.true_cut (L := rollOthersRun.c6.L1) hsh hv (vs := #[.int .i64 x0, .int .i64 x1]) (fun β => show Ev.Reps β [.sym (.res 5 (2)), .sym (.lin false 0 1)] [.int .i64 x0, .int .i64 x1] from ⟨_, _, rfl, ⟨x0, rfl, hc⟩, ⟨_, _, rfl, Ev.rep_num wf1, rfl⟩⟩) Tryd.func7 (body := rollOthersRun.body) (by kernel_rfl) (by kernel_rfl) rollOthersRun.c6.n3 (by kernel_rfl)
  · exact Ev.true_cut (L := rollOthersRun.c7.L1) hsh hv (vs := #[.int .i64 x0, .int .i64 x1]) (fun β => show Ev.Reps β [.sym (.res 5 (3)), .sym (.lin false 0 1)] [.int .i64 x0, .int .i64 x1] from ⟨_, _, rfl, ⟨x0, rfl, hc⟩, ⟨_, _, rfl, Ev.rep_num wf1, rfl⟩⟩) Tryd.func7 (body := rollOthersRun.body) (by kernel_rfl) (by kernel_rfl) rollOthersRun.c7.n3 (by kernel_rfl)
  · exact Ev.true_cut (L := rollOthersRun.c8.L1) hsh hv (vs := #[.int .i64 x0, .int .i64 x1]) (fun β => show Ev.Reps β [.sym (.res 5 (4)), .sym (.lin false 0 1)] [.int .i64 x0, .int .i64 x1] from ⟨_, _, rfl, ⟨x0, rfl, hc⟩, ⟨_, _, rfl, Ev.rep_num wf1, rfl⟩⟩) Tryd.func7 (body := rollOthersRun.body) (by kernel_rfl) (by kernel_rfl) rollOthersRun.c8.n3 (by kernel_rfl)
#print axioms rollOthers_walk
end Go.Proofs.YtlgbmjdlgjdolaaDoor
