/- The walk of RollBridge: a closed call, run on an abstract memory. -/
import Derived.Test.YtlgbmjdlgjdolaaGreatDoorEvFast
import Derived.Test.YtlgbmjdlgjdolaaGreatDoorRows
import Derived.Lib.LaidTab
import Derived.KernelRfl
namespace Go.Proofs.YtlgbmjdlgjdolaaGreatDoor
open Go.RowKit
namespace rollBridgeRun
def t0 : List Int := [271672320, 279750992, 284866528, 289982064, 295097600, 300213136, 305328672, 310444208, 315559744, 320675280, 325790816, 330906352, 336021888, 341137424, 346252960, 351368496, 356484032, 361599568, 366715104, 411830640]
def t1 : List Int := [32768, 2000000, 3000000, 4000000, 5000000, 6000000, 7000000, 8000000, 9000000, 10000000, 11000000, 12000000, 13000000, 14000000, 15000000, 16000000, 17000000, 18000000, 19000000, 20000000, 21000000, 22000000, 23000000, 24000000, 25000000, 26000000, 27000000, 28000000, 29000000, 30000000, 31000000, 100000000]
def t2 : List Int := [432920000, 444020992, 451206528, 458392064, 465577600, 472763136, 479948672, 487134208, 494319744, 501505280, 508690816, 515876352, 523061888, 530247424, 537432960, 545618496, 518134032, 526269568, 533455104, 580610000]
def t3 : List Int := [625000, 2122500, 3145000, 4167500, 5190000, 6212500, 7235000, 8257500, 9280000, 10302500, 11325000, 12347500, 13370000, 14392500, 15415000, 16937500]
def t4 : List Int := [800000, 2312500, 3325000, 4337500, 5350000, 6362500, 7375000, 8387500, 9400000, 10412500, 11425000, 12437500, 13450000, 14462500, 15475000, 16487500, 17500000, 18512500, 19525000, 20537500, 21550000, 22562500, 23575000, 25000000]
def tabs : List (Nat × List Int) := [(2, t0), (0, t1), (4, t2), (3, t3), (1, t4)]
set_option maxRecDepth 1000000 in
theorem run : Ev.trueF (Ev.runF Tryz.prog 1000000 1000 Tryz.prog.globals.size 3 [] ⟨Ev.heapOf tabs, Tryz.prog.globals.size⟩) = true := by kernel_rfl
theorem holds {P : Program} {W : World} {name : String} {L : List Int} {g : Nat} (hg : P.globalNamed name = some g) (h : Lib.TabIs P W name .i64 L) : Ev.HoldsAt W g L := by
  unfold Lib.TabIs World.var? at h
  rw [hg] at h
  simp only [Option.bind_some] at h
  split at h
  · rename_i c t fr hh
    cases h
    exact ⟨t, fr, hh⟩
  · cases h
end rollBridgeRun
theorem Vars.mk {W : World} (h0 : Lib.TabIs Tryz.prog W "reveille/bus.table" .i64 rollBridgeRun.t0) (h1 : Lib.TabIs Tryz.prog W "reveille/crystal.table" .i64 rollBridgeRun.t1) (h2 : Lib.TabIs Tryz.prog W "reveille/radio.table" .i64 rollBridgeRun.t2) (h3 : Lib.TabIs Tryz.prog W "reveille/sensor.table" .i64 rollBridgeRun.t3) (h4 : Lib.TabIs Tryz.prog W "reveille/supply.table" .i64 rollBridgeRun.t4) : ∀ x ∈ rollBridgeRun.tabs, Ev.HoldsAt W x.1 x.2 ∧ x.1 < Tryz.prog.globals.size := by
  intro x hx
  simp only [rollBridgeRun.tabs, List.mem_cons, List.not_mem_nil, or_false] at hx
  rcases hx with rfl | rfl | rfl | rfl | rfl
  · exact ⟨rollBridgeRun.holds (by kernel_rfl) h0, of_decide_eq_true (by kernel_rfl)⟩
  · exact ⟨rollBridgeRun.holds (by kernel_rfl) h1, of_decide_eq_true (by kernel_rfl)⟩
  · exact ⟨rollBridgeRun.holds (by kernel_rfl) h2, of_decide_eq_true (by kernel_rfl)⟩
  · exact ⟨rollBridgeRun.holds (by kernel_rfl) h3, of_decide_eq_true (by kernel_rfl)⟩
  · exact ⟨rollBridgeRun.holds (by kernel_rfl) h4, of_decide_eq_true (by kernel_rfl)⟩
theorem rollBridge_walk (W : World) (hsh : W.ShapedOpen Tryz.prog) (hv : ∀ x ∈ rollBridgeRun.tabs, Ev.HoldsAt W x.1 x.2 ∧ x.1 < Tryz.prog.globals.size) :
    Calls Tryz.prog 3 #[] W fun e w' => e = .returned (.bool true) ∧ Below W.heap.size W w' :=
  Ev.closed_fast hsh hv rollBridgeRun.run
#print axioms rollBridge_walk
end Go.Proofs.YtlgbmjdlgjdolaaGreatDoor
