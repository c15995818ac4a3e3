/- The walk of RadioCards: a closed call, run on an abstract memory. -/
import Derived.Test.YtlkkkohgeakfaaaDoorEvCode
import Derived.Test.YtlkkkohgeakfaaaDoorRows
import Derived.Lib.LaidTab
import Derived.KernelRfl
namespace Go.Proofs.YtlkkkohgeakfaaaDoor
open Go.RowKit
namespace radioCardsRun
def t0 : List Int := [432920000, 444020992, 451206528, 458392064, 465577600, 472763136, 479948672, 487134208, 494319744, 501505280, 508690816, 515876352, 523061888, 530247424, 537432960, 545618496, 518134032, 526269568, 533455104, 580610000]
def tabs : List (Nat × List Int) := [(0, t0)]
set_option maxRecDepth 1000000 in
theorem run : Ev.saysTrue (Ev.ev Tryd.prog 1000000 Tryd.prog.globals.size (.call 8 [] ⟨Ev.heapOf tabs, Tryd.prog.globals.size⟩)) = true := by kernel_rfl
theorem holds {P : Program} {W : World} {name : String} {L : List Int} {g : Nat} (hg : P.globalNamed name = some g) (h : Lib.TabIs P W name .i64 L) : Ev.HoldsAt W g L := by
  unfold Lib.TabIs World.var? at h
  rw [hg] at h
  simp only [Option.bind_some] at h
  split at h
  · rename_i c t fr hh
    cases h
    exact ⟨t, fr, hh⟩
  · cases h
end radioCardsRun
theorem Vars.mk {W : World} (h0 : Lib.TabIs Tryd.prog W "reveille/radio.table" .i64 radioCardsRun.t0) : ∀ x ∈ radioCardsRun.tabs, Ev.HoldsAt W x.1 x.2 ∧ x.1 < Tryd.prog.globals.size := by
  intro x hx
  simp only [radioCardsRun.tabs, List.mem_cons, List.not_mem_nil, or_false] at hx
  subst hx
  · exact ⟨radioCardsRun.holds (by kernel_rfl) h0, of_decide_eq_true (by kernel_rfl)⟩
theorem radioCards_walk (W : World) (hsh : W.ShapedOpen Tryd.prog) (hv : ∀ x ∈ radioCardsRun.tabs, Ev.HoldsAt W x.1 x.2 ∧ x.1 < Tryd.prog.globals.size) :
    Calls Tryd.prog 8 #[] W fun e w' => e = .returned (.bool true) ∧ Below W.heap.size W w' :=
  Ev.closed_true hsh hv radioCardsRun.run
#print axioms radioCards_walk
end Go.Proofs.YtlkkkohgeakfaaaDoor
