/- The families' cards, the roll's cards: each call run once. -/
import Derived.Test.YtlgbmjdlgjdolaaRollOut
import Derived.Test.YtlgbmjdlgjdolaaRollCd
import Derived.Test.YtlgbmjdlgjdolaaRows
import Derived.Below
import Derived.Outline
import Derived.KernelRfl
namespace Go.Proofs.Ytlgbmjdlgjdolaa
open Go.RowKit
namespace Roll
def tabs : List (Nat × List Int) := []
noncomputable def st : Ev.St := ⟨Ev.heapOf tabs, Try.prog.globals.size⟩
def Gives (cs : List Cd) (w : World) (e : Ending) (w' : World) : Prop := ∃ u r, e = .returned u ∧ r.map (·.1) = cs ∧ OwnC w' w.heap.size u r ∧ Below w.heap.size w w'
theorem gives_of {W : World} (hsh : W.ShapedOpen Try.prog) (w : World) (hb : Below W.heap.size W w) {f : FuncId} {cs : List Cd} (h : Ev.outF (Ev.cardsB Try.prog.globals.size cs) (Ev.runF Try.prog 1000000 1000 Try.prog.globals.size f [] st) = true) : Calls Try.prog f #[] w (Gives cs w) := by
  letI : Ev.Env := ⟨0, fun _ => []⟩
  refine (Ev.run_out (tabs := tabs) hsh (fun x hx => by cases hx) hb (Ev.runF_ok Try.prog 1000000 1000) (ars := []) (vs := #[]) (fun β => show Ev.Reps β [] [] from rfl) h).mono ?_
  rintro e w' ⟨⟨u, β, v, s, rfl, hr, ho, hc⟩, hw⟩
  obtain ⟨r, h1, h2⟩ := Ev.cardsB_ok hc ho hr
  exact ⟨u, r, rfl, h1, h2, hw⟩
set_option maxRecDepth 1000000 in
theorem run_crystal : Ev.outF (Ev.cardsB Try.prog.globals.size crystalC) (Ev.runF Try.prog 1000000 1000 Try.prog.globals.size 5 [] st) = true := by kernel_rfl
set_option maxRecDepth 1000000 in
theorem run_supply : Ev.outF (Ev.cardsB Try.prog.globals.size supplyC) (Ev.runF Try.prog 1000000 1000 Try.prog.globals.size 6 [] st) = true := by kernel_rfl
set_option maxRecDepth 1000000 in
theorem run_bus : Ev.outF (Ev.cardsB Try.prog.globals.size busC) (Ev.runF Try.prog 1000000 1000 Try.prog.globals.size 7 [] st) = true := by kernel_rfl
set_option maxRecDepth 1000000 in
theorem run_sensor : Ev.outF (Ev.cardsB Try.prog.globals.size sensorC) (Ev.runF Try.prog 1000000 1000 Try.prog.globals.size 8 [] st) = true := by kernel_rfl
set_option maxRecDepth 1000000 in
theorem run_radio : Ev.outF (Ev.cardsB Try.prog.globals.size radioC) (Ev.runF Try.prog 1000000 1000 Try.prog.globals.size 9 [] st) = true := by kernel_rfl
set_option maxRecDepth 1000000 in
theorem run_roll : Ev.outF (Ev.cardsB Try.prog.globals.size rollC) (Ev.runF Try.prog 1000000 1000 Try.prog.globals.size 11 [] st) = true := by kernel_rfl
set_option maxRecDepth 1000000 in
theorem run_out : Ev.outF (Ev.cardsB Try.prog.globals.size outC) (Ev.runF Try.prog 1000000 1000 Try.prog.globals.size 16 [] st) = true := by kernel_rfl
end Roll
end Go.Proofs.Ytlgbmjdlgjdolaa
