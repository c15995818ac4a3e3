/- works() of the cards' statements: run once. -/
import Derived.Test.YtpafbnmncioppaaEvX3
import Derived.Test.YtpafbnmncioppaaRows
import Derived.Below
import Derived.Outline
import Derived.KernelRfl
namespace Go.Proofs.Ytpafbnmncioppaa
open Go.RowKit
namespace wkRun
def tabs : List (Nat × List Int) := []
noncomputable def st : Ev.St := ⟨Ev.heapOf tabs, Try.prog.globals.size⟩
set_option maxRecDepth 1000000 in
theorem works_run : Ev.valF (.bool true) (Ev.runF Try.prog 1000000 1000 Try.prog.globals.size 23 [] st) = true := by kernel_rfl
theorem works_any {W : World} (hsh : W.ShapedOpen Try.prog) (w : World) (hb : Below W.heap.size W w) : Calls Try.prog 23 #[] w fun e w' => e = .returned (.bool true) ∧ Below w.heap.size w w' := by
  letI : Ev.Env := ⟨0, fun _ => []⟩
  refine (Ev.run_val (tabs := tabs) hsh (fun x hx => by cases hx) hb (Ev.runF_ok Try.prog 1000000 1000) (ars := []) (vs := #[]) (fun β => show Ev.Reps β [] [] from rfl) works_run).mono ?_
  rintro e w' ⟨⟨u, β, rfl, hu⟩, hw⟩
  exact ⟨by rw [Ev.rep_bool1 hu], hw⟩
end wkRun
end Go.Proofs.Ytpafbnmncioppaa
