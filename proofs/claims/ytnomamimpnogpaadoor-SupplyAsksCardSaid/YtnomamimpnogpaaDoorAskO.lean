/- Opening an Ask: six numbers in a struct. -/
import Derived.Test.YtnomamimpnogpaaDoorTables
import Derived.ChangeShapes
import Derived.ChangeArms
import Derived.WideShapes
import Derived.ChangeSame
namespace Go.Proofs.YtnomamimpnogpaaDoor
open Go.RowKit Go.ChangeShapes Go.WideShapes
theorem askCells : Tryd.prog.cellsOf 56 = 6 := by kernel_rfl
theorem askInt : Tryd.prog.cellsOf 3 = 1 := by kernel_rfl
theorem askI64 : Tryd.prog.cellsOf 2 = 1 := by kernel_rfl
theorem askF64 : Tryd.prog.cellsOf 43 = 1 := by kernel_rfl
theorem trod_float {H : Type} {enc : TypeId × Value → H} {P : Program} {w : World} {base : Nat} {spare : Nat → Bool} {held : Bool} {t : TypeId} {fuel : Nat} {c : Value} {k : FloatKind} {x : DataW H × List MemPlace}
    (ht : P.underlying t = some (.float k)) (h : DataW.trod enc P w base spare held fuel t [c] = some x) : ∃ b, c = .float k b := by
  cases fuel with
  | zero => simp [DataW.trod] at h
  | succ n =>
    simp only [DataW.trod, ht] at h
    cases c <;> simp at h
    rename_i k' b
    exact ⟨b, by simp_all⟩
set_option maxRecDepth 100000 in
theorem ask_arg {H : Type} {enc : TypeId × Value → H} {w : World} {r : Reach} {b0 : Nat} {v : Value} {d : DataW H} {ps : List MemPlace} (hv : Value.okWide Tryd.prog w r b0 56 v) (h : DataW.Trod enc Tryd.prog w 0 (fun _ => true) true 56 v d ps) :
    ∃ (i k m lo hi : Int) (s : Nat), v = .agg #[.int .i64 i, .int .i64 k, .float .f64 s, .int .i64 m, .int .i64 lo, .int .i64 hi] ∧ (Lit.int .i64 m).wf = true := by
  obtain ⟨cs, rfl, hs⟩ := okWide_struct Tryd.underlying56 hv
  obtain ⟨fuel, hf⟩ := h
  obtain ⟨xs, n, _, hx, hl, hlen, hel⟩ := DataW.trod_struct Tryd.underlying56 hf
  rw [askCells] at hs
  obtain ⟨L⟩ := cs
  match L, hs with
  | [c0, c1, c2, c3, c4, c5], _ =>
    match xs, hlen with
    | [x0, x1, x2, x3, x4, x5], _ =>
      have t0 : DataW.trod enc Tryd.prog w 0 (fun _ => true) true n 3 [c0] = some x0 := hel 0 _ rfl
      have t1 : DataW.trod enc Tryd.prog w 0 (fun _ => true) true n 3 [c1] = some x1 := hel 1 _ rfl
      have t2 : DataW.trod enc Tryd.prog w 0 (fun _ => true) true n 43 [c2] = some x2 := hel 2 _ rfl
      have t3 : DataW.trod enc Tryd.prog w 0 (fun _ => true) true n 2 [c3] = some x3 := hel 3 _ rfl
      have t4 : DataW.trod enc Tryd.prog w 0 (fun _ => true) true n 2 [c4] = some x4 := hel 4 _ rfl
      have t5 : DataW.trod enc Tryd.prog w 0 (fun _ => true) true n 2 [c5] = some x5 := hel 5 _ rfl
      obtain ⟨i, e0, _, _⟩ := DataW.trod_int Tryd.underlying3 t0
      obtain ⟨k, e1, _, _⟩ := DataW.trod_int Tryd.underlying3 t1
      obtain ⟨m, e3, _, hm⟩ := DataW.trod_int Tryd.underlying2 t3
      obtain ⟨lo, e4, _, _⟩ := DataW.trod_int Tryd.underlying2 t4
      obtain ⟨hi, e5, _, _⟩ := DataW.trod_int Tryd.underlying2 t5
      obtain ⟨s, e2⟩ := trod_float Tryd.underlying43 t2
      simp at e0 e1 e3 e4 e5
      subst e0 e1 e2 e3 e4 e5
      exact ⟨i, k, m, lo, hi, s, rfl, hm⟩
end Go.Proofs.YtnomamimpnogpaaDoor
