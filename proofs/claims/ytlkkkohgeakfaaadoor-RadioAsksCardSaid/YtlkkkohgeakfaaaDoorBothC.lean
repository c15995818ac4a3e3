/- Chapter 12: the program's calls and the document's, side by side: they answer alike. The opening of an Ask. -/
import Derived.Test.YtlkkkohgeakfaaaDoorShiftC
import Derived.Test.YtlkkkohgeakfaaaDoorRefHopsC
import Derived.WideShapes
import Derived.ChangeSame
import Derived.ChangeArms
namespace Go.Proofs.YtlkkkohgeakfaaaDoor
open Go.RowKit Go.ChangeShapes Go.WideShapes
theorem place (i : Int) : (∃ k : Nat, k < 20 ∧ i = k) ∨ (i < 0 ∨ 20 ≤ i) := by
  by_cases h : i < 0 ∨ 20 ≤ i
  · exact .inr h
  · exact .inl ⟨i.toNat, by omega, by omega⟩
theorem hertz_both (i : Int) : ∃ x z : Int, (∀ w, radioAt w → Calls Tryd.prog 12 #[.int .i64 i] w fun e w' => e = .returned (.tuple #[.int .i64 x, .int .i64 z]) ∧ w = w') ∧
    ∀ w, Calls Tryd.prog 19 #[.int .i64 i] w fun e w' => e = .returned (.tuple #[.int .i64 x, .int .i64 z]) ∧ Below w.heap.size w w' := by
  rcases place i with ⟨k, hk, rfl⟩ | h
  · exact ⟨_, _, fun w hT => radio_in k w hk hT, fun w => refHertz_in k w hk⟩
  · exact ⟨_, _, fun w _ => radio_out i w h, fun w => refHertz_out i w h⟩
theorem near_both (v : Int) (hv : v ≤ 9223372036854775807) : ∃ x z : Int, (∀ w, radioAt w → Calls Tryd.prog 20 #[.int .i64 v] w fun e w' => e = .returned (.tuple #[.int .i64 x, .int .i64 z]) ∧ Below w.heap.size w w') ∧
    ∀ w, Calls Tryd.prog 21 #[.int .i64 v] w fun e w' => e = .returned (.tuple #[.int .i64 x, .int .i64 z]) ∧ Below w.heap.size w w' := by
  by_cases h : v < 0
  · exact ⟨_, _, fun w _ => near_arg v w h, fun w => refNear_arg v w h⟩
  · exact ⟨_, _, fun w hT => near_ok v w hT (by omega) hv, fun w => refNear_ok v w (by omega) hv⟩
theorem shift_both (i : Int) (s : Nat) : ∃ (x : Nat) (z : Int), (∀ w, radioAt w → Calls Tryd.prog 22 #[.int .i64 i, .float .f64 s] w fun e w' => e = .returned (.tuple #[.float .f64 x, .int .i64 z]) ∧ w = w') ∧
    ∀ w, Calls Tryd.prog 23 #[.int .i64 i, .float .f64 s] w fun e w' => e = .returned (.tuple #[.float .f64 x, .int .i64 z]) ∧ Below w.heap.size w w' := by
  rcases place i with ⟨k, hk, rfl⟩ | h
  · by_cases hs : okL s
    · exact ⟨_, _, fun w hT => shift_ok k s w hk hT hs, fun w => refShift_ok k s w hk hs⟩
    · exact ⟨_, _, fun w hT => shift_bad k s w hk hT hs, fun w => refShift_bad k s w hk hs⟩
  · exact ⟨_, _, fun w _ => shift_out i s w h, fun w => refShift_out i s w h⟩
/-- Hops: a row of the call's own. -/
def IsRow (w : World) (zs : List Int) (z : Int) (e : Ending) (w' : World) : Prop :=
  ∃ v, e = .returned (.tuple #[v, .int .i64 z]) ∧ w'.ownsRow w.heap.size 3 1 v zs.length (icells zs) ∧ Below w.heap.size w w'
theorem isRow_none (w : World) : IsRow w [] 1 (.returned (.tuple #[.slice none 0 0, .int .i64 1])) w := ⟨_, rfl, World.ownsRow_nil _ _ _ _, Below.refl _ _⟩
theorem hops_out (seed n : Int) (w : World) (h : n < 0 ∨ 4096 < n) : Calls Tryd.prog 17 #[.int .u64 seed, .int .i64 n] w fun e w' => e = .returned (.tuple #[.slice none 0 0, .int .i64 1]) ∧ w = w' := by
  rcases h with h | h
  · go_enter Tryd.func17, Tryd.ntmps17
    go_wp2_with fail
    go_ret2
    exact ⟨rfl, rfl⟩
  · have h' : ¬ n < 0 := by omega
    have d : decide (n > 4096) = true := decide_eq_true (by omega)
    go_enter Tryd.func17, Tryd.ntmps17
    go_wp2_with fail
    go_ret2
    exact ⟨rfl, rfl⟩
theorem refHops_out (seed n : Int) (w : World) (h : n < 0 ∨ 4096 < n) : Calls Tryd.prog 24 #[.int .u64 seed, .int .i64 n] w fun e w' => e = .returned (.tuple #[.slice none 0 0, .int .i64 1]) ∧ w = w' := by
  rcases h with h | h
  · go_enter Tryd.func24, Tryd.ntmps24
    go_wp2_with fail
    go_ret2
    exact ⟨rfl, rfl⟩
  · have h' : ¬ n < 0 := by omega
    have d : decide (n > 4096) = true := decide_eq_true (by omega)
    go_enter Tryd.func24, Tryd.ntmps24
    go_wp2_with fail
    go_ret2
    exact ⟨rfl, rfl⟩
theorem hops_both (seed : Nat) (n : Int) (hs : seed < 18446744073709551616) : ∃ (zs : List Int) (z : Int), zs.length ≤ 4096 ∧ (∀ w, Calls Tryd.prog 17 #[.int .u64 seed, .int .i64 n] w (IsRow w zs z)) ∧ ∀ w, Calls Tryd.prog 24 #[.int .u64 seed, .int .i64 n] w (IsRow w zs z) := by
  by_cases h : n < 0 ∨ 4096 < n
  · exact ⟨[], 1, by simp, fun w => (hops_out seed n w h).mono fun e w' ⟨h1, h2⟩ => by subst h1 h2; exact isRow_none w, fun w => (refHops_out seed n w h).mono fun e w' ⟨h1, h2⟩ => by subst h1 h2; exact isRow_none w⟩
  · obtain ⟨m, rfl⟩ : ∃ m : Nat, n = m := ⟨n.toNat, by omega⟩
    have hl := Hop.hopsV_len seed m hs
    refine ⟨Hop.hopsV seed m, 0, by omega, fun w => ?_, fun w => ?_⟩
    · exact (hops_ok seed m w hs (by omega)).mono fun e w' ⟨v, h1, h2, h3⟩ => ⟨v, h1, by rw [hl]; exact h2, h3⟩
    · exact (refHops_ok seed m w hs (by omega)).mono fun e w' ⟨v, h1, h2, h3⟩ => ⟨v, h1, by rw [hl]; exact h2, h3⟩
theorem askCells : Tryd.prog.cellsOf 46 = 5 := by kernel_rfl
theorem trod_float {H : Type} {enc : TypeId × Value → H} {P : Program} {w : World} {base : Nat} {spare : Nat → Bool} {held : Bool} {t : TypeId} {fuel : Nat} {c : Value} {k : FloatKind} {x : DataW H × List MemPlace}
    (ht : P.underlying t = some (.float k)) (h : DataW.trod enc P w base spare held fuel t [c] = some x) : ∃ b, c = .float k b := by
  cases fuel with
  | zero => simp [DataW.trod] at h
  | succ n =>
    simp only [DataW.trod, ht] at h
    cases c <;> simp at h
    rename_i k' b
    exact ⟨b, by simp_all⟩
set_option maxRecDepth 100000 in
theorem ask_arg {H : Type} {enc : TypeId × Value → H} {w : World} {r : Reach} {b0 : Nat} {v : Value} {d : DataW H} {ps : List MemPlace} (hv : Value.okWide Tryd.prog w r b0 46 v) (h : DataW.Trod enc Tryd.prog w 0 (fun _ => true) true 46 v d ps) :
    ∃ (i hz n : Int) (s : Nat) (seed : Int), v = .agg #[.int .i64 i, .int .i64 hz, .float .f64 s, .int .u64 seed, .int .i64 n] ∧ (Lit.int .i64 hz).wf = true ∧ (Lit.int .u64 seed).wf = true := by
  obtain ⟨cs, rfl, hs⟩ := okWide_struct Tryd.underlying46 hv
  obtain ⟨fuel, hf⟩ := h
  obtain ⟨xs, n, _, hx, hl, hlen, hel⟩ := DataW.trod_struct Tryd.underlying46 hf
  rw [askCells] at hs
  obtain ⟨L⟩ := cs
  match L, hs with
  | [c0, c1, c2, c3, c4], _ =>
    match xs, hlen with
    | [x0, x1, x2, x3, x4], _ =>
      have t0 : DataW.trod enc Tryd.prog w 0 (fun _ => true) true n 3 [c0] = some x0 := hel 0 _ rfl
      have t1 : DataW.trod enc Tryd.prog w 0 (fun _ => true) true n 2 [c1] = some x1 := hel 1 _ rfl
      have t2 : DataW.trod enc Tryd.prog w 0 (fun _ => true) true n 33 [c2] = some x2 := hel 2 _ rfl
      have t3 : DataW.trod enc Tryd.prog w 0 (fun _ => true) true n 39 [c3] = some x3 := hel 3 _ rfl
      have t4 : DataW.trod enc Tryd.prog w 0 (fun _ => true) true n 3 [c4] = some x4 := hel 4 _ rfl
      obtain ⟨i, e0, _, _⟩ := DataW.trod_int Tryd.underlying3 t0
      obtain ⟨hz, e1, _, h1⟩ := DataW.trod_int Tryd.underlying2 t1
      obtain ⟨sd, e3, _, h3⟩ := DataW.trod_int Tryd.underlying39 t3
      obtain ⟨m, e4, _, _⟩ := DataW.trod_int Tryd.underlying3 t4
      obtain ⟨s, e2⟩ := trod_float Tryd.underlying33 t2
      simp at e0 e1 e3 e4
      subst e0 e1 e2 e3 e4
      exact ⟨i, hz, m, s, sd, rfl, h1, h3⟩
end Go.Proofs.YtlkkkohgeakfaaaDoor
