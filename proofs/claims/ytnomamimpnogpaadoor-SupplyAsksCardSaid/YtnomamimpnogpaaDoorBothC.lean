/- The program's calls and the document's, side by side: they answer alike. -/
import Derived.Test.YtnomamimpnogpaaDoorWayO
import Derived.Test.YtnomamimpnogpaaDoorRefRampC
namespace Go.Proofs.YtnomamimpnogpaaDoor
open Go.RowKit Go.ChangeShapes
theorem place (i : Int) : (∃ k : Nat, k < 24 ∧ i = k) ∨ (i < 0 ∨ 24 ≤ i) := by
  by_cases h : i < 0 ∨ 24 ≤ i
  · exact .inr h
  · exact .inl ⟨i.toNat, by omega, by omega⟩
theorem micro_both (i : Int) : ∃ x z : Int, (∀ w, supplyAt w → Calls Tryd.prog 19 #[.int .i64 i] w fun e w' => e = .returned (.tuple #[.int .i64 x, .int .i64 z]) ∧ w = w') ∧
    ∀ w, Calls Tryd.prog 21 #[.int .i64 i] w fun e w' => e = .returned (.tuple #[.int .i64 x, .int .i64 z]) ∧ w = w' := by
  rcases place i with ⟨k, hk, rfl⟩ | h
  · exact ⟨_, _, fun w hT => supply_in k w hk hT, fun w => refMicro_in k w hk⟩
  · exact ⟨_, _, fun w _ => supply_out i w h, fun w => refMicro_out i w h⟩
theorem volts_both (i : Int) : ∃ (x : Nat) (z : Int), (∀ w, supplyAt w → Calls Tryd.prog 20 #[.int .i64 i] w fun e w' => e = .returned (.tuple #[.float .f64 x, .int .i64 z]) ∧ w = w') ∧
    ∀ w, Calls Tryd.prog 22 #[.int .i64 i] w fun e w' => e = .returned (.tuple #[.float .f64 x, .int .i64 z]) ∧ w = w' := by
  rcases place i with ⟨k, hk, rfl⟩ | h
  · exact ⟨_, _, fun w hT => volts_in k w hk hT, fun w => refVolts_in k w hk⟩
  · exact ⟨_, _, fun w _ => volts_out i w h, fun w => refVolts_out i w h⟩
theorem ramp_both (i j : Int) (s : Nat) : ∃ (x : Nat) (z : Int), (∀ w, supplyAt w → Calls Tryd.prog 16 #[.int .i64 i, .int .i64 j, .float .f64 s] w fun e w' => e = .returned (.tuple #[.float .f64 x, .int .i64 z]) ∧ w = w') ∧
    ∀ w, Calls Tryd.prog 25 #[.int .i64 i, .int .i64 j, .float .f64 s] w fun e w' => e = .returned (.tuple #[.float .f64 x, .int .i64 z]) ∧ w = w' := by
  rcases place i with ⟨a, ha, rfl⟩ | h
  · rcases place j with ⟨b, hb, rfl⟩ | h'
    · by_cases hs : okS s
      · exact ⟨_, _, fun w hT => ramp_ok a b s w ha hb hT hs, fun w => refRamp_ok a b s w ha hb hs⟩
      · exact ⟨_, _, fun w hT => ramp_bad a b s w ha hb hT hs, fun w => refRamp_bad a b s w ha hb hs⟩
    · exact ⟨_, _, fun w hT => ramp_out2 a j s w ha h' hT, fun w => refRamp_out2 a j s w ha h'⟩
  · exact ⟨_, _, fun w hT => ramp_out1 i j s w h hT, fun w => refRamp_out1 i j s w h⟩
/-- What a way is: a row of the call's own. -/
def IsWay (w : World) (zs : List Int) (z : Int) (e : Ending) (w' : World) : Prop :=
  ∃ v, e = .returned (.tuple #[v, .int .i64 z]) ∧ w'.ownsRow w.heap.size 3 1 v zs.length (icells zs) ∧ Below w.heap.size w w'
theorem isWay_none (w : World) : IsWay w [] 1 (.returned (.tuple #[.slice none 0 0, .int .i64 1])) w := ⟨_, rfl, World.ownsRow_nil _ _ _ _, Below.refl _ _⟩
theorem way_both (i j : Int) : ∃ (zs : List Int) (z : Int), zs.length ≤ 24 ∧ (∀ w, Calls Tryd.prog 17 #[.int .i64 i, .int .i64 j] w (IsWay w zs z)) ∧ ∀ w, Calls Tryd.prog 27 #[.int .i64 i, .int .i64 j] w (IsWay w zs z) := by
  rcases place i with ⟨a, ha, rfl⟩ | h
  · rcases place j with ⟨b, hb, rfl⟩ | h'
    · refine ⟨wayV a b, 0, by unfold wayV; rw [wayTo_len]; omega, fun w => ?_, fun w => ?_⟩
      · by_cases h : b < a
        · exact (way_down a b w ha hb h).mono fun e w' ⟨g, c, h1, h2, h3⟩ => ⟨_, h1, h2, h3⟩
        · exact (way_up a b w ha hb h).mono fun e w' ⟨g, c, h1, h2, h3⟩ => ⟨_, h1, h2, h3⟩
      · by_cases h : b < a
        · exact (refWay_down a b w ha hb h).mono fun e w' ⟨g, c, h1, h2, h3⟩ => ⟨_, h1, h2, h3⟩
        · exact (refWay_up a b w ha hb h).mono fun e w' ⟨g, c, h1, h2, h3⟩ => ⟨_, h1, h2, h3⟩
    · exact ⟨[], 1, by simp, fun w => (way_out2 a j w ha h').mono fun e w' ⟨h1, h2⟩ => by subst h1 h2; exact isWay_none w, fun w => (refWay_out2 a j w ha h').mono fun e w' ⟨h1, h2⟩ => by subst h1 h2; exact isWay_none w⟩
  · exact ⟨[], 1, by simp, fun w => (way_out1 i j w h).mono fun e w' ⟨h1, h2⟩ => by subst h1 h2; exact isWay_none w, fun w => (refWay_out1 i j w h).mono fun e w' ⟨h1, h2⟩ => by subst h1 h2; exact isWay_none w⟩
end Go.Proofs.YtnomamimpnogpaaDoor
