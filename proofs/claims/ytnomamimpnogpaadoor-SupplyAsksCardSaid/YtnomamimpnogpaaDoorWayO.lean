/- Way and the document's Way out of range. -/
import Derived.Test.YtnomamimpnogpaaDoorRefWayC
namespace Go.Proofs.YtnomamimpnogpaaDoor
open Go.RowKit Go.ChangeShapes
theorem way_out1 (i j : Int) (w : World) (h : i < 0 ∨ 24 ≤ i) :
    Calls Tryd.prog 17 #[.int .i64 i, .int .i64 j] w fun e w' => e = .returned (.tuple #[.slice none 0 0, .int .i64 1]) ∧ w = w' := by
  rcases h with h | h
  · go_enter Tryd.func17, Tryd.ntmps17
    go_wp2_with fail
    go_ret2
    exact ⟨rfl, rfl⟩
  · have h0 : ¬ i < 0 := by omega
    go_enter Tryd.func17, Tryd.ntmps17
    go_wp2_with fail
    go_ret2
    exact ⟨rfl, rfl⟩
theorem way_out2 (a : Nat) (j : Int) (w : World) (ha : a < 24) (h : j < 0 ∨ 24 ≤ j) :
    Calls Tryd.prog 17 #[.int .i64 a, .int .i64 j] w fun e w' => e = .returned (.tuple #[.slice none 0 0, .int .i64 1]) ∧ w = w' := by
  rcases h with h | h
  · go_enter Tryd.func17, Tryd.ntmps17
    go_wp2_with fail
    go_ret2
    exact ⟨rfl, rfl⟩
  · have h0 : ¬ j < 0 := by omega
    go_enter Tryd.func17, Tryd.ntmps17
    go_wp2_with fail
    go_ret2
    exact ⟨rfl, rfl⟩
theorem refWay_out1 (i j : Int) (w : World) (h : i < 0 ∨ 24 ≤ i) :
    Calls Tryd.prog 27 #[.int .i64 i, .int .i64 j] w fun e w' => e = .returned (.tuple #[.slice none 0 0, .int .i64 1]) ∧ w = w' := by
  have HI := Lib.hid h
  clear h
  go_enter Tryd.func27, Tryd.ntmps27
  go_wp2_with fail
  refine (there_out i _ HI.out).mono ?_
  rintro e w' ⟨rfl, rfl⟩
  go_wp2_with fail
  go_ret2
  exact ⟨rfl, rfl⟩
theorem refWay_out2 (a : Nat) (j : Int) (w : World) (ha : a < 24) (h : j < 0 ∨ 24 ≤ j) :
    Calls Tryd.prog 27 #[.int .i64 a, .int .i64 j] w fun e w' => e = .returned (.tuple #[.slice none 0 0, .int .i64 1]) ∧ w = w' := by
  have HI := Lib.hid h
  have HA := Lib.hid ha
  clear h ha
  go_enter Tryd.func27, Tryd.ntmps27
  go_wp2_with fail
  refine (there_in a _ HA.out).mono ?_
  rintro e w' ⟨rfl, rfl⟩
  go_wp2_with fail
  refine (there_out j _ HI.out).mono ?_
  rintro e w' ⟨rfl, rfl⟩
  go_wp2_with fail
  go_ret2
  exact ⟨rfl, rfl⟩
end Go.Proofs.YtnomamimpnogpaaDoor
