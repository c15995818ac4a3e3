/- The walk of RadioNone. -/
import Derived.Test.YtlkkkohgeakfaaaDoorBothC
import Derived.Test.YtlkkkohgeakfaaaDoorRadioA
namespace Go.Proofs.YtlkkkohgeakfaaaDoor
open Go.RowKit Go.ChangeShapes
theorem Vars.mk {W : World} (h : Lib.TabIs Tryd.prog W "reveille/radio.table" .i64 radioL) : radioAt W := radio_mk h
theorem strong_nil (w : World) : Calls Tryd.prog 26 #[.slice none 0 0] w fun e w' => e = .returned (.tuple #[.int .i8 (-128), .int .i64 (-1)]) ∧ w = w' := by
  go_enter Tryd.func26, Tryd.ntmps26
  go_wp2_with fail
  go_loop [4, 5, 10] (fun a b s => a = .int .i8 (-128) ∧ b = .int .i64 (-1) ∧ s = .int .i64 0) (fun _ _ _ => 0)
  case atStart => exact ⟨rfl, rfl, rfl⟩
  case round =>
    obtain ⟨rfl, rfl, rfl⟩ := hrel
    go_wp2_with fail
    go_ret2
    exact ⟨rfl, rfl⟩
theorem mix_nil (w : World) : Calls Tryd.prog 16 #[.slice none 0 0] w fun e w' => e = .returned (.complex .f64 4607182418800017408 0) ∧ w = w' := by
  go_enter Tryd.func16, Tryd.ntmps16
  go_wp2_with fail
  go_loop [3, 10] (fun a s => a = .complex .f64 4607182418800017408 0 ∧ s = .int .i64 0) (fun _ _ => 0)
  case atStart => exact ⟨rfl, rfl⟩
  case round =>
    obtain ⟨rfl, rfl⟩ := hrel
    go_wp2_with fail
    go_ret
    exact ⟨rfl, rfl⟩
theorem near_max : nearTo 9223372036854775807 20 = 19 := by decide +kernel
theorem one_eq (w : World) : (binOp .eql 32 (.complex .f64 4607182418800017408 0) (.complex .f64 4607182418800017408 0)).run Tryd.prog w = .ok (.bool true) w := by kernel_rfl
theorem badL1 : ¬ okL 4733809291562057728 := by unfold okL; decide +kernel
theorem badL2 : ¬ okL 13957181328416833536 := by unfold okL; decide +kernel
set_option maxHeartbeats 4000000 in
set_option maxRecDepth 100000 in
theorem radioNone_walk (W : World) (_ : W.ShapedOpen Tryd.prog) (hT : radioAt W) :
    Calls Tryd.prog 7 #[] W fun e w' => e = .returned (.bool true) ∧ Below W.heap.size W w' := by
  have HT := Lib.hid hT
  have ceq := one_eq
  clear hT
  go_enter Tryd.func7, Tryd.ntmps7
  go_wp2_with fail
  refine (radio_out 20 W (by omega)).mono ?_
  rintro e w' ⟨rfl, rfl⟩
  go_wp2_with fail
  refine (radio_out (-1) W (by omega)).mono ?_
  rintro e w' ⟨rfl, rfl⟩
  go_wp2_with fail
  refine (near_arg (-1) W (by omega)).mono ?_
  rintro e w1 ⟨rfl, hb1⟩
  have B1 := Lib.hid hb1
  clear hb1
  go_wp2_with fail
  have c1 := near_ok 9223372036854775807 w1 (HT.out.grown B1.out) (by omega) (by omega)
  rw [near_max] at c1
  refine c1.mono ?_
  clear c1
  rintro e w2 ⟨rfl, hb1⟩
  have B2 := Lib.hid (B1.out.trans (hb1.mono B1.out.size))
  clear hb1
  go_wp2_with fail
  refine (hops_out 0 (-1) w2 (by omega)).mono ?_
  rintro e w' ⟨rfl, rfl⟩
  go_wp2_with fail
  refine (hops_out 0 4097 w2 (by omega)).mono ?_
  rintro e w' ⟨rfl, rfl⟩
  go_wp2_with fail
  have c1 : Calls Tryd.prog 17 #[.int .u64 0, .int .i64 4096] w2 _ := hops_ok 0 4096 w2 (by omega) (by omega)
  refine c1.mono ?_
  clear c1
  rintro e w3 ⟨v, rfl, hown, hb1⟩
  obtain ⟨al, cl, rfl⟩ := own_slice hown
  have B3 := Lib.hid (B2.out.trans (hb1.mono B2.out.size))
  have RT3 : Hid (radioAt w3) := Lib.hid (HT.out.grown B3.out)
  clear hb1 hown
  go_wp2_with fail
  have c1 : Calls Tryd.prog 22 #[.int .i64 0, .float .f64 4733809291562057728] w3 _ := shift_bad 0 4733809291562057728 w3 (by omega) RT3.out badL1
  refine c1.mono ?_
  clear c1
  rintro e w' ⟨rfl, rfl⟩
  go_wp2_with fail
  have c1 : Calls Tryd.prog 22 #[.int .i64 0, .float .f64 13957181328416833536] w3 _ := shift_bad 0 13957181328416833536 w3 (by omega) RT3.out badL2
  refine c1.mono ?_
  clear c1
  rintro e w' ⟨rfl, rfl⟩
  go_wp2_with fail
  refine (shift_out 20 0 w3 (by omega)).mono ?_
  rintro e w' ⟨rfl, rfl⟩
  go_wp2_with fail
  refine (strong_nil w3).mono ?_
  rintro e w' ⟨rfl, rfl⟩
  go_wp2_with fail
  refine (mix_nil w3).mono ?_
  rintro e w' ⟨rfl, rfl⟩
  go_wp2_with fail
  refine (awake_any w3 RT3.out).mono ?_
  rintro e w' ⟨rfl, rfl⟩
  go_wp2_with fail
  go_ret
  exact ⟨rfl, B3.out⟩
end Go.Proofs.YtlkkkohgeakfaaaDoor
