/- Ramp: the program's and the document's. -/
import Derived.Test.YtnomamimpnogpaaDoorRefC
namespace Go.Proofs.YtnomamimpnogpaaDoor
open Go.RowKit
open Ieee in
theorem order_some {f : Format} {s z m : Nat} {o : Ordering} (h : f.order s z = some o) (hm : ∀ x y, f.read m ≠ .nan x y) : ∃ o', f.order s m = some o' := by
  unfold Format.order at h ⊢
  cases hs : f.read s with
  | nan x y => rw [hs] at h; simp [Datum.order] at h
  | infinity x =>
    cases hx : f.read m with
    | nan x y => exact absurd hx (hm x y)
    | infinity y => exact ⟨_, rfl⟩
    | number a b c => exact ⟨_, rfl⟩
  | number x1 x2 x3 =>
    cases hx : f.read m with
    | nan x y => exact absurd hx (hm x y)
    | infinity y => exact ⟨_, rfl⟩
    | number a b c => exact ⟨_, rfl⟩
open Ieee in
theorem div_some {f : Format} {s x z : Nat} (h : f.order s z = some .gt) (hz : ∃ p, f.read z = .number false 0 p) (hx : ∃ a b c, f.read x = .number a b c) : ∃ q, f.div x s = some q := by
  obtain ⟨p, hz⟩ := hz
  obtain ⟨a, b, c, hx⟩ := hx
  unfold Format.order at h
  unfold Format.div
  rw [hz] at h
  rw [hx]
  cases hs : f.read s with
  | nan x y => rw [hs] at h; simp [Datum.order] at h
  | infinity y => exact ⟨_, rfl⟩
  | number x1 x2 x3 =>
    rw [hs] at h
    by_cases h0 : x2 = 0
    · subst h0
      simp [Datum.order, signed] at h
    · simp [Datum.quotient, h0]
def dist (x y : Int) : Int := if x < y then y - x else x - y
def maxF : Nat := 9218868437227405311
def rampV (a b s : Nat) : Nat := (floatBits .quo .f64 (floatOfInt .f64 (dist (nth supplyL a) (nth supplyL b))) s).getD 0
theorem dist_num : ∀ a b, a < 24 → b < 24 → (match FloatKind.f64.format.read (floatOfInt .f64 (dist (nth supplyL a) (nth supplyL b))) with | .number .. => true | _ => false) = true := by
  have h : ∀ a, a < 24 → ∀ b, b < 24 → (match FloatKind.f64.format.read (floatOfInt .f64 (dist (nth supplyL a) (nth supplyL b))) with | .number .. => true | _ => false) = true := by decide +kernel
  exact fun a b ha hb => h a ha b hb
theorem ramp_eq (a b s : Nat) (ha : a < 24) (hb : b < 24) (h : FloatKind.f64.format.order s 0 = some .gt) : floatBits .quo .f64 (floatOfInt .f64 (dist (nth supplyL a) (nth supplyL b))) s = some (rampV a b s) := by
  have hx : ∃ n m p, FloatKind.f64.format.read (floatOfInt .f64 (dist (nth supplyL a) (nth supplyL b))) = .number n m p := by
    have := dist_num a b ha hb
    split at this
    · rename_i n m p hh
      exact ⟨_, _, _, hh⟩
    · cases this
  obtain ⟨q, hq⟩ := div_some h ⟨_, by rfl⟩ hx
  have e : floatBits .quo .f64 (floatOfInt .f64 (dist (nth supplyL a) (nth supplyL b))) s = some q := hq
  unfold rampV
  rw [e]
  rfl
theorem maxF_num : FloatKind.f64.format.read maxF = .number false 9007199254740991 971 := by decide +kernel
theorem maxF_nan : ∀ x y, FloatKind.f64.format.read maxF ≠ .nan x y := fun x y h => by rw [maxF_num] at h; cases h
/-- May a slew be? -/
def okS (s : Nat) : Prop := FloatKind.f64.format.order s 0 = some .gt ∧ (FloatKind.f64.format.order s 9218868437227405311 = some .lt ∨ FloatKind.f64.format.order s 9218868437227405311 = some .eq)
theorem notOk {s : Nat} (h : ¬ okS s) : FloatKind.f64.format.order s 0 ≠ some .gt ∨ (FloatKind.f64.format.order s 0 = some .gt ∧ FloatKind.f64.format.order s 9218868437227405311 = some .gt) := by
  by_cases h0 : FloatKind.f64.format.order s 0 = some .gt
  · refine .inr ⟨h0, ?_⟩
    obtain ⟨o, ho⟩ := order_some h0 maxF_nan
    have ho : FloatKind.f64.format.order s 9218868437227405311 = some o := ho
    cases o with
    | gt => exact ho
    | lt => exact absurd ⟨h0, .inl ho⟩ h
    | eq => exact absurd ⟨h0, .inr ho⟩ h
  · exact .inl h0
theorem ramp_ok (a b s : Nat) (w : World) (ha : a < 24) (hb : b < 24) (hT : supplyAt w) (hs : okS s) :
    Calls Tryd.prog 16 #[.int .i64 a, .int .i64 b, .float .f64 s] w fun e w' => e = .returned (.tuple #[.float .f64 (rampV a b s), .int .i64 0]) ∧ w = w' := by
  obtain ⟨s1, s2⟩ := hs
  have hq := fun w => run_float_arith (P := Tryd.prog) w .quo 43 .f64 _ _ _ (ramp_eq a b s ha hb s1)
  obtain ⟨b1, b2⟩ := supply_bd a ha
  obtain ⟨b3, b4⟩ := supply_bd b hb
  have HA := Lib.hid ha
  have HB := Lib.hid hb
  have HT := Lib.hid hT
  clear ha hb hT
  unfold dist at hq
  rcases Int.lt_trichotomy (nth supplyL a) (nth supplyL b) with hab | hab | hab
  · rw [if_pos hab] at hq
    have hba : ¬ nth supplyL b < nth supplyL a := by omega
    rcases s2 with s2 | s2
    · go_enter Tryd.func16, Tryd.ntmps16
      go_wp2_with fail
      refine (supply_in a _ HA.out HT.out).mono ?_
      rintro e w' ⟨rfl, rfl⟩
      go_wp2_with fail
      refine (supply_in b _ HB.out HT.out).mono ?_
      rintro e w' ⟨rfl, rfl⟩
      go_wp2_with fail
      go_ret2
      exact ⟨rfl, rfl⟩
    · go_enter Tryd.func16, Tryd.ntmps16
      go_wp2_with fail
      refine (supply_in a _ HA.out HT.out).mono ?_
      rintro e w' ⟨rfl, rfl⟩
      go_wp2_with fail
      refine (supply_in b _ HB.out HT.out).mono ?_
      rintro e w' ⟨rfl, rfl⟩
      go_wp2_with fail
      go_ret2
      exact ⟨rfl, rfl⟩
  · rw [hab, if_neg (by omega), Int.sub_self] at hq
    rcases s2 with s2 | s2
    · go_enter Tryd.func16, Tryd.ntmps16
      go_wp2_with fail
      refine (supply_in a _ HA.out HT.out).mono ?_
      rintro e w' ⟨rfl, rfl⟩
      go_wp2_with fail
      refine (supply_in b _ HB.out HT.out).mono ?_
      rintro e w' ⟨rfl, rfl⟩
      go_wp2_with fail
      go_ret2
      exact ⟨rfl, rfl⟩
    · go_enter Tryd.func16, Tryd.ntmps16
      go_wp2_with fail
      refine (supply_in a _ HA.out HT.out).mono ?_
      rintro e w' ⟨rfl, rfl⟩
      go_wp2_with fail
      refine (supply_in b _ HB.out HT.out).mono ?_
      rintro e w' ⟨rfl, rfl⟩
      go_wp2_with fail
      go_ret2
      exact ⟨rfl, rfl⟩
  · have hba : ¬ nth supplyL a < nth supplyL b := by omega
    rw [if_neg hba] at hq
    rcases s2 with s2 | s2
    · go_enter Tryd.func16, Tryd.ntmps16
      go_wp2_with fail
      refine (supply_in a _ HA.out HT.out).mono ?_
      rintro e w' ⟨rfl, rfl⟩
      go_wp2_with fail
      refine (supply_in b _ HB.out HT.out).mono ?_
      rintro e w' ⟨rfl, rfl⟩
      go_wp2_with fail
      go_ret2
      exact ⟨rfl, rfl⟩
    · go_enter Tryd.func16, Tryd.ntmps16
      go_wp2_with fail
      refine (supply_in a _ HA.out HT.out).mono ?_
      rintro e w' ⟨rfl, rfl⟩
      go_wp2_with fail
      refine (supply_in b _ HB.out HT.out).mono ?_
      rintro e w' ⟨rfl, rfl⟩
      go_wp2_with fail
      go_ret2
      exact ⟨rfl, rfl⟩
theorem ramp_bad (a b s : Nat) (w : World) (ha : a < 24) (hb : b < 24) (hT : supplyAt w) (hs : ¬ okS s) :
    Calls Tryd.prog 16 #[.int .i64 a, .int .i64 b, .float .f64 s] w fun e w' => e = .returned (.tuple #[.float .f64 0, .int .i64 1]) ∧ w = w' := by
  have HA := Lib.hid ha
  have HB := Lib.hid hb
  have HT := Lib.hid hT
  rcases notOk hs with s1 | ⟨s1, s2⟩
  · clear ha hb hT hs
    go_enter Tryd.func16, Tryd.ntmps16
    go_wp2_with fail
    refine (supply_in a _ HA.out HT.out).mono ?_
    rintro e w' ⟨rfl, rfl⟩
    go_wp2_with fail
    refine (supply_in b _ HB.out HT.out).mono ?_
    rintro e w' ⟨rfl, rfl⟩
    go_wp2_with fail
    go_ret2
    exact ⟨rfl, rfl⟩
  · clear ha hb hT hs
    go_enter Tryd.func16, Tryd.ntmps16
    go_wp2_with fail
    refine (supply_in a _ HA.out HT.out).mono ?_
    rintro e w' ⟨rfl, rfl⟩
    go_wp2_with fail
    refine (supply_in b _ HB.out HT.out).mono ?_
    rintro e w' ⟨rfl, rfl⟩
    go_wp2_with fail
    go_ret2
    exact ⟨rfl, rfl⟩
theorem ramp_out1 (i j : Int) (s : Nat) (w : World) (hi : i < 0 ∨ 24 ≤ i) (hT : supplyAt w) :
    Calls Tryd.prog 16 #[.int .i64 i, .int .i64 j, .float .f64 s] w fun e w' => e = .returned (.tuple #[.float .f64 0, .int .i64 1]) ∧ w = w' := by
  have HI := Lib.hid hi
  have HT := Lib.hid hT
  by_cases hj : j < 0 ∨ 24 ≤ j
  · have HJ := Lib.hid hj
    clear hi hT hj
    go_enter Tryd.func16, Tryd.ntmps16
    go_wp2_with fail
    refine (supply_out i _ HI.out).mono ?_
    rintro e w' ⟨rfl, rfl⟩
    go_wp2_with fail
    refine (supply_out j _ HJ.out).mono ?_
    rintro e w' ⟨rfl, rfl⟩
    go_wp2_with fail
    go_ret2
    exact ⟨rfl, rfl⟩
  · obtain ⟨b, rfl⟩ : ∃ b : Nat, j = b := ⟨j.toNat, by omega⟩
    have HJ := Lib.hid (show b < 24 by omega)
    clear hi hT hj
    go_enter Tryd.func16, Tryd.ntmps16
    go_wp2_with fail
    refine (supply_out i _ HI.out).mono ?_
    rintro e w' ⟨rfl, rfl⟩
    go_wp2_with fail
    refine (supply_in b _ HJ.out HT.out).mono ?_
    rintro e w' ⟨rfl, rfl⟩
    go_wp2_with fail
    go_ret2
    exact ⟨rfl, rfl⟩
theorem ramp_out2 (a : Nat) (j : Int) (s : Nat) (w : World) (ha : a < 24) (hj : j < 0 ∨ 24 ≤ j) (hT : supplyAt w) :
    Calls Tryd.prog 16 #[.int .i64 a, .int .i64 j, .float .f64 s] w fun e w' => e = .returned (.tuple #[.float .f64 0, .int .i64 1]) ∧ w = w' := by
  have HA := Lib.hid ha
  have HJ := Lib.hid hj
  have HT := Lib.hid hT
  clear ha hj hT
  go_enter Tryd.func16, Tryd.ntmps16
  go_wp2_with fail
  refine (supply_in a _ HA.out HT.out).mono ?_
  rintro e w' ⟨rfl, rfl⟩
  go_wp2_with fail
  refine (supply_out j _ HJ.out).mono ?_
  rintro e w' ⟨rfl, rfl⟩
  go_wp2_with fail
  go_ret2
  exact ⟨rfl, rfl⟩
end Go.Proofs.YtnomamimpnogpaaDoor
