/- Shift: the program's and the document's. -/
import Derived.Test.YtlkkkohgeakfaaaDoorRefRadC
namespace Go.Proofs.YtlkkkohgeakfaaaDoor
open Go.RowKit Go.ChangeShapes
namespace Dbl
open Ieee
theorem read_word (s : Bool) (r : Nat) (h : r ≤ 9218868437227405312) : ∀ x y, F.read (F.word s r) ≠ .nan x y := by
  intro x y
  have hr : (F.word s r) % 9223372036854775808 = r := by
    unfold Format.word
    rw [F_sign]
    cases s
    · simp; omega
    · simp; omega
  unfold Format.read
  simp only [F_sign, F_binade, F_inf, hr]
  split
  · intro e; cases e
  · split
    · intro e; cases e
    · rw [if_pos (by omega)]; intro e; cases e
theorem read_nearest (s : Bool) (m : Nat) (p : Int) : ∀ x y, F.read (F.nearest s m p) ≠ .nan x y := by
  unfold Format.nearest
  split
  · exact read_word s 0 (by omega)
  · dsimp only
    refine read_word s _ ?_
    have := Nat.min_le_right ((max (p + (m.log2 : Int) - (F.fractionBits : Int)) F.leastPlace - F.leastPlace).toNat * F.binade + Toward.even.cut s (m <<< (p - max (p + (m.log2 : Int) - (F.fractionBits : Int)) F.leastPlace).toNat) (max (p + (m.log2 : Int) - (F.fractionBits : Int)) F.leastPlace - p).toNat) F.infRung
    rw [F_inf] at this ⊢
    exact this
/-- A number divided by a number that is not 0, and that times a number that is not 0. -/
theorem quo_mul {s y x : Nat} (hs : ∃ a b c, F.read s = .number a b c) (hy : ∃ a b c, F.read y = .number a b c ∧ b ≠ 0) (hx : ∃ a b c, F.read x = .number a b c ∧ b ≠ 0) : ∃ q r, F.div s y = some q ∧ F.mul x q = some r := by
  obtain ⟨a, b, c, hs⟩ := hs
  obtain ⟨a', b', c', hy, hb'⟩ := hy
  obtain ⟨a2, b2, c2, hx, hb2⟩ := hx
  have hq : ∃ d e f, F.div s y = some (F.nearest d e f) := by
    unfold Format.div
    rw [hs, hy]
    simp only [Datum.quotient]
    rw [if_neg hb']
    exact ⟨_, _, _, rfl⟩
  obtain ⟨d, e, f, hq⟩ := hq
  have hn := read_nearest d e f
  have : ∃ r, F.mul x (F.nearest d e f) = some r := by
    unfold Format.mul
    rw [hx]
    cases hr : F.read (F.nearest d e f) with
    | nan x y => exact absurd hr (hn x y)
    | infinity t => simp [Datum.product, hb2]
    | number t u v => exact ⟨_, rfl⟩
  obtain ⟨r, hr⟩ := this
  exact ⟨_, r, hq, hr⟩
theorem num_of_lt {s l : Nat} (h1 : F.order s 13957181328416833536 = some .gt) (h2 : F.order s 4733809291562057728 = some .lt) : ∃ a b c, F.read s = .number a b c := by
  have r1 : ∃ a b c, F.read 13957181328416833536 = .number a b c := by
    have : (match F.read 13957181328416833536 with | .number .. => true | _ => false) = true := by decide +kernel
    split at this
    · rename_i a b c h; exact ⟨a, b, c, h⟩
    · cases this
  have r2 : ∃ a b c, F.read 4733809291562057728 = .number a b c := by
    have : (match F.read 4733809291562057728 with | .number .. => true | _ => false) = true := by decide +kernel
    split at this
    · rename_i a b c h; exact ⟨a, b, c, h⟩
    · cases this
  obtain ⟨_, _, _, r1⟩ := r1
  obtain ⟨_, _, _, r2⟩ := r2
  unfold Format.order at h1 h2
  cases hs : F.read s with
  | nan x y => rw [hs, r1] at h1; cases h1
  | infinity t =>
    rw [hs, r1] at h1
    rw [hs, r2] at h2
    cases t <;> simp [Datum.order] at h1 h2
  | number a b c => exact ⟨a, b, c, rfl⟩
end Dbl
abbrev light : Nat := 4733809291562057728
abbrev mlight : Nat := 13957181328416833536
def okL (s : Nat) : Prop := FloatKind.f64.format.order s 13957181328416833536 = some .gt ∧ FloatKind.f64.format.order s 4733809291562057728 = some .lt
def partV (s : Nat) : Nat := (floatBits .quo .f64 s 4733809291562057728).getD 0
def shiftV (k s : Nat) : Nat := (floatBits .mul .f64 (floatOfInt .f64 (nth radioL k)) (partV s)).getD 0
theorem hz_num : ∀ k, k < 20 → (match FloatKind.f64.format.read (floatOfInt .f64 (nth radioL k)) with | .number _ m _ => m != 0 | _ => false) = true := by decide +kernel
theorem light_num : (match FloatKind.f64.format.read 4733809291562057728 with | .number _ m _ => m != 0 | _ => false) = true := by decide +kernel
theorem num_of {x : Nat} (h : (match FloatKind.f64.format.read x with | .number _ m _ => m != 0 | _ => false) = true) : ∃ a b c, Dbl.F.read x = .number a b c ∧ b ≠ 0 := by
  split at h
  · rename_i a b c hh
    exact ⟨a, b, c, hh, by simpa using h⟩
  · cases h
theorem shift_eq (k s : Nat) (hk : k < 20) (h : okL s) : floatBits .quo .f64 s 4733809291562057728 = some (partV s) ∧ floatBits .mul .f64 (floatOfInt .f64 (nth radioL k)) (partV s) = some (shiftV k s) := by
  obtain ⟨q, r, h1, h2⟩ := Dbl.quo_mul (Dbl.num_of_lt (l := 0) h.1 h.2) (num_of (x := 4733809291562057728) light_num) (num_of (x := floatOfInt .f64 (nth radioL k)) (hz_num k hk))
  have e1 : floatBits .quo .f64 s 4733809291562057728 = some q := h1
  have e2 : partV s = q := by unfold partV; rw [e1]; rfl
  have e3 : floatBits .mul .f64 (floatOfInt .f64 (nth radioL k)) q = some r := h2
  have e4 : shiftV k s = r := by unfold shiftV; rw [e2, e3]; rfl
  rw [e4, e2]
  exact ⟨e1, e3⟩
theorem notL {s : Nat} (h : ¬ okL s) : (FloatKind.f64.format.order s 13957181328416833536 == some .gt) = false ∨ (FloatKind.f64.format.order s 13957181328416833536 = some .gt ∧ (FloatKind.f64.format.order s 4733809291562057728 == some .lt) = false) := by
  by_cases h0 : FloatKind.f64.format.order s 13957181328416833536 = some .gt
  · refine .inr ⟨h0, ?_⟩
    by_cases h1 : FloatKind.f64.format.order s 4733809291562057728 = some .lt
    · exact absurd ⟨h0, h1⟩ h
    · simpa using h1
  · exact .inl (by simpa using h0)
theorem shift_ok (k s : Nat) (w : World) (hk : k < 20) (hT : radioAt w) (h : okL s) :
    Calls Tryd.prog 22 #[.int .i64 k, .float .f64 s] w fun e w' => e = .returned (.tuple #[.float .f64 (shiftV k s), .int .i64 0]) ∧ w = w' := by
  obtain ⟨e1, e2⟩ := shift_eq k s hk h
  obtain ⟨s1, s2⟩ := h
  have hq := fun w => run_float_arith (P := Tryd.prog) w .quo 33 .f64 _ _ _ e1
  have hm := fun w => run_float_arith (P := Tryd.prog) w .mul 33 .f64 _ _ _ e2
  have HR := Lib.hid (radio_in k w hk hT)
  generalize partV s = q at *
  generalize shiftV k s = r at *
  generalize nth radioL k = n at *
  clear e1 e2 hT
  go_enter Tryd.func22, Tryd.ntmps22
  go_wp2_with fail
  refine HR.out.mono ?_
  rintro e w' ⟨rfl, rfl⟩
  go_wp2_with fail
  go_ret2
  exact ⟨rfl, rfl⟩
theorem shift_bad (k s : Nat) (w : World) (hk : k < 20) (hT : radioAt w) (h : ¬ okL s) :
    Calls Tryd.prog 22 #[.int .i64 k, .float .f64 s] w fun e w' => e = .returned (.tuple #[.float .f64 0, .int .i64 1]) ∧ w = w' := by
  have HR := Lib.hid (radio_in k w hk hT)
  clear hT
  rcases notL h with s1 | ⟨s1, s2⟩
  · clear h
    go_enter Tryd.func22, Tryd.ntmps22
    go_wp2_with fail
    refine HR.out.mono ?_
    rintro e w' ⟨rfl, rfl⟩
    go_wp2_with fail
    go_ret2
    exact ⟨rfl, rfl⟩
  · clear h
    go_enter Tryd.func22, Tryd.ntmps22
    go_wp2_with fail
    refine HR.out.mono ?_
    rintro e w' ⟨rfl, rfl⟩
    go_wp2_with fail
    go_ret2
    exact ⟨rfl, rfl⟩
theorem shift_out (i : Int) (s : Nat) (w : World) (hi : i < 0 ∨ 20 ≤ i) :
    Calls Tryd.prog 22 #[.int .i64 i, .float .f64 s] w fun e w' => e = .returned (.tuple #[.float .f64 0, .int .i64 1]) ∧ w = w' := by
  have HR := Lib.hid (radio_out i w hi)
  clear hi
  go_enter Tryd.func22, Tryd.ntmps22
  go_wp2_with fail
  refine HR.out.mono ?_
  rintro e w' ⟨rfl, rfl⟩
  go_wp2_with fail
  go_ret2
  exact ⟨rfl, rfl⟩
theorem refShift_ok (k s : Nat) (w : World) (hk : k < 20) (h : okL s) :
    Calls Tryd.prog 23 #[.int .i64 k, .float .f64 s] w fun e w' => e = .returned (.tuple #[.float .f64 (shiftV k s), .int .i64 0]) ∧ Below w.heap.size w w' := by
  obtain ⟨e1, e2⟩ := shift_eq k s hk h
  obtain ⟨s1, s2⟩ := h
  have hq := fun w => run_float_arith (P := Tryd.prog) w .quo 33 .f64 _ _ _ e1
  have hm := fun w => run_float_arith (P := Tryd.prog) w .mul 33 .f64 _ _ _ e2
  have d0 : decide ((k : Int) ≥ 20) = false := decide_eq_false (by omega)
  have hk20 : (k : Int) < 20 := by omega
  have hr := rad_num k hk
  generalize partV s = q at *
  generalize shiftV k s = r at *
  clear e1 e2
  go_enter Tryd.func23, Tryd.ntmps23
  go_wp2_with fail
  refine (n12 w).mono ?_
  rintro e w1 ⟨g, c, rfl, hown, hb⟩
  have c0 := ncell_at hown k hk
  rw [hr] at c0
  have HB := Lib.hid hb
  generalize nth radioL k = n at *
  clear hown hb hr
  go_wp2_with fail
  go_ret2
  exact ⟨rfl, HB.out⟩
theorem refShift_bad (k s : Nat) (w : World) (hk : k < 20) (h : ¬ okL s) :
    Calls Tryd.prog 23 #[.int .i64 k, .float .f64 s] w fun e w' => e = .returned (.tuple #[.float .f64 0, .int .i64 1]) ∧ Below w.heap.size w w' := by
  have d0 : decide ((k : Int) ≥ 20) = false := decide_eq_false (by omega)
  rcases notL h with s1 | ⟨s1, s2⟩
  · clear h
    go_enter Tryd.func23, Tryd.ntmps23
    go_wp2_with fail
    go_ret2
    exact ⟨rfl, Below.refl _ _⟩
  · clear h
    go_enter Tryd.func23, Tryd.ntmps23
    go_wp2_with fail
    go_ret2
    exact ⟨rfl, Below.refl _ _⟩
theorem refShift_out (i : Int) (s : Nat) (w : World) (hi : i < 0 ∨ 20 ≤ i) :
    Calls Tryd.prog 23 #[.int .i64 i, .float .f64 s] w fun e w' => e = .returned (.tuple #[.float .f64 0, .int .i64 1]) ∧ Below w.heap.size w w' := by
  rcases hi with h | h
  · go_enter Tryd.func23, Tryd.ntmps23
    go_wp2_with fail
    go_ret2
    exact ⟨rfl, Below.refl _ _⟩
  · have h' : ¬ i < 0 := by omega
    have d0 : decide (i ≥ 20) = true := decide_eq_true (by omega)
    go_enter Tryd.func23, Tryd.ntmps23
    go_wp2_with fail
    go_ret2
    exact ⟨rfl, Below.refl _ _⟩
end Go.Proofs.YtlkkkohgeakfaaaDoor
