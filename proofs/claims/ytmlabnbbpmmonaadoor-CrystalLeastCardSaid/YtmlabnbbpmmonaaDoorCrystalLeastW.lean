/- The walk of CrystalLeast: a divider that is told leaves no more than is wanted, a lesser one more; chains hang on their product. -/
import Derived.Test.YtmlabnbbpmmonaaDoorCrystalC
namespace Go.Proofs.YtmlabnbbpmmonaaDoor
open Go.RowKit

theorem awake_any (w : World) (hT : Tab w) : Calls Tryd.prog 18 #[] w fun e w' => e = .returned (.bool true) ∧ w = w' := by
  have t0 : tab 0 = 32768 := rfl
  have t1 : tab 31 = 100000000 := rfl
  have c0 := rate_in 0 w (by omega) (hT.at 0 (by omega))
  have c1 := rate_in 31 w (by omega) (hT.at 31 (by omega))
  rw [t0] at c0
  rw [t1] at c1
  have C0 := Lib.hid c0
  have C1 := Lib.hid c1
  clear c0 c1 t0 t1
  go_enter Tryd.func18, Tryd.ntmps18
  go_wp2_with fail
  refine C0.out.mono ?_
  rintro e w' ⟨rfl, rfl⟩
  go_wp2_with fail
  refine C1.out.mono ?_
  rintro e w' ⟨rfl, rfl⟩
  go_wp2_with fail
  refine (divider_ok 100 30 w (by omega) (by omega) (by omega) (by omega) (by decide)).mono ?_
  rintro e w' ⟨rfl, rfl⟩
  go_wp2_with fail
  go_ret
  exact ⟨rfl, rfl⟩

namespace least
theorem div_le (f t : Int) (h1 : 1 ≤ f) (h3 : 1 ≤ t) : f / ((f + t - 1) / t) ≤ t := by
  have hd : 1 ≤ (f + t - 1) / t := by
    have : t * 1 ≤ f + t - 1 := by omega
    exact (Int.le_ediv_iff_mul_le (by omega)).2 (by omega)
  have hm : f ≤ t * ((f + t - 1) / t) := by
    have h := Int.mul_ediv_add_emod (f + t - 1) t
    have h2 := Int.emod_lt_of_pos (f + t - 1) (show 0 < t by omega)
    omega
  have : f / ((f + t - 1) / t) < t + 1 := by
    refine Int.ediv_lt_of_lt_mul (by omega) ?_
    rw [Int.add_mul]
    omega
  omega
theorem pred_mul (f t : Int) (h1 : 1 ≤ f) (h3 : 1 ≤ t) : t * ((f + t - 1) / t - 1) ≤ f - 1 := by
  have h := Int.mul_ediv_add_emod (f + t - 1) t
  have h2 := Int.emod_nonneg (f + t - 1) (show t ≠ 0 by omega)
  rw [Int.mul_sub]
  omega
theorem pred_ge (f t : Int) (h1 : 1 ≤ f) (h3 : 1 ≤ t) (hd : 1 < (f + t - 1) / t) : t ≤ f / ((f + t - 1) / t - 1) := by
  have := pred_mul f t h1 h3
  exact (Int.le_ediv_iff_mul_le (by omega)).2 (by omega)
theorem back (f d : Int) (h1 : 0 ≤ f) (hd : 1 ≤ d) : 0 ≤ f / d * d ∧ f / d * d ≤ f :=
  ⟨Int.mul_nonneg (Int.ediv_nonneg h1 (by omega)) (by omega), Int.ediv_mul_le f (by omega)⟩
theorem comm (f a b : Int) (ha : 0 ≤ a) (hb : 0 ≤ b) : f / a / b = f / (a * b) := Int.ediv_ediv_of_nonneg ha
theorem mod_bd (a : Int) : -255 < a.tmod 255 ∧ a.tmod 255 < 255 := by
  have h := Int.tmod_lt_of_pos a (show (0 : Int) < 255 by omega)
  have h2 := Int.lt_tmod_of_pos a (show (0 : Int) < 255 by omega)
  omega
/-- What the three chains at the end come to, the same for all. -/
structure Ends (f A B : Int) (x e : Int) : Prop where
  c1 : ∀ b w, w.cell? ⟨b, 0, none⟩ = some (.int .i64 A) → w.cell? ⟨b, 1, none⟩ = some (.int .i64 B) →
    Calls Tryd.prog 19 #[.int .i64 f, .slice (some ⟨b, 0, none⟩) 2 2] w fun r w' => r = .returned (.tuple #[.int .i64 x, .int .i64 e]) ∧ w = w'
  c2 : ∀ b w, w.cell? ⟨b, 0, none⟩ = some (.int .i64 B) → w.cell? ⟨b, 1, none⟩ = some (.int .i64 A) →
    Calls Tryd.prog 19 #[.int .i64 f, .slice (some ⟨b, 0, none⟩) 2 2] w fun r w' => r = .returned (.tuple #[.int .i64 x, .int .i64 e]) ∧ w = w'
  c3 : ∀ b w, w.cell? ⟨b, 0, none⟩ = some (.int .i64 (A * B)) →
    Calls Tryd.prog 19 #[.int .i64 f, .slice (some ⟨b, 0, none⟩) 1 1] w fun r w' => r = .returned (.tuple #[.int .i64 x, .int .i64 e]) ∧ w = w'
theorem mul_bd (A B : Int) (a0 : 1 ≤ A) (a1 : A ≤ 255) (b0 : 1 ≤ B) (b1 : B ≤ 255) : 1 ≤ A * B ∧ A * B ≤ 65025 := by
  have h1 : 1 * 1 ≤ A * B := Int.mul_le_mul a0 b0 (by omega) (by omega)
  have h2 : A * B ≤ 255 * 255 := Int.mul_le_mul a1 b1 (by omega) (by omega)
  omega
theorem ends (f A B : Int) (a0 : 1 ≤ A) (a1 : A ≤ 255) (b0 : 1 ≤ B) (b1 : B ≤ 255) : ∃ x e, Ends f A B x e := by
  by_cases h : f < 0 ∨ 1099511627776 < f
  · exact ⟨0, 1, fun b w h1 h2 => chain_out2 f A B b w h h1 h2, fun b w h1 h2 => chain_out2 f B A b w h h1 h2, fun b w h1 => chain_out1 f _ b w h h1⟩
  · have hm := mul_bd A B a0 a1 b0 b1
    refine ⟨f / (A * B), 0, fun b w h1 h2 => ?_, fun b w h1 h2 => ?_, fun b w h1 => chain_one f _ b w (by omega) (by omega) hm.1 (by omega) h1⟩
    · rw [← comm f A B (by omega) (by omega)]
      exact chain_two f A B b w (by omega) (by omega) a0 (by omega) b0 (by omega) h1 h2
    · rw [Int.mul_comm A B, ← comm f B A (by omega) (by omega)]
      exact chain_two f B A b w (by omega) (by omega) b0 (by omega) a0 (by omega) h1 h2
end least
open least

set_option maxHeartbeats 2000000 in
set_option maxRecDepth 100000 in
theorem crystalLeast_walk (f t a b : Int) (W : World) (wf : (Lit.int .i64 f).wf = true) (wt : (Lit.int .i64 t).wf = true) (wa : (Lit.int .i64 a).wf = true) (wb : (Lit.int .i64 b).wf = true) (_ : W.ShapedOpen Tryd.prog) (hT : Tab W) :
    Calls Tryd.prog 6 #[.int .i64 f, .int .i64 t, .int .i64 a, .int .i64 b] W fun e w' => e = .returned (.bool true) ∧ Below W.heap.size W w' := by
  obtain ⟨ma, ma'⟩ := mod_bd a
  obtain ⟨mb, mb'⟩ := mod_bd b
  have hA0 : 1 ≤ 1 + a.tmod 255 % 255 := by omega
  have hA1 : 1 + a.tmod 255 % 255 ≤ 255 := by omega
  have hB0 : 1 ≤ 1 + b.tmod 255 % 255 := by omega
  have hB1 : 1 + b.tmod 255 % 255 ≤ 255 := by omega
  obtain ⟨m0, m1⟩ := mul_bd _ _ hA0 hA1 hB0 hB1
  obtain ⟨x, e, HE⟩ := ends f _ _ hA0 hA1 hB0 hB1
  clear wf wt wa wb
  by_cases ho : f < 1 ∨ 1099511627776 < f ∨ t < 1 ∨ 1099511627776 < t
  · have HO := Lib.hid ho
    clear ho
    go_enter Tryd.func6, Tryd.ntmps6
    go_wp2_with fail
    refine (awake_any W hT).mono ?_
    rintro e w' ⟨rfl, rfl⟩
    go_wp2_with fail
    refine (divider_arg f t _ HO.out).mono ?_
    rintro e w' ⟨rfl, rfl⟩
    go_wp2_with fail
    refine (HE.c1 _ _ (by simp [go_sem]) (by simp [go_sem])).mono ?_
    rintro e w' ⟨rfl, rfl⟩
    go_wp2_with fail
    refine (HE.c2 _ _ (by simp [go_sem]) (by simp [go_sem])).mono ?_
    rintro e w' ⟨rfl, rfl⟩
    go_wp2_with fail
    refine (HE.c3 _ _ (by simp [go_sem])).mono ?_
    rintro e w' ⟨rfl, rfl⟩
    go_wp2_with fail
    go_ret
    exact ⟨rfl, by repeat (first | exact Below.refl _ _ | refine Below.alloc ?_ (by simp; try omega) _)⟩
  have f1 : 1 ≤ f := by omega
  have f2 : f ≤ 1099511627776 := by omega
  have t1 : 1 ≤ t := by omega
  have t2 : t ≤ 1099511627776 := by omega
  clear ho
  by_cases hq : 65535 < (f + t - 1) / t
  · go_enter Tryd.func6, Tryd.ntmps6
    go_wp2_with fail
    refine (awake_any W hT).mono ?_
    rintro e w' ⟨rfl, rfl⟩
    go_wp2_with fail
    refine (divider_none f t _ f1 f2 t1 t2 hq).mono ?_
    rintro e w' ⟨rfl, rfl⟩
    go_wp2_with fail
    refine (HE.c1 _ _ (by simp [go_sem]) (by simp [go_sem])).mono ?_
    rintro e w' ⟨rfl, rfl⟩
    go_wp2_with fail
    refine (HE.c2 _ _ (by simp [go_sem]) (by simp [go_sem])).mono ?_
    rintro e w' ⟨rfl, rfl⟩
    go_wp2_with fail
    refine (HE.c3 _ _ (by simp [go_sem])).mono ?_
    rintro e w' ⟨rfl, rfl⟩
    go_wp2_with fail
    go_ret
    exact ⟨rfl, by repeat (first | exact Below.refl _ _ | refine Below.alloc ?_ (by simp; try omega) _)⟩
  have hq' : (f + t - 1) / t ≤ 65535 := by omega
  have hd1 : 1 ≤ (f + t - 1) / t := (Int.le_ediv_iff_mul_le (by omega)).2 (by omega)
  have hle := div_le f t f1 t1
  have HD := divider_ok f t
  have hp := pred_mul f t f1 t1
  have hge := pred_ge f t f1 t1
  generalize hdd : (f + t - 1) / t = d at *
  clear hq hdd
  by_cases e1 : d = 1
  · subst e1
    clear hge hp
    go_enter Tryd.func6, Tryd.ntmps6
    go_wp2_with fail
    refine (awake_any W hT).mono ?_
    rintro e w' ⟨rfl, rfl⟩
    go_wp2_with fail
    refine (HD _ f1 f2 t1 t2 hq').mono ?_
    rintro e w' ⟨rfl, rfl⟩
    go_wp2_with fail
    refine (chain_one f 1 _ _ (by omega) (by omega) (by omega) (by omega) (by simp [go_sem])).mono ?_
    rintro e w' ⟨rfl, rfl⟩
    go_wp2_with fail
    refine (HE.c1 _ _ (by simp [go_sem]) (by simp [go_sem])).mono ?_
    rintro e w' ⟨rfl, rfl⟩
    go_wp2_with fail
    refine (HE.c2 _ _ (by simp [go_sem]) (by simp [go_sem])).mono ?_
    rintro e w' ⟨rfl, rfl⟩
    go_wp2_with fail
    refine (HE.c3 _ _ (by simp [go_sem])).mono ?_
    rintro e w' ⟨rfl, rfl⟩
    go_wp2_with fail
    go_ret
    exact ⟨rfl, by repeat (first | exact Below.refl _ _ | refine Below.alloc ?_ (by simp; try omega) _)⟩
  have e2 : 1 < d := by omega
  have hge := hge e2
  obtain ⟨k0, k1⟩ := back f (d - 1) (by omega) (by omega)
  by_cases e3 : f / (d - 1) = t
  · have hn3 : t * (d - 1) < f := by omega
    rw [e3] at k0 k1
    have C : ∀ b w, w.cell? ⟨b, 0, none⟩ = some (.int .i64 (d - 1)) →
        Calls Tryd.prog 19 #[.int .i64 f, .slice (some ⟨b, 0, none⟩) 1 1] w fun r w' => r = .returned (.tuple #[.int .i64 t, .int .i64 0]) ∧ w = w' := fun b w hc => by
      have := chain_one f (d - 1) b w (by omega) (by omega) (by omega) (by omega) hc
      rwa [e3] at this
    have HC := Lib.hid C
    clear hge hp e3 C
    go_enter Tryd.func6, Tryd.ntmps6
    go_wp2_with fail
    refine (awake_any W hT).mono ?_
    rintro e w' ⟨rfl, rfl⟩
    go_wp2_with fail
    refine (HD _ f1 f2 t1 t2 hq').mono ?_
    rintro e w' ⟨rfl, rfl⟩
    go_wp2_with fail
    refine (chain_one f d _ _ (by omega) (by omega) (by omega) (by omega) (by simp [go_sem])).mono ?_
    rintro e w' ⟨rfl, rfl⟩
    go_wp2_with fail
    refine (HC.out _ _ (by simp [go_sem])).mono ?_
    rintro e w' ⟨rfl, rfl⟩
    go_wp2_with fail
    refine (HE.c1 _ _ (by simp [go_sem]) (by simp [go_sem])).mono ?_
    rintro e w' ⟨rfl, rfl⟩
    go_wp2_with fail
    refine (HE.c2 _ _ (by simp [go_sem]) (by simp [go_sem])).mono ?_
    rintro e w' ⟨rfl, rfl⟩
    go_wp2_with fail
    refine (HE.c3 _ _ (by simp [go_sem])).mono ?_
    rintro e w' ⟨rfl, rfl⟩
    go_wp2_with fail
    go_ret
    exact ⟨rfl, by repeat (first | exact Below.refl _ _ | refine Below.alloc ?_ (by simp; try omega) _)⟩
  · have hn2 : t < f / (d - 1) := by omega
    clear hge hp e3
    go_enter Tryd.func6, Tryd.ntmps6
    go_wp2_with fail
    refine (awake_any W hT).mono ?_
    rintro e w' ⟨rfl, rfl⟩
    go_wp2_with fail
    refine (HD _ f1 f2 t1 t2 hq').mono ?_
    rintro e w' ⟨rfl, rfl⟩
    go_wp2_with fail
    refine (chain_one f d _ _ (by omega) (by omega) (by omega) (by omega) (by simp [go_sem])).mono ?_
    rintro e w' ⟨rfl, rfl⟩
    go_wp2_with fail
    refine (chain_one f (d - 1) _ _ (by omega) (by omega) (by omega) (by omega) (by simp [go_sem])).mono ?_
    rintro e w' ⟨rfl, rfl⟩
    go_wp2_with fail
    refine (HE.c1 _ _ (by simp [go_sem]) (by simp [go_sem])).mono ?_
    rintro e w' ⟨rfl, rfl⟩
    go_wp2_with fail
    refine (HE.c2 _ _ (by simp [go_sem]) (by simp [go_sem])).mono ?_
    rintro e w' ⟨rfl, rfl⟩
    go_wp2_with fail
    refine (HE.c3 _ _ (by simp [go_sem])).mono ?_
    rintro e w' ⟨rfl, rfl⟩
    go_wp2_with fail
    go_ret
    exact ⟨rfl, by repeat (first | exact Below.refl _ _ | refine Below.alloc ?_ (by simp; try omega) _)⟩
end Go.Proofs.YtmlabnbbpmmonaaDoor
