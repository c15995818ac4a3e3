/- Chapter 12: the document's array, Hertz, Near, Shift; the program's Near, Shift. -/
import Derived.Test.YtlkkkohgeakfaaaDoorNumsC
import Derived.Test.YtlkkkohgeakfaaaDoorFloatKit
import Derived.Laws.FloatArith
namespace Go.Proofs.YtlkkkohgeakfaaaDoor
open Go.RowKit Go.ChangeShapes
theorem c11 (k : Nat) (w : World) (hk : k < 32) : Calls Tryd.prog 59 #[.int .i64 k] w fun e w' => e = .returned (.int .i64 (cryF k)) ∧ w = w' := by
  by_cases h0 : k = 0
  · subst h0
    go_enter Tryd.func59, Tryd.ntmps59
    go_wp2_with fail
    go_ret
    exact ⟨rfl, rfl⟩
  · by_cases h1 : k = 31
    · subst h1
      go_enter Tryd.func59, Tryd.ntmps59
      go_wp2_with fail
      go_ret
      exact ⟨rfl, rfl⟩
    · have a0 : ((k : Int) == 0) = false := beq_eq_false_iff_ne.2 (by omega)
      have a1 : ((k : Int) == 31) = false := beq_eq_false_iff_ne.2 (by omega)
      have e : Hid (cryF k = 1000000 + 1000000 * (k : Int)) := Lib.hid (by unfold cryF; rw [if_neg h0, if_neg h1])
      clear h0 h1
      go_enter Tryd.func59, Tryd.ntmps59
      go_wp2_with fail
      go_ret
      exact ⟨by rw [e.out]; rfl, rfl⟩
theorem s11 (k : Nat) (w : World) (hk : k < 24) : Calls Tryd.prog 52 #[.int .i64 k] w fun e w' => e = .returned (.int .i64 (supF k)) ∧ w = w' := by
  by_cases h0 : k = 0
  · subst h0
    go_enter Tryd.func52, Tryd.ntmps52
    go_wp2_with fail
    go_ret
    exact ⟨rfl, rfl⟩
  · by_cases h1 : k = 23
    · subst h1
      go_enter Tryd.func52, Tryd.ntmps52
      go_wp2_with fail
      go_ret
      exact ⟨rfl, rfl⟩
    · have a0 : ((k : Int) == 0) = false := beq_eq_false_iff_ne.2 (by omega)
      have a1 : ((k : Int) == 23) = false := beq_eq_false_iff_ne.2 (by omega)
      have e : Hid (supF k = 300000 + 12500 * (k : Int) + cryF k) := Lib.hid (by unfold supF; rw [if_neg h0, if_neg h1])
      obtain ⟨b0, b1⟩ := cry_bd k (by omega)
      clear h0 h1
      go_enter Tryd.func52, Tryd.ntmps52
      go_wp2_with fail
      refine (c11 k _ (by omega)).mono ?_
      rintro e w' ⟨rfl, rfl⟩
      go_wp2_with fail
      go_ret
      exact ⟨by rw [e.out]; rfl, rfl⟩
theorem e11 (k : Nat) (w : World) (hk : k < 16) : Calls Tryd.prog 44 #[.int .i64 k] w fun e w' => e = .returned (.int .i64 (senF k)) ∧ w = w' := by
  obtain ⟨b0, b1⟩ := sup_bd k (by omega)
  have hs := Lib.hid (s11 k w (by omega))
  by_cases h0 : k = 0
  · subst h0
    have e : Hid (senF 0 = -200000 + supF 0 + 25000) := Lib.hid rfl
    generalize supF 0 = sv at *
    go_enter Tryd.func44, Tryd.ntmps44
    go_wp2_with fail
    refine hs.out.mono ?_
    rintro e w' ⟨rfl, rfl⟩
    go_wp2_with fail
    go_ret
    exact ⟨by rw [e.out]; rfl, rfl⟩
  · by_cases h1 : k = 15
    · subst h1
      have e : Hid (senF 15 = -200000 + 10000 * 15 + supF 15 + 500000) := Lib.hid rfl
      generalize supF 15 = sv at *
      go_enter Tryd.func44, Tryd.ntmps44
      go_wp2_with fail
      refine hs.out.mono ?_
      rintro e w' ⟨rfl, rfl⟩
      go_wp2_with fail
      go_ret
      exact ⟨by rw [e.out]; exact ret_int (by show _ = _; omega), rfl⟩
    · have a0 : ((k : Int) == 0) = false := beq_eq_false_iff_ne.2 (by omega)
      have a1 : ((k : Int) == 15) = false := beq_eq_false_iff_ne.2 (by omega)
      have e : Hid (senF k = -200000 + 10000 * (k : Int) + supF k) := Lib.hid (by unfold senF; rw [if_neg h0, if_neg h1])
      clear h0 h1
      go_enter Tryd.func44, Tryd.ntmps44
      go_wp2_with fail
      refine hs.out.mono ?_
      rintro e w' ⟨rfl, rfl⟩
      go_wp2_with fail
      go_ret
      exact ⟨by rw [e.out]; rfl, rfl⟩
set_option maxHeartbeats 4000000 in
set_option maxRecDepth 100000 in
theorem n12 (w : World) : Calls Tryd.prog 34 #[] w (MakesRow 20 radF w) := by
  obtain ⟨iw, hi, hz0, hz1, hz2⟩ := info_parts info64
  go_enter Tryd.func34, Tryd.ntmps34
  go_wp2_with fail
  refine (n10 w).mono ?_
  rintro e w1 ⟨gs, cs, rfl, hown, hb⟩
  have HS := Lib.hid hown
  have HB := Lib.hid hb
  have hgs : w.heap.size ≤ gs ∧ gs < w1.heap.size := hown.lt gs rfl
  obtain ⟨hgs0, hgs1⟩ := hgs
  clear hown hb
  go_wp2_with fail
  go_loopg [2, 3] 20 (fun r v s wr => ∃ k : Nat, k ≤ 20 ∧ r = 20 - k ∧ s = .int .i64 k ∧ Hid (wr.ownsRow w1.heap.size 2 1 v k (ncells ((nums 20 radF).take k)) ∧ Below w1.heap.size w1 wr))
  case atStart => exact ⟨0, by omega, by omega, rfl, Lib.hid ⟨World.ownsRow_nil _ _ _ _, Below.refl _ _⟩⟩
  case round =>
    obtain ⟨k, hk, hr, rfl, hq⟩ := hrel
    obtain ⟨q1, q2⟩ := hq.out
    have Q1 := Lib.hid q1
    have Q2 := Lib.hid q2
    have HR := Lib.hid hr
    clear q1 q2 hq hr
    by_cases hlt : k < 20
    · have c1 : wr.cell? ⟨gs, k, none⟩ = some (.int .i64 (busF k)) := (Q2.out.cell (p := ⟨gs, k, none⟩) hgs1).trans (ncell_at HS.out k (by omega))
      obtain ⟨b0, b1⟩ := bus_bd' k hlt
      obtain ⟨J, hJ⟩ : ∃ J : Nat, J = k % 16 := ⟨_, rfl⟩
      have hJ16 : J < 16 := by omega
      obtain ⟨b2, b3⟩ := sen_bd J hJ16
      have HR12 := Lib.hid (show radF k = (if k = 0 then 160000000 + busF 0 + 2 * senF 0 - 2320 else if k = 19 then 160000000 + 25000 * 19 + busF 19 + 2 * senF 3 - 30640 else 160000000 + 25000 * (k : Int) + busF k + 2 * senF J) by rw [hJ]; rfl)
      have he11 : Hid (∀ w, Calls Tryd.prog 44 #[.int .i64 J] w fun e w' => e = .returned (.int .i64 (senF J)) ∧ w' = w) := Lib.hid (fun w => (e11 J w hJ16).mono fun _ _ ⟨a, b⟩ => ⟨a, b.symm⟩)
      have e0 : IntKind.i64.wrap (25000 * (k : Int)) = 25000 * (k : Int) := IntWalk.i64_in _ (by omega)
      have e1 : IntKind.i64.wrap (160000000 + 25000 * (k : Int)) = 160000000 + 25000 * (k : Int) := IntWalk.i64_in _ (by omega)
      have e2 : IntKind.i64.wrap (160000000 + 25000 * (k : Int) + busF k) = 160000000 + 25000 * (k : Int) + busF k := IntWalk.i64_in _ (by omega)
      have e3 : IntKind.i64.wrap (2 * senF J) = 2 * senF J := IntWalk.i64_in _ (by omega)
      have e4 : IntKind.i64.wrap (160000000 + 25000 * (k : Int) + busF k + 2 * senF J) = 160000000 + 25000 * (k : Int) + busF k + 2 * senF J := IntWalk.i64_in _ (by omega)
      have e5 : (k : Int).tmod 16 = (J : Int) := by rw [Int.tmod_eq_emod_of_nonneg (by omega)]; omega
      have e5' : (k : Int) % 16 = (J : Int) := by omega
      have e6 : (k : Int).tmod 20 = (k : Int) := by rw [Int.tmod_eq_emod_of_nonneg (by omega)]; omega
      have e6' : (k : Int) % 20 = (k : Int) := by omega
      have HJ := Lib.hid hJ
      clear hJ
      have hk20 : (k : Int) < 20 := by omega
      obtain ⟨wo, rfl⟩ : ∃ wo : World, wo = wr := ⟨_, rfl⟩
      go_wp2_with fail
      go_quiet ((go_at_call 44; exact Calls.quiet_of_same (he11.out _)))
      clear e0 e1 e2 e3 e4 e5 e5' e6 e6'
      have hkm : k + 1 ≤ maxLen := by unfold maxLen; omega
      have hkb : (k + 1) * 8 ≤ 140737488355328 := by omega
      have Q1' : Hid ((wo.drewN nq).ownsRow w1.heap.size 2 1 u2 k (ncells ((nums 20 radF).take k))) := Lib.hid (own_below Q1.out (below_drewN (Below.refl wo.heap.size wo) nq))
      have Q2' := Lib.hid (below_drewN Q2.out nq)
      generalize wo.drewN nq = wq at *
      have hz : w1.heap.size ≤ wq.heap.size := Q2'.out.size
      clear Q1 Q2 c1
      rcases (show k = 0 ∨ k = 19 ∨ (k ≠ 0 ∧ k ≠ 19) by omega) with h0 | h0 | ⟨h0, h1⟩
      · have d0 : ((k : Int) == 0) = true := beq_iff_eq.2 (by omega)
        have d1 : ((k : Int) == 19) = false := beq_eq_false_iff_ne.2 (by omega)
        have H0 := Lib.hid h0
        clear h0
        have HV : Hid (radF k = 160000000 + 25000 * (k : Int) + busF k + 2 * senF J - 2320) := Lib.hid (by have hj : J = 0 := (by have := HJ.out; have := H0.out; omega); rw [HR12.out, if_pos H0.out, H0.out, hj]; simp)
        go_wp2_with (refine wpList_append_lies _ (by rfl) (.tmp 34) (.tmp 36) 68 (by rfl) w1.heap.size 2 iw _ 1 8 Tryd.underlying68 hi hz0 hz1 hz2 rfl (by omega) u2 k (ncells ((nums 20 radF).take k)) (by rfl) (Q1'.out.alloc _) ⟨wq.heap.size, 0, none⟩ 1 1 [.int .i64 (160000000 + 25000 * (k : Int) + busF k + 2 * senF J - 2320)] (by rfl) (by rfl) (World.news_of_block (cs := #[.int .i64 (160000000 + 25000 * (k : Int) + busF k + 2 * senF J - 2320)]) (t := 2) (fr := (0, 0)) (heap_alloc_new wq _)) (by simp [Value.oneCell']) (by omega) hkm hkb (by simp; omega) (wq.heap.size + 1) (by simp) ?_)
        intro gg cap1 w2 hown1 hgrow hat hlt1
        have T1 := Lib.hid hown1
        have T2 := Lib.hid ((Q2'.out.alloc hz (.cells #[.int .i64 (160000000 + 25000 * (k : Int) + busF k + 2 * senF J - 2320)] 2 (0, 0))).grown hgrow (by simp; omega) (fun kk hk' => (Q1'.out.lt kk hk').1))
        clear hown1 hgrow hat hlt1
        go_wp2_with fail
        go_roundg (20 - (k + 1))
        case measure => rw [HR.out]; omega
        case rel => exact ⟨k + 1, by omega, rfl, by go_num, Lib.hid ⟨by rw [ncells_take 20 radF k hlt, HV.out]; exact T1.out, T2.out⟩⟩
      · have d0 : ((k : Int) == 0) = false := beq_eq_false_iff_ne.2 (by omega)
        have d1 : ((k : Int) == 19) = true := beq_iff_eq.2 (by omega)
        have H0 := Lib.hid h0
        clear h0
        have HV : Hid (radF k = 160000000 + 25000 * (k : Int) + busF k + 2 * senF J - 30640) := Lib.hid (by have hj : J = 3 := (by have := HJ.out; have := H0.out; omega); rw [HR12.out, if_neg (by have := H0.out; omega), if_pos H0.out, H0.out, hj]; simp)
        go_wp2_with (refine wpList_append_lies _ (by rfl) (.tmp 34) (.tmp 36) 68 (by rfl) w1.heap.size 2 iw _ 1 8 Tryd.underlying68 hi hz0 hz1 hz2 rfl (by omega) u2 k (ncells ((nums 20 radF).take k)) (by rfl) (Q1'.out.alloc _) ⟨wq.heap.size, 0, none⟩ 1 1 [.int .i64 (160000000 + 25000 * (k : Int) + busF k + 2 * senF J - 30640)] (by rfl) (by rfl) (World.news_of_block (cs := #[.int .i64 (160000000 + 25000 * (k : Int) + busF k + 2 * senF J - 30640)]) (t := 2) (fr := (0, 0)) (heap_alloc_new wq _)) (by simp [Value.oneCell']) (by omega) hkm hkb (by simp; omega) (wq.heap.size + 1) (by simp) ?_)
        intro gg cap1 w2 hown1 hgrow hat hlt1
        have T1 := Lib.hid hown1
        have T2 := Lib.hid ((Q2'.out.alloc hz (.cells #[.int .i64 (160000000 + 25000 * (k : Int) + busF k + 2 * senF J - 30640)] 2 (0, 0))).grown hgrow (by simp; omega) (fun kk hk' => (Q1'.out.lt kk hk').1))
        clear hown1 hgrow hat hlt1
        go_wp2_with fail
        go_roundg (20 - (k + 1))
        case measure => rw [HR.out]; omega
        case rel => exact ⟨k + 1, by omega, rfl, by go_num, Lib.hid ⟨by rw [ncells_take 20 radF k hlt, HV.out]; exact T1.out, T2.out⟩⟩
      · have d0 : ((k : Int) == 0) = false := beq_eq_false_iff_ne.2 (by omega)
        have d1 : ((k : Int) == 19) = false := beq_eq_false_iff_ne.2 (by omega)
        have H0 := Lib.hid (And.intro h0 h1)
        clear h0 h1
        have HV : Hid (radF k = 160000000 + 25000 * (k : Int) + busF k + 2 * senF J) := Lib.hid (by rw [HR12.out, if_neg H0.out.1, if_neg H0.out.2])
        go_wp2_with (refine wpList_append_lies _ (by rfl) (.tmp 34) (.tmp 36) 68 (by rfl) w1.heap.size 2 iw _ 1 8 Tryd.underlying68 hi hz0 hz1 hz2 rfl (by omega) u2 k (ncells ((nums 20 radF).take k)) (by rfl) (Q1'.out.alloc _) ⟨wq.heap.size, 0, none⟩ 1 1 [.int .i64 (160000000 + 25000 * (k : Int) + busF k + 2 * senF J)] (by rfl) (by rfl) (World.news_of_block (cs := #[.int .i64 (160000000 + 25000 * (k : Int) + busF k + 2 * senF J)]) (t := 2) (fr := (0, 0)) (heap_alloc_new wq _)) (by simp [Value.oneCell']) (by omega) hkm hkb (by simp; omega) (wq.heap.size + 1) (by simp) ?_)
        intro gg cap1 w2 hown1 hgrow hat hlt1
        have T1 := Lib.hid hown1
        have T2 := Lib.hid ((Q2'.out.alloc hz (.cells #[.int .i64 (160000000 + 25000 * (k : Int) + busF k + 2 * senF J)] 2 (0, 0))).grown hgrow (by simp; omega) (fun kk hk' => (Q1'.out.lt kk hk').1))
        clear hown1 hgrow hat hlt1
        go_wp2_with fail
        go_roundg (20 - (k + 1))
        case measure => rw [HR.out]; omega
        case rel => exact ⟨k + 1, by omega, rfl, by go_num, Lib.hid ⟨by rw [ncells_take 20 radF k hlt, HV.out]; exact T1.out, T2.out⟩⟩
    · obtain rfl : k = 20 := by omega
      rw [ncells_all] at Q1
      obtain ⟨g, c, rfl, _, _⟩ := Q1.out.form (by omega)
      have hw1 := HB.out.size
      go_wp2_with fail
      go_ret
      exact ⟨g, c, rfl, own_mono Q1.out hw1, HB.out.trans (Q2.out.mono hw1)⟩
theorem rad_num : ∀ k, k < 20 → radF k = nth radioL k := by decide +kernel
theorem refHertz_in (k : Nat) (w : World) (hk : k < 20) :
    Calls Tryd.prog 19 #[.int .i64 k] w fun e w' => e = .returned (.tuple #[.int .i64 (nth radioL k), .int .i64 0]) ∧ Below w.heap.size w w' := by
  have hr := Lib.hid (rad_num k hk)
  have d0 : decide ((k : Int) ≥ 20) = false := decide_eq_false (by omega)
  go_enter Tryd.func19, Tryd.ntmps19
  go_wp2_with fail
  refine (n12 w).mono ?_
  rintro e w1 ⟨g, c, rfl, hown, hb⟩
  have c0 := ncell_at hown k hk
  have HB := Lib.hid hb
  have hk20 : (k : Int) < 20 := by omega
  clear hown hb
  go_wp2_with fail
  go_ret2
  exact ⟨by rw [← hr.out]; rfl, HB.out⟩
theorem refHertz_out (i : Int) (w : World) (hk : i < 0 ∨ 20 ≤ i) :
    Calls Tryd.prog 19 #[.int .i64 i] w fun e w' => e = .returned (.tuple #[.int .i64 0, .int .i64 1]) ∧ Below w.heap.size w w' := by
  rcases hk with h | h
  · go_enter Tryd.func19, Tryd.ntmps19
    go_wp2_with fail
    go_ret2
    exact ⟨rfl, Below.refl _ _⟩
  · have h' : ¬ i < 0 := by omega
    have d0 : decide (i ≥ 20) = true := decide_eq_true (by omega)
    go_enter Tryd.func19, Tryd.ntmps19
    go_wp2_with fail
    go_ret2
    exact ⟨rfl, Below.refl _ _⟩
/-- How far apart. -/
def aw (a b : Int) : Int := max a b - min a b
theorem refAway (a b : Int) (w : World) (h0 : 0 ≤ a) (h1 : 0 ≤ b) (h2 : a ≤ 9223372036854775807) (h3 : b ≤ 9223372036854775807) :
    Calls Tryd.prog 36 #[.int .i64 a, .int .i64 b] w fun e w' => e = .returned (.int .i64 (aw a b)) ∧ w' = w := by
  unfold aw
  by_cases h : a < b
  · go_enter Tryd.func36, Tryd.ntmps36
    go_wp2
    go_ret
    exact ⟨ret_int (by omega), rfl⟩
  · go_enter Tryd.func36, Tryd.ntmps36
    go_wp2
    go_ret
    exact ⟨ret_int (by omega), rfl⟩
theorem near1 (k : Nat) (b : Nat) (v : Int) (w : World) (hk : k < 20) (hT : radioAt w) (hv0 : 0 ≤ v) (hv1 : v ≤ 9223372036854775807) (hb : w.cell? ⟨b, 0, none⟩ = some (.int .i64 v)) :
    Calls Tryd.prog 35 #[.int .i64 k, .pointer (some ⟨b, 0, none⟩)] w fun e w' => e = .returned (.int .i64 (aw (nth radioL k) v)) ∧ ∃ n, w' = w.drewN n := by
  obtain ⟨ht0, ht1⟩ := radio_bd k hk
  have hc := hT.cell k hk
  unfold aw
  have hk20 : (k : Int) < 20 := by omega
  generalize nth radioL k = t at *
  go_enter Tryd.func35, Tryd.ntmps35
  go_wp2
  go_quiet (fail)
  go_wp2
  all_goals
    go_ret
    exact ⟨ret_int (by omega), _, rfl⟩
/-- The place that is found after k rounds. -/
def nearTo (v : Int) : Nat → Nat
  | 0 => 0
  | k + 1 => if aw (nth radioL k) v < aw (nth radioL (nearTo v k)) v then k else nearTo v k
theorem nearTo_lt (v : Int) : ∀ k, k ≤ 20 → nearTo v k < 20
  | 0, _ => by simp [nearTo]
  | k + 1, h => by have := nearTo_lt v k (by omega); simp only [nearTo]; split <;> omega
theorem near_arg (v : Int) (w : World) (hv : v < 0) :
    Calls Tryd.prog 20 #[.int .i64 v] w fun e w' => e = .returned (.tuple #[.int .i64 0, .int .i64 1]) ∧ Below w.heap.size w w' := by
  go_enter Tryd.func20, Tryd.ntmps20
  go_wp2
  go_ret2
  exact ⟨rfl, (Below.refl _ _).alloc (Nat.le_refl _) _⟩
set_option maxHeartbeats 1000000 in
theorem near_ok (v : Int) (w : World) (hT : radioAt w) (hv0 : 0 ≤ v) (hv1 : v ≤ 9223372036854775807) :
    Calls Tryd.prog 20 #[.int .i64 v] w fun e w' => e = .returned (.tuple #[.int .i64 (nearTo v 20), .int .i64 0]) ∧ Below w.heap.size w w' := by
  have a1 : ¬ v < 0 := by omega
  have HT := Lib.hid hT
  clear hT
  go_enter Tryd.func20, Tryd.ntmps20
  go_wp2
  go_loopw [5, 10] (fun at' i wr => ∃ k n : Nat, k ≤ 20 ∧ i = .int .i64 k ∧ at' = .int .i64 (nearTo v k) ∧ wr = (w.alloc (.cells #[.int .i64 v] 2)).drewN n) (fun _ i _ => 20 - (intOf i).toNat)
  case atStart => exact ⟨0, 0, by omega, rfl, rfl, rfl⟩
  case round =>
    obtain ⟨k, n, hk, rfl, rfl, rfl⟩ := hrel
    have hTn : Hid (∀ n, radioAt ((w.alloc (.cells #[.int .i64 v] 2)).drewN n)) := Lib.hid (fun n => HT.out.grown (below_drewN ((Below.refl w.heap.size w).alloc (Nat.le_refl _) (.cells #[.int .i64 v] 2)) n))
    have hcell : ((w.alloc (.cells #[.int .i64 v] 2)).drewN n).cell? ⟨w.heap.size, 0, none⟩ = some (.int .i64 v) := by simp [go_sem]
    by_cases hlt : k < 20
    · have hn := nearTo_lt v k hk
      have HC : Hid (nearTo v (k + 1) = if aw (nth radioL k) v < aw (nth radioL (nearTo v k)) v then k else nearTo v k) := rfl
      generalize nearTo v k = q at *
      go_wp2_with fail
      refine (near1 k _ v _ hlt (hTn.out n) hv0 hv1 hcell).mono ?_
      rintro e w1 ⟨rfl, n1, rfl⟩
      go_wp2_with fail
      refine (near1 q w.heap.size v ((w.alloc (.cells #[.int .i64 v] 2)).drewN (n + n1)) hn (hTn.out _) hv0 hv1 (by simp [go_sem])).mono ?_
      rintro e w1 ⟨rfl, n2, rfl⟩
      generalize aw (nth radioL k) v = A1 at *
      generalize aw (nth radioL q) v = A2 at *
      by_cases hc : A1 < A2
      · have HS : Hid (nearTo v (k + 1) = k) := by unfold Hid; rw [HC.out, if_pos hc]
        go_wp2
        go_roundw
        case rel => exact ⟨k + 1, n + n1 + n2, by omega, by go_num, by rw [HS.out], rfl⟩
        case measure => simp [intOf]; omega
      · have HS : Hid (nearTo v (k + 1) = q) := by unfold Hid; rw [HC.out, if_neg hc]
        go_wp2
        go_roundw
        case rel => exact ⟨k + 1, n + n1 + n2, by omega, by go_num, by rw [HS.out], rfl⟩
        case measure => simp [intOf]; omega
    · obtain rfl : k = 20 := by omega
      go_wp2
      go_ret2
      exact ⟨rfl, below_drewN ((Below.refl _ _).alloc (Nat.le_refl _) _) n⟩
theorem refNear_arg (v : Int) (w : World) (hv : v < 0) :
    Calls Tryd.prog 21 #[.int .i64 v] w fun e w' => e = .returned (.tuple #[.int .i64 0, .int .i64 1]) ∧ Below w.heap.size w w' := by
  go_enter Tryd.func21, Tryd.ntmps21
  go_wp2
  go_ret2
  exact ⟨rfl, Below.refl _ _⟩
set_option maxHeartbeats 2000000 in
set_option maxRecDepth 100000 in
theorem refNear_ok (v : Int) (w : World) (hv0 : 0 ≤ v) (hv1 : v ≤ 9223372036854775807) :
    Calls Tryd.prog 21 #[.int .i64 v] w fun e w' => e = .returned (.tuple #[.int .i64 (nearTo v 20), .int .i64 0]) ∧ Below w.heap.size w w' := by
  have a1 : ¬ v < 0 := by omega
  go_enter Tryd.func21, Tryd.ntmps21
  go_wp2_with fail
  refine (n12 w).mono ?_
  rintro e w1 ⟨g, c, rfl, hown, hb⟩
  have HO := Lib.hid hown
  have HB := Lib.hid hb
  clear hown hb
  go_wp2_with fail
  go_loopw [5, 6] (fun at' i wr => ∃ k n : Nat, 1 ≤ k ∧ k ≤ 20 ∧ i = .int .i64 k ∧ at' = .int .i64 (nearTo v k) ∧ wr = w1.drewN n) (fun _ i _ => 20 - (intOf i).toNat)
  case atStart => exact ⟨1, 0, by omega, by omega, rfl, by simp [nearTo], rfl⟩
  case round =>
    obtain ⟨k, n, hk1, hk, rfl, rfl, rfl⟩ := hrel
    by_cases hlt : k < 20
    · have hn := nearTo_lt v k hk
      have HC : Hid (nearTo v (k + 1) = if aw (nth radioL k) v < aw (nth radioL (nearTo v k)) v then k else nearTo v k) := rfl
      generalize nearTo v k = q at *
      have c1 := ncell_at HO.out k hlt
      have c2 := ncell_at HO.out q hn
      rw [rad_num k hlt] at c1
      rw [rad_num q hn] at c2
      obtain ⟨p0, p1⟩ := radio_bd k hlt
      obtain ⟨q0, q1⟩ := radio_bd q hn
      have hk20 : (k : Int) < 20 := by omega
      have hq20 : (q : Int) < 20 := by omega
      generalize nth radioL k = t1 at *
      generalize nth radioL q = t2 at *
      have p2 : t1 ≤ 9223372036854775807 := by omega
      have q2 : t2 ≤ 9223372036854775807 := by omega
      go_wp2_with fail
      go_quiet ((go_at_call 36; exact quiet_at (refAway _ _ _ (by assumption) hv0 (by assumption) hv1)))
      generalize aw t1 v = z1 at *
      generalize aw t2 v = z2 at *
      by_cases hc : z1 < z2
      · have HS : Hid (nearTo v (k + 1) = k) := by unfold Hid; rw [HC.out, if_pos hc]
        go_wp2_with fail
        go_roundw
        case rel => exact ⟨k + 1, _, by omega, by omega, by go_num, by rw [HS.out], rfl⟩
        case measure => simp [intOf]; omega
      · have HS : Hid (nearTo v (k + 1) = q) := by unfold Hid; rw [HC.out, if_neg hc]
        go_wp2_with fail
        go_roundw
        case rel => exact ⟨k + 1, _, by omega, by omega, by go_num, by rw [HS.out], rfl⟩
        case measure => simp [intOf]; omega
    · obtain rfl : k = 20 := by omega
      go_wp2_with fail
      go_ret2
      exact ⟨rfl, below_drewN HB.out n⟩
end Go.Proofs.YtlkkkohgeakfaaaDoor
