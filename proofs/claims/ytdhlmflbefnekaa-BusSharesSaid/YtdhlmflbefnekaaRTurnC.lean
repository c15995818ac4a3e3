/- The document's Turns: what it returns. -/
import Derived.Test.YtdhlmflbefnekaaRShareC
import Derived.RegionTactic
namespace Go.Proofs.Ytdhlmflbefnekaa
open Go.RowKit Go.ChangeShapes
set_option maxHeartbeats 4000000 in
set_option maxRecDepth 100000 in
theorem rturns_ok (v : Value) (zs : List Int) (n : Nat) (w : World) (hv : Ints .i64 w v zs) (hlen : zs.length ≤ 64) (hok : okW zs = true) (hn : n ≤ 4096) :
    Calls Try.prog 7 #[v, .int .i64 n] w fun e w' => ∃ u, e = .returned (.tuple #[u, .int .i64 0]) ∧ w'.ownsRow w.heap.size 3 1 u n (rc (turnsV zs n)) ∧ Below w.heap.size w w' := by
  obtain ⟨hr1, hs0, hs1⟩ := okW_parts hok
  have hL : ∀ i, i < zs.length → 0 ≤ nth zs i := fun i hi => (hr1 i hi).1
  have hpos := some_one hs0
  have HW := rwhole_any v zs w hv
  rw [wholeV_ok hlen hok] at HW
  have HLO := Lib.hid (fun k i (hi : i < zs.length) => credits_low hs0 hL k i hi)
  have HHI := Lib.hid (fun k i (hi : i < zs.length) => credits_high hs0 hL k i hi)
  have HT := Lib.hid (fun k => turn_lt hs0 k)
  have HZ := Lib.hid hr1
  obtain ⟨a, cap, rfl, hm, _, hc⟩ := hv
  have HC := Lib.hid hc
  obtain ⟨iw, hi, hz0, hz1, hz2⟩ := info_parts infoI64
  obtain ⟨iv, hj, hy0, hy1, hy2⟩ := info_parts infoInt'
  clear hc hm hL hr1
  obtain ⟨A, hA⟩ : ∃ A, A = zs.sum := ⟨_, rfl⟩
  rw [← hA] at hs0 hs1 HW
  have HW := Lib.hid HW
  have HA := Lib.hid hA
  have HBD : Hid ((zs.length : Int) * A ≤ 72057594037927936) := Lib.hid (by
    have h1 : (zs.length : Int) * A ≤ 64 * A := Int.mul_le_mul_of_nonneg_right (by omega) (by omega)
    omega)
  have HOK := Lib.hid hok
  clear hA hok
  have n1 : ¬ (n : Int) < 0 := by omega
  have n2 : decide ((n : Int) > 4096) = false := by simp; omega
  have n3 : (A == 0) = false := beq_eq_false_iff_ne.2 (by omega)
  have n4 : decide ((n : Int) < 0) = false := by simp
  go_enter Try.func7, Try.ntmps7
  go_wp2_with fail
  refine HW.out.mono ?_
  rintro e w' ⟨rfl, rfl⟩
  obtain ⟨x, hxA⟩ : ∃ x, x = A := ⟨_, rfl⟩
  subst hxA
  go_wp2_with (refine wpList_make_full _ (by rfl) (.tmp 25) (.tmp 25) 22 (by rfl) w.heap.size 2 iw _ 1 Try.underlying22 hi hz0 hz1 .i64 .i64 _ _ zs.length (by rfl) (by rfl) (by rfl) (by rfl) (by rw [hz2]; omega) (by unfold maxLen; omega) (Nat.le_refl _) ?_)
  intro w1 hown hgrow
  rw [made_zero] at hown
  have O1 := Lib.hid hown
  have B1 := Lib.hid ((Below.refl w.heap.size w).grown hgrow (Nat.le_refl _) (fun k hk => by cases hk))
  clear hown hgrow
  obtain ⟨gc, hgc⟩ : ∃ gc, gc = w.heap.size := ⟨_, rfl⟩
  rw [← hgc]
  have O1' : Hid (w1.ownsRow w.heap.size 2 1 (.slice (some ⟨gc, 0, none⟩) zs.length zs.length) zs.length (rc (credits zs 0))) := Lib.hid (by rw [hgc]; exact O1.out)
  clear O1
  have HG := Lib.hid hgc
  clear hgc
  go_wp2_with fail
  go_loopg [8, 9] n (fun r vo vi wr => ∃ k : Nat, k ≤ n ∧ r = n - k ∧ vi = .int .i64 k ∧ Hid (wr.ownsRow w.heap.size 3 1 vo k (rc (turnsV zs k)) ∧ wr.ownsRow w.heap.size 2 1 (.slice (some ⟨gc, 0, none⟩) zs.length zs.length) zs.length (rc (credits zs k)) ∧ Below w.heap.size w wr))
  case atStart => exact ⟨0, by omega, by omega, rfl, Lib.hid ⟨World.ownsRow_nil _ _ _ _, O1'.out, B1.out⟩⟩
  case round =>
    clear O1' B1
    obtain ⟨k, hk, hr, rfl, hq⟩ := hrel
    have HR := Lib.hid hr
    clear hr
    by_cases hlt : k < n
    · have Q1 := Lib.hid hq.out.1
      have Q2 := Lib.hid hq.out.2.1
      have Q3 := Lib.hid hq.out.2.2
      clear hq
      have LOk := Lib.hid (HLO.out k)
      have HIk := Lib.hid (HHI.out k)
      have GL : Hid ((grown zs k).length = (credits zs k).length) := Lib.hid (by rw [grown_len, credits_len])
      have CL := Lib.hid (credits_len zs k)
      have GA := Lib.hid (grown_at zs k)
      obtain ⟨vo, hvo⟩ : ∃ vo, vo = u8 := ⟨_, rfl⟩
      obtain ⟨wk, hwk⟩ : ∃ wk, wk = wr := ⟨_, rfl⟩
      subst hvo hwk
      go_wp2_with fail
      go_loopg [10, 11] zs.length (fun r vb vi wr => ∃ i : Nat, i ≤ zs.length ∧ r = zs.length - i ∧ vi = .int .i64 i ∧ vb = .int .i64 (bestTo (grown zs k) i : Nat) ∧ Hid (wr.ownsRow w.heap.size 3 1 vo k (rc (turnsV zs k)) ∧ wr.ownsRow w.heap.size 2 1 (.slice (some ⟨gc, 0, none⟩) zs.length zs.length) zs.length (rc (mix (credits zs k) (grown zs k) i)) ∧ Below w.heap.size w wr))
      case atStart => exact ⟨0, by omega, by omega, rfl, rfl, Lib.hid ⟨Q1.out, by rw [mix_zero]; exact Q2.out, Q3.out⟩⟩
      case round =>
        clear Q1 Q2 Q3
        obtain ⟨i, hi', hr, rfl, rfl, hq⟩ := hrel
        have HR2 := Lib.hid hr
        have P1 := Lib.hid hq.out.1
        have P2 := Lib.hid hq.out.2.1
        have P3 := Lib.hid hq.out.2.2
        clear hr hq
        have hne : Hid (vo.ownBlock ≠ some gc) := Lib.hid (by
          rcases own_ne P1.out P2.out (by decide) with h | h
          · rw [h]; simp
          · exact h)
        have hgc : w.heap.size ≤ gc ∧ gc < wr.heap.size := P2.out.lt gc rfl
        by_cases hlt2 : i < zs.length
        · obtain ⟨b, off, hp, g⟩ := HC.out i hlt2
          subst hp
          have hbz : b < w.heap.size := World.block_lt_of_cell? w _ g
          have g1 : wr.cell? ⟨b, off + i, none⟩ = some (.int .i64 (nth zs i)) := (P3.out.cell (p := ⟨b, off + i, none⟩) hbz).trans g
          have c1 : wr.cell? ⟨gc, i, none⟩ = some (.int .i64 (nth (mix (credits zs k) (grown zs k) i) i)) := rc_at P2.out (by rw [mix_len _ _ GL.out i (by rw [CL.out]; omega), CL.out]) i hlt2
          have f1 : wr.frozen? ⟨gc, i, none⟩ = false := P2.out.frozenAt i
          have e1 : nth (mix (credits zs k) (grown zs k) i) i = nth (credits zs k) i := by rw [mix_at _ _ GL.out i i (by rw [CL.out]; omega), if_neg (by omega)]
          rw [e1] at c1
          have x0 := LOk.out i hlt2
          have x1 := HIk.out i hlt2
          have z0 := HZ.out i hlt2
          have eY : nth (credits zs k) i + nth zs i = nth (grown zs k) i := (GA.out i).symm
          have hbd := HBD.out
          rw [← HA.out] at x0 x1
          have S2 : Hid ((wr.setCell ⟨gc, i, none⟩ (.int .i64 (nth (grown zs k) i))).ownsRow w.heap.size 2 1 (.slice (some ⟨gc, 0, none⟩) zs.length zs.length) zs.length (rc (mix (credits zs k) (grown zs k) (i + 1)))) := Lib.hid (by
            have := (P2.out.stored i (.int .i64 (nth (grown zs k) i))).1
            rw [rc_set, mix_set _ _ GL.out i (by rw [CL.out]; exact hlt2)] at this
            exact this)
          have S1 := Lib.hid (ownsRow_setCell_other P1.out (a := ⟨gc, i, none⟩) hne.out (.int .i64 (nth (grown zs k) i)))
          have S3 := Lib.hid (P3.out.setCell (p := ⟨gc, i, none⟩) hgc.1 (.int .i64 (nth (grown zs k) i)))
          have hbi : bestTo (grown zs k) i ≤ i := bestTo_idx _ _
          have hb2 : bestTo (grown zs k) i < zs.length := by omega
          have c2 : (wr.setCell ⟨gc, i, none⟩ (.int .i64 (nth (grown zs k) i))).cell? ⟨gc, i, none⟩ = some (.int .i64 (nth (grown zs k) i)) := by
            have := rc_at S2.out (by rw [mix_len _ _ GL.out _ (by rw [CL.out]; omega), CL.out]) i hlt2
            rwa [mix_at _ _ GL.out _ _ (by rw [CL.out]; omega), if_pos (by omega)] at this
          have c3 : (wr.setCell ⟨gc, i, none⟩ (.int .i64 (nth (grown zs k) i))).cell? ⟨gc, bestTo (grown zs k) i, none⟩ = some (.int .i64 (nth (grown zs k) (bestTo (grown zs k) i))) := by
            have := rc_at S2.out (by rw [mix_len _ _ GL.out _ (by rw [CL.out]; omega), CL.out]) _ hb2
            rwa [mix_at _ _ GL.out _ _ (by rw [CL.out]; omega), if_pos (by omega)] at this
          have BS : Hid (bestTo (grown zs k) (i + 1) = if nth (grown zs k) (bestTo (grown zs k) i) < nth (grown zs k) i then i else bestTo (grown zs k) i) := Lib.hid rfl
          clear P1 P2 P3 e1 hbz
          generalize hX : nth (credits zs k) i = X at *
          generalize hZ : nth zs i = Z at *
          generalize hY : nth (grown zs k) i = Y at *
          generalize hbj : bestTo (grown zs k) i = bj at *
          generalize hV : nth (grown zs k) bj = V at *
          have x2 : X ≤ 72057594037927936 := by omega
          clear hX hZ hY hbj hV x1 hbd
          go_wp2_with fail
          go_region
          generalize wr.setCell ⟨gc, i, none⟩ (.int .i64 Y) = w1' at *
          have S1 := Lib.hid S1.out.drew
          have S2 := Lib.hid S2.out.drew
          have S3 := Lib.hid S3.out.drew
          have c2 : w1'.drew.cell? ⟨gc, i, none⟩ = some (.int .i64 Y) := c2
          have c3 : w1'.drew.cell? ⟨gc, bj, none⟩ = some (.int .i64 V) := c3
          generalize w1'.drew = w2 at *
          go_wp2_with fail
          by_cases hgt : V < Y
          · have hgt' : Y > V := hgt
            have BS2 : Hid (bestTo (grown zs k) (i + 1) = i) := Lib.hid (by rw [BS.out, if_pos hgt])
            clear BS
            go_quiet (fail)
            go_wp2_with fail
            go_roundg (zs.length - (i + 1))
            case measure => rw [HR2.out]; omega
            case rel => exact ⟨i + 1, by omega, rfl, by first | rfl | simp, by rw [BS2.out], Lib.hid ⟨own_below S1.out (below_drewN (Below.refl _ _) _), own_below S2.out (below_drewN (Below.refl _ _) _), below_drewN S3.out _⟩⟩
          · have hgt' : ¬ Y > V := hgt
            have BS2 : Hid (bestTo (grown zs k) (i + 1) = bj) := Lib.hid (by rw [BS.out, if_neg hgt])
            clear BS
            go_quiet (fail)
            go_wp2_with fail
            go_roundg (zs.length - (i + 1))
            case measure => rw [HR2.out]; omega
            case rel => exact ⟨i + 1, by omega, rfl, by first | rfl | simp, by rw [BS2.out], Lib.hid ⟨own_below S1.out (below_drewN (Below.refl _ _) _), own_below S2.out (below_drewN (Below.refl _ _) _), below_drewN S3.out _⟩⟩
        · obtain rfl : i = zs.length := by omega
          obtain ⟨T, hT⟩ : ∃ T, T = turn zs k := ⟨_, rfl⟩
          have hTl : T < zs.length := by rw [hT]; exact HT.out k
          have eT : bestTo (grown zs k) zs.length = T := hT.symm
          rw [eT]
          have eM : mix (credits zs k) (grown zs k) zs.length = grown zs k := by rw [← CL.out]; exact mix_all _ _ GL.out
          rw [eM] at P2
          have c1 : wr.cell? ⟨gc, T, none⟩ = some (.int .i64 (nth (grown zs k) T)) := rc_at P2.out (grown_len zs k) T hTl
          have f1 : wr.frozen? ⟨gc, T, none⟩ = false := P2.out.frozenAt T
          have x0 := LOk.out T hTl
          have x1 := HIk.out T hTl
          have z0 := HZ.out T hTl
          have eY := GA.out T
          have hbd := HBD.out
          rw [← HA.out] at x0 x1
          have CS : Hid (credits zs (k + 1) = (grown zs k).set T (nth (grown zs k) T - x)) := Lib.hid (by rw [credits_succ, ← hT, HA.out])
          have TS : Hid (turnsV zs (k + 1) = turnsV zs k ++ [(T : Int)]) := Lib.hid (by rw [turnsV_succ, ← hT])
          have S2 : Hid ((wr.setCell ⟨gc, T, none⟩ (.int .i64 (nth (grown zs k) T - x))).ownsRow w.heap.size 2 1 (.slice (some ⟨gc, 0, none⟩) zs.length zs.length) zs.length (rc (credits zs (k + 1)))) := Lib.hid (by
            have := (P2.out.stored T (.int .i64 (nth (grown zs k) T - x))).1
            rw [rc_set, ← CS.out] at this
            exact this)
          have S1 := Lib.hid (ownsRow_setCell_other P1.out (a := ⟨gc, T, none⟩) hne.out (.int .i64 (nth (grown zs k) T - x)))
          have S3 := Lib.hid (P3.out.setCell (p := ⟨gc, T, none⟩) hgc.1 (.int .i64 (nth (grown zs k) T - x)))
          clear P1 P2 P3 CS eM
          generalize nth (credits zs k) T = X at *
          generalize nth zs T = Z at *
          generalize nth (grown zs k) T = Y at *
          have x2 : X ≤ 72057594037927936 := by omega
          have y1 : Y - x ≤ 144115188075855872 := by omega
          have y2 : -144115188075855872 ≤ Y - x := by omega
          have HTT := Lib.hid hT
          clear hT eT eY x0 x1 x2 z0 hbd
          go_upto_region 17 with fail
          generalize wr.setCell ⟨gc, T, none⟩ (.int .i64 (Y - x)) = w2 at *
          have hz : w.heap.size ≤ w2.heap.size := S3.out.size
          have hkm : k + 1 ≤ maxLen := by unfold maxLen; omega
          have hkb : (k + 1) * 8 ≤ 140737488355328 := by omega
          go_wp2_with (refine wpList_append_lies _ (by rfl) (.tmp 69) (.tmp 71) 26 (by rfl) w.heap.size 3 iv _ 1 8 Try.underlying26 hj hy0 hy1 hy2 rfl (by omega) vo k (rc (turnsV zs k)) (by rfl) (S1.out.alloc _) ⟨w2.heap.size, 0, none⟩ 1 1 [.int .i64 (T : Int)] (by rfl) (by rfl) (World.news_of_block (cs := #[.int .i64 (T : Int)]) (t := 3) (fr := (0, 0)) (heap_alloc_new w2 _)) (by simp [Value.oneCell']) (by omega) hkm hkb (by simp; omega) (w2.heap.size + 1) (by simp) ?_)
          intro gg cap1 w3 hown1 hgrow hat hlt1
          have T1 : Hid (w3.ownsRow w.heap.size 3 1 (.slice (some ⟨gg, 0, none⟩) (k + 1) cap1) (k + 1) (rc (turnsV zs (k + 1)))) := Lib.hid (by rw [TS.out]; simpa [rc] using hown1)
          have T2 := Lib.hid ((S3.out.alloc hz (.cells #[.int .i64 (T : Int)] 3 (0, 0))).grown hgrow (by simp; omega) (fun kk hk' => (S1.out.lt kk hk').1))
          have T3 := Lib.hid ((S2.out.alloc (.cells #[.int .i64 (T : Int)] 3 (0, 0))).kept hgrow (.inr fun h => hne.out h.symm))
          clear hown1 hgrow hat hlt1 S1 S2 S3
          go_wp2_with fail
          go_roundg (n - (k + 1))
          case measure => rw [HR.out]; omega
          case rel => exact ⟨k + 1, by omega, rfl, by first | rfl | simp, Lib.hid ⟨T1.out, T3.out, T2.out⟩⟩
    · obtain rfl : k = n := by omega
      have Q1 := Lib.hid hq.out.1
      have Q3 := Lib.hid hq.out.2.2
      clear hq
      go_wp2_with fail
      go_ret2
      exact ⟨_, rfl, Q1.out, Q3.out⟩
/-- May turns be dealt? -/
def okT (zs : List Int) (n : Int) : Bool := decide (zs.length ≤ 64) && decide (0 ≤ n) && decide (n ≤ 4096) && okW zs
def resT (zs : List Int) (n : Int) : List Int := if okT zs n then turnsV zs n.toNat else []
def errT (zs : List Int) (n : Int) : Int := if okT zs n then 0 else 1
theorem okT_parts {n : Int} {zs : List Int} (h : okT zs n = true) : zs.length ≤ 64 ∧ 0 ≤ n ∧ n ≤ 4096 ∧ okW zs = true := by
  unfold okT at h
  simp only [Bool.and_eq_true, decide_eq_true_eq] at h
  exact ⟨h.1.1.1, h.1.1.2, h.1.2, h.2⟩
set_option maxHeartbeats 1000000 in
set_option maxRecDepth 100000 in
theorem rturns_no (v : Value) (zs : List Int) (n : Int) (w : World) (hv : Ints .i64 w v zs) (hno : okT zs n = false) :
    Calls Try.prog 7 #[v, .int .i64 n] w (Bad w) := by
  have HW := Lib.hid (rwhole_any v zs w hv)
  by_cases h2 : n < 0
  · have d3 : decide (n < 0) = true := decide_eq_true h2
    obtain ⟨A, hA⟩ : ∃ A, A = wholeV zs := ⟨_, rfl⟩
    rw [← hA] at HW
    clear hA
    go_enter Try.func7, Try.ntmps7
    go_wp2_with fail
    refine HW.out.mono ?_
    rintro e w' ⟨rfl, rfl⟩
    go_wp2_with fail
    go_ret2
    exact ⟨rfl, rfl⟩
  · have d3 : decide (n < 0) = false := decide_eq_false h2
    by_cases h3 : n > 4096
    · have d4 : decide (n > 4096) = true := decide_eq_true h3
      obtain ⟨A, hA⟩ : ∃ A, A = wholeV zs := ⟨_, rfl⟩
      rw [← hA] at HW
      clear hA
      go_enter Try.func7, Try.ntmps7
      go_wp2_with fail
      refine HW.out.mono ?_
      rintro e w' ⟨rfl, rfl⟩
      go_wp2_with fail
      go_ret2
      exact ⟨rfl, rfl⟩
    · have d4 : decide (n > 4096) = false := decide_eq_false h3
      have hz : wholeV zs = 0 := wholeV_zero (fun h => by
        have : okT zs n = true := by
          unfold okT
          simp only [Bool.and_eq_true, decide_eq_true_eq]
          exact ⟨⟨⟨h.1, by omega⟩, by omega⟩, h.2⟩
        rw [this] at hno
        cases hno)
      rw [hz] at HW
      clear hz hno
      go_enter Try.func7, Try.ntmps7
      go_wp2_with fail
      refine HW.out.mono ?_
      rintro e w' ⟨rfl, rfl⟩
      go_wp2_with fail
      go_ret2
      exact ⟨rfl, rfl⟩
set_option maxHeartbeats 1000000 in
set_option maxRecDepth 100000 in
theorem turns_no (v : Value) (zs : List Int) (n : Int) (w : World) (hv : Ints .i64 w v zs) (hlen : zs.length ≤ 17592186044416) (hno : okT zs n = false) :
    Calls Try.prog 6 #[v, .int .i64 n] w (Bad w) := by
  have HV := Lib.hid hv
  obtain ⟨a, cap, rfl, _, _, _⟩ := hv
  by_cases h1 : 64 < zs.length
  · have d1 : decide ((zs.length : Int) > 64) = true := decide_eq_true (by omega)
    have d2 : (zs.length : Int) > 64 := by omega
    go_enter Try.func6, Try.ntmps6
    go_wp2_with fail
    go_ret2
    exact ⟨rfl, rfl⟩
  · have d1 : decide ((zs.length : Int) > 64) = false := decide_eq_false (by omega)
    have d2 : ¬ (zs.length : Int) > 64 := by omega
    by_cases h2 : n < 0
    · have d3 : decide (n < 0) = true := decide_eq_true h2
      go_enter Try.func6, Try.ntmps6
      go_wp2_with fail
      go_ret2
      exact ⟨rfl, rfl⟩
    · have d3 : decide (n < 0) = false := decide_eq_false h2
      by_cases h3 : n > 4096
      · have d4 : decide (n > 4096) = true := decide_eq_true h3
        go_enter Try.func6, Try.ntmps6
        go_wp2_with fail
        go_ret2
        exact ⟨rfl, rfl⟩
      · have d4 : decide (n > 4096) = false := decide_eq_false h3
        have hw : okW zs = false := by
          rw [← Bool.not_eq_true]
          intro h
          have : okT zs n = true := by
            unfold okT
            simp only [Bool.and_eq_true, decide_eq_true_eq]
            exact ⟨⟨⟨by omega, by omega⟩, by omega⟩, h⟩
          rw [this] at hno
          cases hno
        have HW := Lib.hid (whole_any _ zs w HV.out (by omega))
        have H0 := Lib.hid hw
        clear hw hno HV
        go_enter Try.func6, Try.ntmps6
        go_wp2_with fail
        refine HW.out.mono ?_
        rintro e w' ⟨⟨x, rfl, hx⟩, rfl⟩
        rw [H0.out]
        clear hx
        go_wp2_with fail
        go_ret2
        exact ⟨rfl, rfl⟩
theorem resT_ok {zs : List Int} {n : Nat} (h : okT zs n = true) : resT zs n = turnsV zs n ∧ errT zs n = 0 := by
  unfold resT errT
  rw [if_pos h, if_pos h]
  exact ⟨by simp, rfl⟩
theorem resT_no {zs : List Int} {n : Int} (h : okT zs n = false) : resT zs n = [] ∧ errT zs n = 1 := by
  unfold resT errT
  rw [h]
  exact ⟨rfl, rfl⟩
theorem turnsT_any (v : Value) (zs : List Int) (n : Int) (w : World) (hv : Ints .i64 w v zs) (hlen : zs.length ≤ 17592186044416) :
    Calls Try.prog 6 #[v, .int .i64 n] w fun e w' => ∃ u, e = .returned (.tuple #[u, .int .i64 (errT zs n)]) ∧ w'.ownsRow w.heap.size 3 1 u (resT zs n).length (rc (resT zs n)) ∧ Below w.heap.size w w' := by
  by_cases h : okT zs n = true
  · obtain ⟨h1, h2, h3, h4⟩ := okT_parts h
    obtain ⟨t, rfl⟩ : ∃ t : Nat, n = t := ⟨n.toNat, by omega⟩
    refine (turns_any v zs t w hv h1 h4 (by omega)).mono ?_
    rintro e w' ⟨u, he, ho, hb⟩
    rw [(resT_ok h).1, (resT_ok h).2, turnsV_len]
    exact ⟨u, he, ho, hb⟩
  · have h' : okT zs n = false := by simpa using h
    refine (turns_no v zs n w hv hlen h').mono ?_
    rintro e w' ⟨he, rfl⟩
    rw [(resT_no h').1, (resT_no h').2]
    exact ⟨_, he, World.ownsRow_nil _ _ _ _, Below.refl _ _⟩
theorem rturns_any (v : Value) (zs : List Int) (n : Int) (w : World) (hv : Ints .i64 w v zs) :
    Calls Try.prog 7 #[v, .int .i64 n] w fun e w' => ∃ u, e = .returned (.tuple #[u, .int .i64 (errT zs n)]) ∧ w'.ownsRow w.heap.size 3 1 u (resT zs n).length (rc (resT zs n)) ∧ Below w.heap.size w w' := by
  by_cases h : okT zs n = true
  · obtain ⟨h1, h2, h3, h4⟩ := okT_parts h
    obtain ⟨t, rfl⟩ : ∃ t : Nat, n = t := ⟨n.toNat, by omega⟩
    refine (rturns_ok v zs t w hv h1 h4 (by omega)).mono ?_
    rintro e w' ⟨u, he, ho, hb⟩
    rw [(resT_ok h).1, (resT_ok h).2, turnsV_len]
    exact ⟨u, he, ho, hb⟩
  · have h' : okT zs n = false := by simpa using h
    refine (rturns_no v zs n w hv h').mono ?_
    rintro e w' ⟨he, rfl⟩
    rw [(resT_no h').1, (resT_no h').2]
    exact ⟨_, he, World.ownsRow_nil _ _ _ _, Below.refl _ _⟩
theorem rshares_any (v : Value) (zs : List Int) (T : Int) (w : World) (hv : Ints .i64 w v zs) :
    Calls Try.prog 5 #[.int .i64 T, v] w fun e w' => ∃ u, e = .returned (.tuple #[u, .int .i64 (Sh.errS T zs)]) ∧ w'.ownsRow w.heap.size 2 1 u (Sh.resS T zs).length (rc (Sh.resS T zs)) ∧ Below w.heap.size w w' := by
  by_cases h : Sh.okS T zs = true
  · obtain ⟨h1, h2, h3, h4⟩ := okS_parts h
    obtain ⟨t, rfl⟩ : ∃ t : Nat, T = t := ⟨T.toNat, by omega⟩
    refine (rshares_ok v zs t w hv (by omega) h1 h4).mono ?_
    rintro e w' ⟨u, he, ho, hb⟩
    have e1 : Sh.resS (t : Int) zs = Sh.shs (Sh.qN t zs) (Sh.rN t zs) zs.length (Sh.lackN t zs) := by
      unfold Sh.resS
      rw [if_pos h]
      simp
    have e2 : Sh.errS (t : Int) zs = 0 := by unfold Sh.errS; rw [if_pos h]
    rw [e1, e2, Sh.shs_len]
    exact ⟨u, he, ho, hb⟩
  · have h' : Sh.okS T zs = false := by simpa using h
    refine (rshares_no v zs T w hv h').mono ?_
    rintro e w' ⟨he, rfl⟩
    have e1 : Sh.resS T zs = [] := by unfold Sh.resS; rw [if_neg h]
    have e2 : Sh.errS T zs = 1 := by unfold Sh.errS; rw [if_neg h]
    rw [e1, e2]
    exact ⟨_, he, World.ownsRow_nil _ _ _ _, Below.refl _ _⟩
end Go.Proofs.Ytdhlmflbefnekaa
