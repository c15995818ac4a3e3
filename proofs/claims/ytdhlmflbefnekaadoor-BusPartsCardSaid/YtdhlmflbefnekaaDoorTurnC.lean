/- whole and Turns: what they return. -/
import Derived.Test.YtdhlmflbefnekaaDoorTurnV
import Derived.Test.YtdhlmflbefnekaaDoorPairLib
import Derived.Deep.LoopGhost
import Derived.Deep.AppendLies
import Derived.Deep.DeepCutAuto
import Derived.Deep.RegionHeld3
import Derived.Deep.RegionWith
import Derived.OwnWalk
import Derived.Handy
import Derived.IntWalk
import Derived.Lib.Hide
import Derived.WalkSmall
namespace Go.Proofs.YtdhlmflbefnekaaDoor
open Go.RowKit Go.ChangeShapes
/-- The cells of numbers. -/
def rc (zs : List Int) : List Value := zs.map (Value.int .i64)
theorem rc_len (zs : List Int) : (rc zs).length = zs.length := by simp [rc]
theorem rc_set (zs : List Int) (k : Nat) (x : Int) : (rc zs).set k (.int .i64 x) = rc (zs.set k x) := by simp [rc, List.map_set]
theorem rc_one (zs : List Int) : ∀ u ∈ rc zs, u.oneCell' = true := by
  intro u hu
  obtain ⟨z, _, rfl⟩ := List.mem_map.1 hu
  rfl
theorem rc_at {w : World} {B t g n c : Nat} {zs : List Int} (h : w.ownsRow B t 1 (.slice (some ⟨g, 0, none⟩) n c) n (rc zs)) (hl : zs.length = n) (k : Nat) (hk : k < n) : w.cell? ⟨g, k, none⟩ = some (.int .i64 (nth zs k)) := by
  rw [h.cellAt k (by omega)]
  simp [rc, nth_eq (show k < zs.length by omega), show k < zs.length by omega]
theorem made_zero (n : Nat) : (madeCells #[Value.int .i64 0] n).toList = rc (List.replicate n 0) := by
  simp only [madeCells, rc, Array.toList_map, Array.toList_range, Nat.mul_one, List.map_replicate]
  apply List.ext_getElem (by simp)
  intro i h1 h2
  simp [Nat.mod_one]
theorem infoI64 : (Tryd.prog.info? 2).map (fun i => (i.zero, i.size, i.bytes)) = some (some (.int .i64 0), 1, 8) := by kernel_rfl
theorem infoInt' : (Tryd.prog.info? 3).map (fun i => (i.zero, i.size, i.bytes)) = some (some (.int .i64 0), 1, 8) := by kernel_rfl
/-- The sum of the first k. -/
def sumTo (zs : List Int) (k : Nat) : Int := (zs.take k).sum
theorem sumTo_succ (zs : List Int) (k : Nat) (h : k < zs.length) : sumTo zs (k + 1) = sumTo zs k + nth zs k := by
  unfold sumTo
  rw [List.take_succ_eq_append_getElem h, List.sum_append, nth_eq h]
  simp
theorem sumTo_all (zs : List Int) : sumTo zs zs.length = zs.sum := by simp [sumTo]
def okW (zs : List Int) : Bool := zs.all (fun z => decide (0 ≤ z) && decide (z ≤ 1125899906842624)) && decide (0 < zs.sum) && decide (zs.sum ≤ 1125899906842624)
theorem okW_bad {zs : List Int} {k : Nat} (hk : k < zs.length) (h : nth zs k < 0 ∨ 1125899906842624 < nth zs k) : okW zs = false := by
  have : zs.all (fun z => decide (0 ≤ z) && decide (z ≤ 1125899906842624)) = false := by
    rw [List.all_eq_false]
    exact ⟨nth zs k, nth_mem hk, by simp; omega⟩
  unfold okW
  rw [this]
  rfl
theorem okW_good {zs : List Int} (h : ∀ k, k < zs.length → 0 ≤ nth zs k ∧ nth zs k ≤ 1125899906842624) : okW zs = (decide (0 < zs.sum) && decide (zs.sum ≤ 1125899906842624)) := by
  have : zs.all (fun z => decide (0 ≤ z) && decide (z ≤ 1125899906842624)) = true := by
    rw [List.all_eq_true]
    intro z hz
    obtain ⟨k, hk, rfl⟩ := List.getElem_of_mem hz
    have := h k hk
    rw [nth_eq hk] at this
    simp; omega
  unfold okW
  rw [this]
  rfl
theorem okW_parts {zs : List Int} (h : okW zs = true) : (∀ k, k < zs.length → 0 ≤ nth zs k ∧ nth zs k ≤ 1125899906842624) ∧ 0 < zs.sum ∧ zs.sum ≤ 1125899906842624 := by
  unfold okW at h
  simp only [Bool.and_eq_true, decide_eq_true_eq, List.all_eq_true] at h
  exact ⟨fun k hk => h.1.1 _ (nth_mem hk), h.1.2, h.2⟩
set_option maxHeartbeats 2000000 in
theorem whole_any (v : Value) (zs : List Int) (w : World) (hv : Ints .i64 w v zs) (hlen : zs.length ≤ 64) :
    Calls Tryd.prog 37 #[v] w fun e w' => (∃ x, e = .returned (.tuple #[.int .i64 x, .bool (okW zs)]) ∧ (okW zs = true → x = zs.sum)) ∧ w = w' := by
  obtain ⟨a, cap, rfl, hm, _, hc⟩ := hv
  have HC := Lib.hid hc
  clear hc hm
  go_enter Tryd.func37, Tryd.ntmps37
  go_wp2_with fail
  go_loopg [4, 9] zs.length (fun r s i wr => ∃ (k : Nat) (S : Int), k ≤ zs.length ∧ r = zs.length - k ∧ i = .int .i64 k ∧ s = .int .i64 S ∧ 0 ≤ S ∧ S ≤ k * 1125899906842624 ∧ wr = w ∧ Hid (S = sumTo zs k ∧ ∀ j, j < k → 0 ≤ nth zs j ∧ nth zs j ≤ 1125899906842624))
  case atStart => exact ⟨0, 0, by omega, by omega, rfl, rfl, by omega, by omega, rfl, Lib.hid ⟨by simp [sumTo], fun j hj => by omega⟩⟩
  case round =>
    obtain ⟨k, S, hk, hr, rfl, rfl, hS0, hS1, rfl, hh⟩ := hrel
    have HR := Lib.hid hr
    clear hr
    by_cases hlt : k < zs.length
    · obtain ⟨b, off, hp, g⟩ := HC.out k hlt
      subst hp
      obtain ⟨z, hz⟩ : ∃ z, z = nth zs k := ⟨_, rfl⟩
      rw [← hz] at g
      by_cases hneg : z < 0
      · have hbad : Hid (okW zs = false) := Lib.hid (okW_bad hlt (.inl (by omega)))
        clear hz hh
        go_wp2_with fail
        go_ret2
        rw [hbad.out]
        exact ⟨⟨0, rfl, fun h => by cases h⟩, rfl⟩
      · by_cases hbig : 1125899906842624 < z
        · have hbad : Hid (okW zs = false) := Lib.hid (okW_bad hlt (.inr (by omega)))
          clear hz hh
          have hb2 : z > 1125899906842624 := hbig
          go_wp2_with fail
          go_ret2
          rw [hbad.out]
          exact ⟨⟨0, rfl, fun h => by cases h⟩, rfl⟩
        · have hN : Hid (S + z = sumTo zs (k + 1) ∧ ∀ j, j < k + 1 → 0 ≤ nth zs j ∧ nth zs j ≤ 1125899906842624) := Lib.hid ⟨by rw [sumTo_succ zs k hlt, ← hh.out.1, hz], fun j hj => by
            by_cases e : j = k
            · subst e; rw [← hz]; omega
            · exact hh.out.2 j (by omega)⟩
          have hd : decide (z > 1125899906842624) = false := by simp; omega
          have hd2 : ¬ z > 1125899906842624 := by omega
          clear hz hh
          go_wp2_with fail
          go_roundg (zs.length - (k + 1))
          case measure => rw [HR.out]; omega
          case rel => exact ⟨k + 1, S + z, by omega, rfl, by first | rfl | simp, rfl, by omega, by omega, rfl, hN⟩
    · obtain rfl : k = zs.length := by omega
      have hE : Hid (S = zs.sum) := Lib.hid (by rw [← sumTo_all]; exact hh.out.1)
      have hO : Hid (okW zs = (decide (0 < S) && decide (S ≤ 1125899906842624))) := Lib.hid (by rw [hE.out]; exact okW_good hh.out.2)
      have hz64 : (zs.length : Int) ≤ 64 := by omega
      clear hh
      by_cases c1 : 0 < S
      · by_cases c2 : S ≤ 1125899906842624
        · have c1' : S > 0 := c1
          go_wp2_with fail
          go_ret2
          rw [hO.out, decide_eq_true c1, decide_eq_true c2]
          exact ⟨⟨S, rfl, fun _ => hE.out⟩, rfl⟩
        · have c1' : S > 0 := c1
          go_wp2_with fail
          go_ret2
          rw [hO.out, decide_eq_true c1, decide_eq_false (show ¬ S ≤ 1125899906842624 by omega)]
          exact ⟨⟨S, rfl, fun h => by cases h⟩, rfl⟩
      · have c1' : ¬ S > 0 := c1
        go_wp2_with fail
        go_ret2
        rw [hO.out, decide_eq_false (show ¬ 0 < S by omega)]
        exact ⟨⟨S, rfl, fun h => by cases h⟩, rfl⟩
/-- The first i grown, the rest not. -/
def mix (c G : List Int) (i : Nat) : List Int := G.take i ++ c.drop i
theorem mix_len (c G : List Int) (h : G.length = c.length) (i : Nat) (hi : i ≤ c.length) : (mix c G i).length = c.length := by simp [mix]; omega
theorem mix_at (c G : List Int) (h : G.length = c.length) (i j : Nat) (hi : i ≤ c.length) : nth (mix c G i) j = if j < i then nth G j else nth c j := by
  unfold mix nth
  simp only [List.getD_eq_getElem?_getD, List.getElem?_append, List.length_take, List.getElem?_take, List.getElem?_drop]
  by_cases hj : j < i
  · rw [if_pos (by omega), if_pos hj, if_pos hj]
  · rw [if_neg (by omega), if_neg hj]
    congr 3
    omega
theorem mix_zero (c G : List Int) : mix c G 0 = c := by simp [mix]
theorem mix_all (c G : List Int) (h : G.length = c.length) : mix c G c.length = G := by
  simp only [mix, List.drop_length, List.append_nil]
  rw [← h, List.take_length]
theorem mix_set (c G : List Int) (h : G.length = c.length) (i : Nat) (hi : i < c.length) : (mix c G i).set i (nth G i) = mix c G (i + 1) := by
  unfold mix
  rw [List.set_append_right _ _ (by simp; omega), List.take_succ_eq_append_getElem (by omega), List.append_assoc]
  congr 1
  rw [show i - (List.take i G).length = 0 by simp; omega, List.drop_eq_getElem_cons hi, List.set_cons_zero, nth_eq (show i < G.length by omega)]
  rfl
theorem bestTo_idx (c : List Int) : ∀ n, bestTo c n ≤ n
  | 0 => by simp [bestTo]
  | n + 1 => by
    have := bestTo_idx c n
    unfold bestTo
    split <;> omega
/-- Who has each of n turns. -/
def turnsV (L : List Int) (n : Nat) : List Int := (List.range n).map fun k => (turn L k : Int)
theorem turnsV_len (L : List Int) (n : Nat) : (turnsV L n).length = n := by simp [turnsV]
theorem turnsV_at (L : List Int) (n k : Nat) (h : k < n) : nth (turnsV L n) k = turn L k := by simp [turnsV, nth, List.getD, h]
theorem turnsV_succ (L : List Int) (n : Nat) : turnsV L (n + 1) = turnsV L n ++ [(turn L n : Int)] := by simp [turnsV, List.range_succ]
set_option maxHeartbeats 4000000 in
set_option maxRecDepth 100000 in
theorem turns_any (v : Value) (zs : List Int) (n : Nat) (w : World) (hv : Ints .i64 w v zs) (hlen : zs.length ≤ 64) (hok : okW zs = true) (hn : n ≤ 4096) :
    Calls Tryd.prog 27 #[v, .int .i64 n] w fun e w' => ∃ u, e = .returned (.tuple #[u, .int .i64 0]) ∧ w'.ownsRow w.heap.size 3 1 u n (rc (turnsV zs n)) ∧ Below w.heap.size w w' := by
  obtain ⟨hr1, hs0, hs1⟩ := okW_parts hok
  have hL : ∀ i, i < zs.length → 0 ≤ nth zs i := fun i hi => (hr1 i hi).1
  have hpos := some_one hs0
  have HW := Lib.hid (whole_any v zs w hv hlen)
  have HLO := Lib.hid (fun k i (hi : i < zs.length) => credits_low hs0 hL k i hi)
  have HHI := Lib.hid (fun k i (hi : i < zs.length) => credits_high hs0 hL k i hi)
  have HT := Lib.hid (fun k => turn_lt hs0 k)
  have HZ := Lib.hid hr1
  obtain ⟨a, cap, rfl, hm, _, hc⟩ := hv
  have HC := Lib.hid hc
  obtain ⟨iw, hi, hz0, hz1, hz2⟩ := info_parts infoI64
  obtain ⟨iv, hj, hy0, hy1, hy2⟩ := info_parts infoInt'
  clear hc hm hL hr1
  obtain ⟨A, hA⟩ : ∃ A, A = zs.sum := ⟨_, rfl⟩
  rw [← hA] at hs0 hs1
  have HA := Lib.hid hA
  have HBD : Hid ((zs.length : Int) * A ≤ 72057594037927936) := Lib.hid (by
    have h1 : (zs.length : Int) * A ≤ 64 * A := Int.mul_le_mul_of_nonneg_right (by omega) (by omega)
    omega)
  have HOK := Lib.hid hok
  clear hA hok
  have n1 : ¬ (n : Int) < 0 := by omega
  have n2 : decide ((n : Int) > 4096) = false := by simp; omega
  have n3 : decide ((zs.length : Int) > 64) = false := by simp; omega
  have n4 : decide ((n : Int) < 0) = false := by simp
  go_enter Tryd.func27, Tryd.ntmps27
  go_wp2_with fail
  refine HW.out.mono ?_
  rintro e w' ⟨⟨x, rfl, hx⟩, rfl⟩
  obtain rfl : x = A := by rw [hx HOK.out, HA.out]
  rw [HOK.out]
  clear hx
  go_wp2_with (refine wpList_make_full _ (by rfl) (.tmp 32) (.tmp 32) 24 (by rfl) w.heap.size 2 iw _ 1 Tryd.underlying24 hi hz0 hz1 .i64 .i64 _ _ zs.length (by rfl) (by rfl) (by rfl) (by rfl) (by rw [hz2]; omega) (by unfold maxLen; omega) (Nat.le_refl _) ?_)
  intro w1 hown hgrow
  rw [made_zero] at hown
  have O1 := Lib.hid hown
  have B1 := Lib.hid ((Below.refl w.heap.size w).grown hgrow (Nat.le_refl _) (fun k hk => by cases hk))
  clear hown hgrow
  obtain ⟨gc, hgc⟩ : ∃ gc, gc = w.heap.size := ⟨_, rfl⟩
  rw [← hgc]
  have O1' : Hid (w1.ownsRow w.heap.size 2 1 (.slice (some ⟨gc, 0, none⟩) zs.length zs.length) zs.length (rc (credits zs 0))) := Lib.hid (by rw [hgc]; exact O1.out)
  clear O1
  have HG := Lib.hid hgc
  clear hgc
  go_wp2_with fail
  go_loopg [9, 35] n (fun r vo vi wr => ∃ k : Nat, k ≤ n ∧ r = n - k ∧ vi = .int .i64 k ∧ Hid (wr.ownsRow w.heap.size 3 1 vo k (rc (turnsV zs k)) ∧ wr.ownsRow w.heap.size 2 1 (.slice (some ⟨gc, 0, none⟩) zs.length zs.length) zs.length (rc (credits zs k)) ∧ Below w.heap.size w wr))
  case atStart => exact ⟨0, by omega, by omega, rfl, Lib.hid ⟨World.ownsRow_nil _ _ _ _, O1'.out, B1.out⟩⟩
  case round =>
    clear O1' B1
    obtain ⟨k, hk, hr, rfl, hq⟩ := hrel
    have HR := Lib.hid hr
    clear hr
    by_cases hlt : k < n
    · have Q1 := Lib.hid hq.out.1
      have Q2 := Lib.hid hq.out.2.1
      have Q3 := Lib.hid hq.out.2.2
      clear hq
      have LOk := Lib.hid (HLO.out k)
      have HIk := Lib.hid (HHI.out k)
      have GL : Hid ((grown zs k).length = (credits zs k).length) := Lib.hid (by rw [grown_len, credits_len])
      have CL := Lib.hid (credits_len zs k)
      have GA := Lib.hid (grown_at zs k)
      obtain ⟨vo, hvo⟩ : ∃ vo, vo = u9 := ⟨_, rfl⟩
      obtain ⟨wk, hwk⟩ : ∃ wk, wk = wr := ⟨_, rfl⟩
      subst hvo hwk
      go_wp2_with fail
      go_loopg [10, 39] zs.length (fun r vb vi wr => ∃ i : Nat, i ≤ zs.length ∧ r = zs.length - i ∧ vi = .int .i64 i ∧ vb = .int .i64 (bestTo (grown zs k) i : Nat) ∧ Hid (wr.ownsRow w.heap.size 3 1 vo k (rc (turnsV zs k)) ∧ wr.ownsRow w.heap.size 2 1 (.slice (some ⟨gc, 0, none⟩) zs.length zs.length) zs.length (rc (mix (credits zs k) (grown zs k) i)) ∧ Below w.heap.size w wr))
      case atStart => exact ⟨0, by omega, by omega, rfl, rfl, Lib.hid ⟨Q1.out, by rw [mix_zero]; exact Q2.out, Q3.out⟩⟩
      case round =>
        clear Q1 Q2 Q3
        obtain ⟨i, hi', hr, rfl, rfl, hq⟩ := hrel
        have HR2 := Lib.hid hr
        have P1 := Lib.hid hq.out.1
        have P2 := Lib.hid hq.out.2.1
        have P3 := Lib.hid hq.out.2.2
        clear hr hq
        have hne : Hid (vo.ownBlock ≠ some gc) := Lib.hid (by
          rcases own_ne P1.out P2.out (by decide) with h | h
          · rw [h]; simp
          · exact h)
        have hgc : w.heap.size ≤ gc ∧ gc < wr.heap.size := P2.out.lt gc rfl
        by_cases hlt2 : i < zs.length
        · obtain ⟨b, off, hp, g⟩ := HC.out i hlt2
          subst hp
          have hbz : b < w.heap.size := World.block_lt_of_cell? w _ g
          have g1 : wr.cell? ⟨b, off + i, none⟩ = some (.int .i64 (nth zs i)) := (P3.out.cell (p := ⟨b, off + i, none⟩) hbz).trans g
          have c1 : wr.cell? ⟨gc, i, none⟩ = some (.int .i64 (nth (mix (credits zs k) (grown zs k) i) i)) := rc_at P2.out (by rw [mix_len _ _ GL.out i (by rw [CL.out]; omega), CL.out]) i hlt2
          have f1 : wr.frozen? ⟨gc, i, none⟩ = false := P2.out.frozenAt i
          have e1 : nth (mix (credits zs k) (grown zs k) i) i = nth (credits zs k) i := by rw [mix_at _ _ GL.out i i (by rw [CL.out]; omega), if_neg (by omega)]
          rw [e1] at c1
          have x0 := LOk.out i hlt2
          have x1 := HIk.out i hlt2
          have z0 := HZ.out i hlt2
          have eY : nth (credits zs k) i + nth zs i = nth (grown zs k) i := (GA.out i).symm
          have hbd := HBD.out
          rw [← HA.out] at x0 x1
          have S2 : Hid ((wr.setCell ⟨gc, i, none⟩ (.int .i64 (nth (grown zs k) i))).ownsRow w.heap.size 2 1 (.slice (some ⟨gc, 0, none⟩) zs.length zs.length) zs.length (rc (mix (credits zs k) (grown zs k) (i + 1)))) := Lib.hid (by
            have := (P2.out.stored i (.int .i64 (nth (grown zs k) i))).1
            rw [rc_set, mix_set _ _ GL.out i (by rw [CL.out]; exact hlt2)] at this
            exact this)
          have S1 := Lib.hid (ownsRow_setCell_other P1.out (a := ⟨gc, i, none⟩) hne.out (.int .i64 (nth (grown zs k) i)))
          have S3 := Lib.hid (P3.out.setCell (p := ⟨gc, i, none⟩) hgc.1 (.int .i64 (nth (grown zs k) i)))
          have hbi : bestTo (grown zs k) i ≤ i := bestTo_idx _ _
          have hb2 : bestTo (grown zs k) i < zs.length := by omega
          have c2 : (wr.setCell ⟨gc, i, none⟩ (.int .i64 (nth (grown zs k) i))).cell? ⟨gc, i, none⟩ = some (.int .i64 (nth (grown zs k) i)) := by
            have := rc_at S2.out (by rw [mix_len _ _ GL.out _ (by rw [CL.out]; omega), CL.out]) i hlt2
            rwa [mix_at _ _ GL.out _ _ (by rw [CL.out]; omega), if_pos (by omega)] at this
          have c3 : (wr.setCell ⟨gc, i, none⟩ (.int .i64 (nth (grown zs k) i))).cell? ⟨gc, bestTo (grown zs k) i, none⟩ = some (.int .i64 (nth (grown zs k) (bestTo (grown zs k) i))) := by
            have := rc_at S2.out (by rw [mix_len _ _ GL.out _ (by rw [CL.out]; omega), CL.out]) _ hb2
            rwa [mix_at _ _ GL.out _ _ (by rw [CL.out]; omega), if_pos (by omega)] at this
          have BS : Hid (bestTo (grown zs k) (i + 1) = if nth (grown zs k) (bestTo (grown zs k) i) < nth (grown zs k) i then i else bestTo (grown zs k) i) := Lib.hid rfl
          clear P1 P2 P3 e1 hbz
          generalize hX : nth (credits zs k) i = X at *
          generalize hZ : nth zs i = Z at *
          generalize hY : nth (grown zs k) i = Y at *
          generalize hbj : bestTo (grown zs k) i = bj at *
          generalize hV : nth (grown zs k) bj = V at *
          have x2 : X ≤ 72057594037927936 := by omega
          clear hX hZ hY hbj hV x1 hbd
          go_wp2_with fail
          generalize wr.setCell ⟨gc, i, none⟩ (.int .i64 Y) = w2 at *
          by_cases hgt : V < Y
          · have hgt' : Y > V := hgt
            have BS2 : Hid (bestTo (grown zs k) (i + 1) = i) := Lib.hid (by rw [BS.out, if_pos hgt])
            clear BS
            go_quiet (fail)
            go_wp2_with fail
            go_roundg (zs.length - (i + 1))
            case measure => rw [HR2.out]; omega
            case rel => exact ⟨i + 1, by omega, rfl, by first | rfl | simp, by rw [BS2.out], Lib.hid ⟨own_below S1.out (below_drewN (Below.refl _ _) _), own_below S2.out (below_drewN (Below.refl _ _) _), below_drewN S3.out _⟩⟩
          · have hgt' : ¬ Y > V := hgt
            have BS2 : Hid (bestTo (grown zs k) (i + 1) = bj) := Lib.hid (by rw [BS.out, if_neg hgt])
            clear BS
            go_quiet (fail)
            go_wp2_with fail
            go_roundg (zs.length - (i + 1))
            case measure => rw [HR2.out]; omega
            case rel => exact ⟨i + 1, by omega, rfl, by first | rfl | simp, by rw [BS2.out], Lib.hid ⟨own_below S1.out (below_drewN (Below.refl _ _) _), own_below S2.out (below_drewN (Below.refl _ _) _), below_drewN S3.out _⟩⟩
        · obtain rfl : i = zs.length := by omega
          obtain ⟨T, hT⟩ : ∃ T, T = turn zs k := ⟨_, rfl⟩
          have hTl : T < zs.length := by rw [hT]; exact HT.out k
          have eT : bestTo (grown zs k) zs.length = T := hT.symm
          rw [eT]
          have eM : mix (credits zs k) (grown zs k) zs.length = grown zs k := by rw [← CL.out]; exact mix_all _ _ GL.out
          rw [eM] at P2
          have c1 : wr.cell? ⟨gc, T, none⟩ = some (.int .i64 (nth (grown zs k) T)) := rc_at P2.out (grown_len zs k) T hTl
          have f1 : wr.frozen? ⟨gc, T, none⟩ = false := P2.out.frozenAt T
          have x0 := LOk.out T hTl
          have x1 := HIk.out T hTl
          have z0 := HZ.out T hTl
          have eY := GA.out T
          have hbd := HBD.out
          rw [← HA.out] at x0 x1
          have CS : Hid (credits zs (k + 1) = (grown zs k).set T (nth (grown zs k) T - x)) := Lib.hid (by rw [credits_succ, ← hT, HA.out])
          have TS : Hid (turnsV zs (k + 1) = turnsV zs k ++ [(T : Int)]) := Lib.hid (by rw [turnsV_succ, ← hT])
          have S2 : Hid ((wr.setCell ⟨gc, T, none⟩ (.int .i64 (nth (grown zs k) T - x))).ownsRow w.heap.size 2 1 (.slice (some ⟨gc, 0, none⟩) zs.length zs.length) zs.length (rc (credits zs (k + 1)))) := Lib.hid (by
            have := (P2.out.stored T (.int .i64 (nth (grown zs k) T - x))).1
            rw [rc_set, ← CS.out] at this
            exact this)
          have S1 := Lib.hid (ownsRow_setCell_other P1.out (a := ⟨gc, T, none⟩) hne.out (.int .i64 (nth (grown zs k) T - x)))
          have S3 := Lib.hid (P3.out.setCell (p := ⟨gc, T, none⟩) hgc.1 (.int .i64 (nth (grown zs k) T - x)))
          clear P1 P2 P3 CS eM
          generalize nth (credits zs k) T = X at *
          generalize nth zs T = Z at *
          generalize nth (grown zs k) T = Y at *
          have x2 : X ≤ 72057594037927936 := by omega
          have y1 : Y - x ≤ 144115188075855872 := by omega
          have y2 : -144115188075855872 ≤ Y - x := by omega
          have HTT := Lib.hid hT
          clear hT eT eY x0 x1 x2 z0 hbd
          go_upto_region 19 with fail
          generalize wr.setCell ⟨gc, T, none⟩ (.int .i64 (Y - x)) = w2 at *
          have hz : w.heap.size ≤ w2.heap.size := S3.out.size
          have hkm : k + 1 ≤ maxLen := by unfold maxLen; omega
          have hkb : (k + 1) * 8 ≤ 140737488355328 := by omega
          go_wp2_with (refine wpList_append_lies _ (by rfl) (.tmp 69) (.tmp 71) 43 (by rfl) w.heap.size 3 iv _ 1 8 Tryd.underlying43 hj hy0 hy1 hy2 rfl (by omega) vo k (rc (turnsV zs k)) (by rfl) (S1.out.alloc _) ⟨w2.heap.size, 0, none⟩ 1 1 [.int .i64 (T : Int)] (by rfl) (by rfl) (World.news_of_block (cs := #[.int .i64 (T : Int)]) (t := 3) (fr := (0, 0)) (heap_alloc_new w2 _)) (by simp [Value.oneCell']) (by omega) hkm hkb (by simp; omega) (w2.heap.size + 1) (by simp) ?_)
          intro gg cap1 w3 hown1 hgrow hat hlt1
          have T1 : Hid (w3.ownsRow w.heap.size 3 1 (.slice (some ⟨gg, 0, none⟩) (k + 1) cap1) (k + 1) (rc (turnsV zs (k + 1)))) := Lib.hid (by rw [TS.out]; simpa [rc] using hown1)
          have T2 := Lib.hid ((S3.out.alloc hz (.cells #[.int .i64 (T : Int)] 3 (0, 0))).grown hgrow (by simp; omega) (fun kk hk' => (S1.out.lt kk hk').1))
          have T3 := Lib.hid ((S2.out.alloc (.cells #[.int .i64 (T : Int)] 3 (0, 0))).kept hgrow (.inr fun h => hne.out h.symm))
          clear hown1 hgrow hat hlt1 S1 S2 S3
          go_wp2_with fail
          go_roundg (n - (k + 1))
          case measure => rw [HR.out]; omega
          case rel => exact ⟨k + 1, by omega, rfl, by first | rfl | simp, Lib.hid ⟨T1.out, T3.out, T2.out⟩⟩
    · obtain rfl : k = n := by omega
      have Q1 := Lib.hid hq.out.1
      have Q3 := Lib.hid hq.out.2.2
      clear hq
      go_wp2_with fail
      go_ret2
      exact ⟨_, rfl, Q1.out, Q3.out⟩
end Go.Proofs.YtdhlmflbefnekaaDoor
