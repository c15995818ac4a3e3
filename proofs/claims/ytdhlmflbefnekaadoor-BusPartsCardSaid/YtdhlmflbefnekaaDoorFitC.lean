/- fit: the weights that are asked. -/
import Derived.Test.YtdhlmflbefnekaaDoorShareP
import Derived.Test.YtdhlmflbefnekaaDoorPartsV
namespace Go.Proofs.YtdhlmflbefnekaaDoor
open Go.RowKit Go.ChangeShapes
theorem own_cut {w : World} {B e g n c m : Nat} {xs : List Value} (h : w.ownsRow B e 1 (.slice (some ⟨g, 0, none⟩) n c) n xs) (hm : m ≤ n) : w.ownsRow B e 1 (.slice (some ⟨g, 0, none⟩) m c) m (xs.take m) := by
  obtain ⟨hl, h2⟩ := h
  rcases h2 with ⟨h', _⟩ | ⟨g', cap', cur, h', h3, h4, h5, h6, h7, h8⟩
  · cases h'
  · simp only [Value.slice.injEq, Option.some.injEq, Addr.mk.injEq, and_true, true_and] at h'
    obtain ⟨rfl, rfl⟩ := h'
    refine ⟨by rw [List.length_take]; omega, .inr ⟨g, c, cur, rfl, h3, h4, by omega, h6, h7, ?_⟩⟩
    rw [← h8, List.take_take]
    congr 1
    omega
def absL (zs : List Int) (k : Nat) : List Int := (zs.take k).map fun z => ((z.natAbs % 1099511627776 : Nat) : Int)
theorem absL_len (zs : List Int) (k : Nat) (h : k ≤ zs.length) : (absL zs k).length = k := by simp [absL, h]
theorem absL_succ (zs : List Int) (k : Nat) (h : k < zs.length) : absL zs (k + 1) = absL zs k ++ [(((nth zs k).natAbs % 1099511627776 : Nat) : Int)] := by
  unfold absL
  rw [List.take_succ_eq_append_getElem h, nth_eq h, List.map_append]
  rfl
theorem absL_fit (zs : List Int) (k : Nat) (h : k = min 64 zs.length) : (absL zs k).take (min k 63) ++ [1] = Sh.fitV zs := by
  unfold absL Sh.fitV
  congr 1
  have e : zs.take k = zs.take 64 := by
    rw [h]
    rcases Nat.le_total 64 zs.length with c | c
    · rw [Nat.min_eq_left c]
    · rw [Nat.min_eq_right c, List.take_of_length_le (Nat.le_refl _), List.take_of_length_le c]
  rw [e]
  have hl : ((zs.take 64).map fun z => ((z.natAbs % 1099511627776 : Nat) : Int)).length = k := by simp; omega
  clear e
  generalize ((zs.take 64).map fun z => ((z.natAbs % 1099511627776 : Nat) : Int)) = X at *
  rcases Nat.le_total k 63 with c | c
  · rw [Nat.min_eq_left c, List.take_of_length_le (show X.length ≤ k by omega), List.take_of_length_le (show X.length ≤ 63 by omega)]
  · rw [Nat.min_eq_right c]
theorem mod_abs (z t : Int) (h : z.tmod 1099511627776 = t) : (t < 0 → -t = ((z.natAbs % 1099511627776 : Nat) : Int)) ∧ (0 ≤ t → t = ((z.natAbs % 1099511627776 : Nat) : Int)) ∧ -1099511627776 < t ∧ t < 1099511627776 := by
  have e : t.natAbs = z.natAbs % 1099511627776 := by rw [← h, Int.natAbs_tmod]; rfl
  have := Nat.mod_lt z.natAbs (show 1099511627776 > 0 by omega)
  rw [← e] at this ⊢
  omega
set_option maxHeartbeats 4000000 in
theorem fit_any (v : Value) (zs : List Int) (w : World) (hv : Ints .i64 w v zs) (hlen : zs.length ≤ 17592186044416) :
    Calls Tryd.prog 25 #[v] w fun e w' => ∃ u, e = .returned u ∧ w'.ownsRow w.heap.size 2 1 u (Sh.fitV zs).length (rc (Sh.fitV zs)) ∧ Below w.heap.size w w' := by
  obtain ⟨iw, hi, hz0, hz1, hz2⟩ := info_parts infoI64
  obtain ⟨a, cap, rfl, hm, _, hc⟩ := hv
  have HC := Lib.hid hc
  clear hc hm
  go_enter Tryd.func25, Tryd.ntmps25
  go_wp2_with fail
  go_loopg [3, 4, 5] 64 (fun r vl vi v5 wr => ∃ k : Nat, k ≤ zs.length ∧ k ≤ 64 ∧ r = 64 - k ∧ vi = .int .i64 k ∧ Hid (wr.ownsRow w.heap.size 2 1 vl k (rc (absL zs k)) ∧ Below w.heap.size w wr ∧ (k = 0 → vl = .slice none 0 0)))
  case atStart => exact ⟨0, by omega, by omega, by omega, rfl, Lib.hid ⟨World.ownsRow_nil _ _ _ _, Below.refl _ _, fun _ => rfl⟩⟩
  case round =>
    obtain ⟨k, hk, hk2, hr, rfl, hq⟩ := hrel
    have Q1 := Lib.hid hq.out.1
    have Q2 := Lib.hid hq.out.2.1
    have Q3 := Lib.hid hq.out.2.2
    have HR := Lib.hid hr
    clear hq hr
    by_cases hlt : k < zs.length ∧ k < 64
    · obtain ⟨hl1, hl2⟩ := hlt
      obtain ⟨b, off, hp, g⟩ := HC.out k hl1
      subst hp
      have hbz : b < w.heap.size := World.block_lt_of_cell? w _ g
      have hcell : wr.cell? ⟨b, off + k, none⟩ = some (.int .i64 (nth zs k)) := (Q2.out.cell (p := ⟨b, off + k, none⟩) hbz).trans g
      obtain ⟨z, hz⟩ : ∃ z, nth zs k = z := ⟨_, rfl⟩
      obtain ⟨t, ht⟩ : ∃ t, z.tmod 1099511627776 = t := ⟨_, rfl⟩
      obtain ⟨h1, h2, h3, h4⟩ := mod_abs z t ht
      have HS := Lib.hid (absL_succ zs k hl1)
      rw [hz] at HS hcell
      obtain ⟨y, hy⟩ : ∃ y, ((z.natAbs % 1099511627776 : Nat) : Int) = y := ⟨_, rfl⟩
      rw [hy] at h1 h2 HS
      clear hz hy g
      have hkm : k + 1 ≤ maxLen := by unfold maxLen; omega
      have hkb : (k + 1) * 8 ≤ 140737488355328 := by omega
      have hzq : w.heap.size ≤ wr.heap.size := Q2.out.size
      have e64 : decide ((k : Int) < 64) = true := decide_eq_true (by omega)
      have e65 : decide (k < 64) = true := decide_eq_true hl2
      have key : ∀ (vl : Value), wr.ownsRow w.heap.size 2 1 vl k (rc (absL zs k)) → ∀ (gg cap1 : Nat) (w3 : World), w3.ownsRow w.heap.size 2 1 (.slice (some ⟨gg, 0, none⟩) (k + 1) cap1) (k + 1) (rc (absL zs k) ++ [.int .i64 y]) → (wr.alloc (.cells #[.int .i64 y] 2)).grownBy w3 vl.ownBlock → Hid (w3.ownsRow w.heap.size 2 1 (.slice (some ⟨gg, 0, none⟩) (k + 1) cap1) (k + 1) (rc (absL zs (k + 1))) ∧ Below w.heap.size w w3) := fun vl hvl gg cap1 w3 hown hgrow => Lib.hid ⟨by rw [HS.out]; simpa [rc] using hown, (Q2.out.alloc hzq (.cells #[.int .i64 y] 2 (0, 0))).grown hgrow (by simp; omega) (fun kk hk' => (hvl.lt kk hk').1)⟩
      have KEY := Lib.hid key
      clear key
      by_cases hneg : t < 0
      · have e1 := h1 hneg
        subst e1
        clear h1 h2
        go_wp2_with (refine wpList_append_lies _ (by rfl) (.tmp 25) (.tmp 27) 24 (by rfl) w.heap.size 2 iw _ 1 8 Tryd.underlying24 hi hz0 hz1 hz2 rfl (by omega) u3 k (rc (absL zs k)) (by rfl) (Q1.out.alloc _) ⟨wr.heap.size, 0, none⟩ 1 1 [.int .i64 (-t)] (by rfl) (by rfl) (World.news_of_block (cs := #[.int .i64 (-t)]) (t := 2) (fr := (0, 0)) (heap_alloc_new wr _)) (by simp [Value.oneCell']) (by omega) hkm hkb (by simp; omega) (wr.heap.size + 1) (by simp) ?_)
        intro gg cap1 w3 hown1 hgrow hat hlt1
        have T1 := KEY.out u3 Q1.out gg cap1 w3 hown1 hgrow
        clear hown1 hgrow hat hlt1 Q1 Q2 Q3 KEY
        go_wp2_with fail
        go_roundg (64 - (k + 1))
        case measure => rw [HR.out]; omega
        case rel => exact ⟨k + 1, by omega, by omega, rfl, by first | rfl | simp, Lib.hid ⟨T1.out.1, T1.out.2, fun h => by omega⟩⟩
      · have e1 := h2 (by omega)
        subst e1
        clear h1 h2
        go_wp2_with (refine wpList_append_lies _ (by rfl) (.tmp 25) (.tmp 27) 24 (by rfl) w.heap.size 2 iw _ 1 8 Tryd.underlying24 hi hz0 hz1 hz2 rfl (by omega) u3 k (rc (absL zs k)) (by rfl) (Q1.out.alloc _) ⟨wr.heap.size, 0, none⟩ 1 1 [.int .i64 t] (by rfl) (by rfl) (World.news_of_block (cs := #[.int .i64 t]) (t := 2) (fr := (0, 0)) (heap_alloc_new wr _)) (by simp [Value.oneCell']) (by omega) hkm hkb (by simp; omega) (wr.heap.size + 1) (by simp) ?_)
        intro gg cap1 w3 hown1 hgrow hat hlt1
        have T1 := KEY.out u3 Q1.out gg cap1 w3 hown1 hgrow
        clear hown1 hgrow hat hlt1 Q1 Q2 Q3 KEY
        go_wp2_with fail
        go_roundg (64 - (k + 1))
        case measure => rw [HR.out]; omega
        case rel => exact ⟨k + 1, by omega, by omega, rfl, by first | rfl | simp, Lib.hid ⟨T1.out.1, T1.out.2, fun h => by omega⟩⟩
    · have hKm : Hid ((absL zs k).take (min k 63) ++ [1] = Sh.fitV zs) := Lib.hid (absL_fit zs k (by omega))
      have hKl := Lib.hid (absL_len zs k hk)
      have hzq : w.heap.size ≤ wr.heap.size := Q2.out.size
      have hkc : k = zs.length ∨ (k < zs.length ∧ k = 64) := by omega
      clear hlt HR
      obtain ⟨m, hm⟩ : ∃ m, m = min k 63 := ⟨_, rfl⟩
      rw [← hm] at hKm
      have hmk : m ≤ k ∧ m ≤ 63 ∧ (k ≤ 63 → m = k) ∧ (63 ≤ k → m = 63) := by omega
      have hcut : Hid (∃ (a : Option Addr) (c : Nat), u3 = .slice a k c ∧ k ≤ c ∧ wr.ownsRow w.heap.size 2 1 (.slice a m c) m (rc ((absL zs k).take m))) := Lib.hid (by
        by_cases h0 : k = 0
        · have hm0 : m = 0 := by omega
          rw [Q3.out h0, h0, hm0]
          exact ⟨none, 0, rfl, Nat.le_refl _, World.ownsRow_nil _ _ _ _⟩
        · obtain ⟨g, c, hv, _, _⟩ := Q1.out.form (by omega)
          subst hv
          refine ⟨some ⟨g, 0, none⟩, c, rfl, own_cap Q1.out, ?_⟩
          have := own_cut Q1.out hmk.1
          rwa [rc, ← List.map_take] at this)
      obtain ⟨a', c', hu, hkc', hown⟩ := hcut.out
      subst hu
      have R1 := Lib.hid hown
      clear hcut hown Q1 Q3
      have hm2 := Lib.hid hm
      clear hm
      have hLm : m + 1 ≤ maxLen := by unfold maxLen; omega
      have hLb : (m + 1) * 8 ≤ 140737488355328 := by omega
      have d1 : decide (k < zs.length) = false ∨ (decide (k < zs.length) = true ∧ decide ((k : Int) < 64) = false) := by
        rcases hkc with h | h
        · exact .inl (decide_eq_false (by omega))
        · exact .inr ⟨decide_eq_true h.1, decide_eq_false (by omega)⟩
      have hmin : min (k : Int) 63 = (m : Int) := by omega
      have hnlt : ¬ (k < zs.length ∧ k < 64) := by omega
      have fin : ∀ (gg cap1 : Nat) (w3 : World), w3.ownsRow w.heap.size 2 1 (.slice (some ⟨gg, 0, none⟩) (m + 1) cap1) (m + 1) (rc ((absL zs k).take m) ++ [.int .i64 1]) → (wr.alloc (.cells #[.int .i64 1] 2)).grownBy w3 (Value.slice a' m c').ownBlock → Hid (w3.ownsRow w.heap.size 2 1 (.slice (some ⟨gg, 0, none⟩) (m + 1) cap1) (Sh.fitV zs).length (rc (Sh.fitV zs)) ∧ Below w.heap.size w w3) := fun gg cap1 w3 ho hg => Lib.hid ⟨by
          have e : (Sh.fitV zs).length = m + 1 := by
            rw [← hKm.out, List.length_append, List.length_take, hKl.out]
            simp
            omega
          rw [e, ← hKm.out]
          simpa [rc] using ho, (Q2.out.alloc hzq (.cells #[.int .i64 1] 2 (0, 0))).grown hg (by simp; omega) (fun kk hk' => (R1.out.lt kk hk').1)⟩
      have FIN := Lib.hid fin
      clear fin hm2 hkc
      have hm9 : (m : Int) ≤ (c' : Int) := by omega
      rcases d1 with d1 | ⟨d1, d2⟩
      · go_wp2_with (refine wpList_append_lies _ (by rfl) (.tmp 33) (.tmp 34) 24 (by rfl) w.heap.size 2 iw _ 1 8 Tryd.underlying24 hi hz0 hz1 hz2 rfl (by omega) (.slice a' m c') m (rc ((absL zs k).take m)) (by rfl) (R1.out.alloc _) ⟨wr.heap.size, 0, none⟩ 1 1 [.int .i64 1] (by rfl) (by rfl) (World.news_of_block (cs := #[.int .i64 1]) (t := 2) (fr := (0, 0)) (heap_alloc_new wr _)) (by simp [Value.oneCell']) (by omega) hLm hLb (by simp; omega) (wr.heap.size + 1) (by simp) ?_)
        intro gg cap1 w3 hown1 hgrow hat hlt1
        have F := FIN.out gg cap1 w3 hown1 hgrow
        clear hown1 hgrow hat hlt1 FIN R1 Q2
        go_wp2_with fail
        go_ret
        exact ⟨_, rfl, F.out⟩
      · go_wp2_with (refine wpList_append_lies _ (by rfl) (.tmp 33) (.tmp 34) 24 (by rfl) w.heap.size 2 iw _ 1 8 Tryd.underlying24 hi hz0 hz1 hz2 rfl (by omega) (.slice a' m c') m (rc ((absL zs k).take m)) (by rfl) (R1.out.alloc _) ⟨wr.heap.size, 0, none⟩ 1 1 [.int .i64 1] (by rfl) (by rfl) (World.news_of_block (cs := #[.int .i64 1]) (t := 2) (fr := (0, 0)) (heap_alloc_new wr _)) (by simp [Value.oneCell']) (by omega) hLm hLb (by simp; omega) (wr.heap.size + 1) (by simp) ?_)
        intro gg cap1 w3 hown1 hgrow hat hlt1
        have F := FIN.out gg cap1 w3 hown1 hgrow
        clear hown1 hgrow hat hlt1 FIN R1 Q2
        go_wp2_with fail
        go_ret
        exact ⟨_, rfl, F.out⟩
end Go.Proofs.YtdhlmflbefnekaaDoor
