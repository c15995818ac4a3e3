/- roll.Find: the card of a name. -/
import Derived.Test.YtlgbmjdlgjdolaaRollRun
import Derived.Test.YtlgbmjdlgjdolaaGoodV
import Derived.Test.YtlgbmjdlgjdolaaOrdL
import Derived.Outline
import Derived.LoopTactic
import Derived.Deep.LoopGhost
namespace Go.Proofs.Ytlgbmjdlgjdolaa
open Go.RowKit Go.ChangeShapes
namespace Roll
def Found (c : Cd) (w : World) (e : Ending) (w' : World) : Prop := ∃ sl, e = .returned (.tuple #[.agg (c.cells sl).toArray, .int .i64 0]) ∧ Strs w' sl c.comp ∧ Below w.heap.size w w'
theorem zero_cells (w : World) (t : TypeId) (cs : Array Value) (w' : World) (h : Below (w.heap.size + 1) (w.alloc (.cells cs t)) w') : w'.heap[w.heap.size]? = some (.cells cs t (0, 0)) := (h.block w.heap.size (by omega)).trans (heap_alloc_new w _)
theorem toList_inj {a b : ByteArray} (h : a.toList = b.toList) : a = b := by
  rw [ByteArray.toList_eq, ByteArray.toList_eq] at h
  cases a; cases b
  simp at h
  cases h
  rfl
theorem putAll_keep {g B t z n : Nat} {v : Value} {xs : List Value} (hne : v.ownBlock ≠ some g) : ∀ (vs : List Value) (w : World) (p : Nat), w.ownsRow B t z v n xs → (putAll w g p vs).ownsRow B t z v n xs
  | [], _, _, h => h
  | u :: vs, w, p, h => putAll_keep hne vs _ _ (ownsRow_setCell_other h (a := ⟨g, p, none⟩) hne u)
theorem roll_good : Good rollC := good_of check_roll (by rw [roll_len]; omega)
set_option maxHeartbeats 8000000 in
set_option maxRecDepth 100000 in
theorem find_any {W : World} (hsh : W.ShapedOpen Try.prog) (x : ByteArray) (j : Nat) (hj : j < 22) (hx : (nthC rollC j).name = x) (w : World) (hb : Below W.heap.size W w) : Calls Try.prog 18 #[.string x] w (Found (nthC rollC j) w) := by
  have HX := Lib.hid hx
  obtain ⟨w1, hw1⟩ : ∃ w1, w1 = w.alloc (.cells #[.string ⟨#[]⟩, .string ⟨#[]⟩, .int .u8 0, .slice none 0 0, .int .i8 0, .string ⟨#[]⟩, .int .i16 0] 34) := ⟨_, rfl⟩
  have b1 : Below w.heap.size w w1 := by rw [hw1]; exact (Below.refl _ w).alloc (Nat.le_refl _) _
  have z1 : w1.heap.size = w.heap.size + 1 := by rw [hw1]; simp
  have CR := Lib.hid (gives_of hsh w1 (hb.trans (b1.mono hb.size)) run_roll)
  have HB1 := Lib.hid b1
  have HZ1 := Lib.hid z1
  have HZC : Hid (∀ w', Below (w.heap.size + 1) w1 w' → w'.heap[w.heap.size]? = some (.cells #[.string ⟨#[]⟩, .string ⟨#[]⟩, .int .u8 0, .slice none 0 0, .int .i8 0, .string ⟨#[]⟩, .int .i16 0] 34 (0, 0))) := Lib.hid (fun w' h => zero_cells w _ _ w' (by rw [← hw1]; exact h))
  subst hw1
  clear hx b1 z1 hb
  go_enter Try.func18, Try.ntmps18
  go_wp2_with fail
  refine CR.out.mono ?_
  rintro er w2 ⟨u, r, rfl, hr, hown, hb2⟩
  have hrl : r.length = 22 := by rw [← List.length_map (f := (·.1)), hr]; exact roll_len
  have h0 := hown.1
  rw [hrl] at h0
  obtain ⟨gr, cr, hform, hgr, hgr2⟩ := h0.form (by omega)
  subst hform
  have OW := Lib.hid hown
  have B2 := Lib.hid hb2
  have HRL := Lib.hid hrl
  have HR := Lib.hid (show ∀ k (h : k < r.length), r[k].1 = nthC rollC k from fun k h => by
    have h2 : k < (r.map (·.1)).length := by simpa using h
    rw [← hr, nthC_eq h2, List.getElem_map])
  have HGR := Lib.hid hgr
  clear hown hb2 h0 hr hrl
  go_wp2_with fail
  go_loopg [5, 8] 22 (fun q _ vi wr => ∃ k : Nat, k ≤ 22 ∧ q = 22 - k ∧ vi = .int .i64 k ∧ Hid (Below w2.heap.size w2 wr ∧ ∀ i, i < k → (nthC rollC i).name ≠ x))
  case atStart => exact ⟨0, by omega, by omega, rfl, Lib.hid ⟨Below.refl _ _, fun i h => by omega⟩⟩
  case round =>
    obtain ⟨k, hk, hq, rfl, hh⟩ := hrel
    have HQ := Lib.hid hq
    have B := Lib.hid hh.out.1
    have NO := Lib.hid hh.out.2
    clear hq hh
    have hlt : k < 22 := by
      rcases Nat.lt_or_ge k 22 with h | h
      · exact h
      · exact (NO.out j (by omega) HX.out).elim
    have O2 := Lib.hid (OW.out.below B.out)
    have hkr : k < r.length := by rw [HRL.out]; exact hlt
    obtain ⟨gx, _, am, cm, um⟩ := O2.out.at HRL.out k hkr
    have HT := Lib.hid (O2.out.2 _ (List.getElem_mem hkr))
    have HC := Lib.hid (HR.out k hkr)
    obtain ⟨rc, ec⟩ : ∃ rc, r[k]'hkr = rc := ⟨_, rfl⟩
    simp only [ec] at gx um HT HC
    clear ec
    obtain ⟨⟨n, f, lv, ss, sco, qq, en⟩, u_⟩ := rc
    simp only at um HT HC
    subst um
    simp only [Cd.cells] at gx
    have g0 : wr.cell? ⟨gr, k * 7, none⟩ = some (.string n) := gx 0 _ rfl
    have g1 : wr.cell? ⟨gr, k * 7 + 1, none⟩ = some (.string f) := gx 1 _ rfl
    have g2 : wr.cell? ⟨gr, k * 7 + 2, none⟩ = some (.int .u8 lv) := gx 2 _ rfl
    have g3 : wr.cell? ⟨gr, k * 7 + 3, none⟩ = some (.slice am ss.length cm) := gx 3 _ rfl
    have g4 : wr.cell? ⟨gr, k * 7 + 4, none⟩ = some (.int .i8 sco) := gx 4 _ rfl
    have g5 : wr.cell? ⟨gr, k * 7 + 5, none⟩ = some (.string qq) := gx 5 _ rfl
    have g6 : wr.cell? ⟨gr, k * 7 + 6, none⟩ = some (.int .i16 en) := gx 6 _ rfl
    clear gx
    have hkc1 : (0 : Int) ≤ (k : Int) := by omega
    have hkc2 : (k : Int) < 22 := by omega
    have BA : Hid (Below wr.heap.size wr (wr.alloc (.cells #[.string n, .string f, .int .u8 lv, .slice am ss.length cm, .int .i8 sco, .string qq, .int .i16 en] 34))) := Lib.hid ((Below.refl _ wr).alloc (Nat.le_refl _) _)
    by_cases he : n = x
    · have hkj : Hid (k = j) := Lib.hid (roll_good.2.2 k j (by rw [roll_len]; exact hlt) (by rw [roll_len]; exact hj) (by rw [← HC.out, HX.out]; exact he))
      have e1 : (n.toList == x.toList) = true := by rw [he]; simp
      obtain ⟨wq, hwq⟩ : ∃ wq, wq = wr.alloc (.cells #[.string n, .string f, .int .u8 lv, .slice am ss.length cm, .int .i8 sco, .string qq, .int .i16 en] 34) := ⟨_, rfl⟩
      have BQ : Hid (Below w2.heap.size w2 wq) := Lib.hid (by rw [hwq]; exact B.out.trans (BA.out.mono B.out.size))
      have BQ1 := Lib.hid (B2.out.trans (BQ.out.mono B2.out.size))
      have OQ := Lib.hid (own_below HT.out (by rw [hwq]; exact BA.out : Below wr.heap.size wr wq))
      have KZ := Lib.hid (HZC.out wq (by rw [← HZ1.out]; exact BQ1.out))
      have TH : Hid (wq.there w.heap.size 0 7) := Lib.hid (fun i hi => by
        rw [Nat.zero_add]
        refine ⟨?_, frozen_of_row wq w.heap.size i _ _ KZ.out⟩
        rw [cell_of_row wq w.heap.size i _ _ _ KZ.out]
        exact Option.isSome_iff_exists.2 ⟨_, Array.getElem?_eq_getElem (by simpa using hi)⟩)
      have HWQ := Lib.hid hwq
      subst hwq
      clear he
      go_wp2_with (refine wpList_store_all (by rfl) 34 (.tmp 2) (.tmp 16) (by rfl) w.heap.size 0 [.string n, .string f, .int .u8 lv, .slice am ss.length cm, .int .i8 sco, .string qq, .int .i16 en] (by rfl) (by rfl) TH.out (by kernel_rfl) (cells_one ⟨n, f, lv, ss, sco, qq, en⟩ _ _ _) ?_)
      intro W4 HW4
      have RG : Hid (W4.rangeAt w.heap.size 0 [.string n, .string f, .int .u8 lv, .slice am ss.length cm, .int .i8 sco, .string qq, .int .i16 en]) := Lib.hid (by rw [HW4.out, ← putAll_cells]; exact World.rangeAt_setCells_same _ _ _ _ TH.out)
      have k0 : W4.cell? ⟨w.heap.size, 0, none⟩ = some (.string n) := RG.out 0 _ rfl
      have k1 : W4.cell? ⟨w.heap.size, 1, none⟩ = some (.string f) := RG.out 1 _ rfl
      have k2 : W4.cell? ⟨w.heap.size, 2, none⟩ = some (.int .u8 lv) := RG.out 2 _ rfl
      have k3 : W4.cell? ⟨w.heap.size, 3, none⟩ = some (.slice am ss.length cm) := RG.out 3 _ rfl
      have k4 : W4.cell? ⟨w.heap.size, 4, none⟩ = some (.int .i8 sco) := RG.out 4 _ rfl
      have k5 : W4.cell? ⟨w.heap.size, 5, none⟩ = some (.string qq) := RG.out 5 _ rfl
      have k6 : W4.cell? ⟨w.heap.size, 6, none⟩ = some (.int .i16 en) := RG.out 6 _ rfl
      go_wp2_with fail
      refine bodyPost_ret (v := .tuple #[.agg #[.string n, .string f, .int .u8 lv, .slice am ss.length cm, .int .i8 sco, .string qq, .int .i16 en], .int .i64 0]) (by simp [results, Try.results18, go_sem, *]) rfl ?_
      refine ⟨.slice am ss.length cm, by rw [← hkj.out, ← HC.out]; rfl, ?_, ?_⟩
      · rw [← hkj.out, ← HC.out]
        refine strs_own (B := w.heap.size) (t := 9) ?_ ?_
        · rw [HW4.out]
          refine putAll_keep (fun e => ?_) _ _ _ (own_base OQ.out (by rw [HZ1.out]; omega))
          have := (OQ.out.lt _ e).1
          rw [HZ1.out] at this
          omega
        · have := (okB_yes roll_ok k (by rw [roll_len]; exact hlt)).2
          rw [← HC.out] at this
          unfold maxLen
          simp only at this ⊢
          omega
      · rw [HW4.out]
        exact putAll_below (Nat.le_refl _) _ _ _ (HB1.out.trans (BQ1.out.mono (by rw [HZ1.out]; omega)))
    · have HN : Hid (∀ i, i < k + 1 → (nthC rollC i).name ≠ x) := Lib.hid (fun i hi => by
        by_cases e : i = k
        · subst e; rw [← HC.out]; exact he
        · exact NO.out i (by omega))
      have e1 : (n.toList == x.toList) = false := by
        rw [Bool.eq_false_iff]
        intro h
        exact he (toList_inj (by simpa using h))
      clear he
      go_wp2_with fail
      go_roundg (22 - (k + 1))
      case measure => rw [HQ.out]; omega
      case rel => exact ⟨k + 1, by omega, rfl, by first | rfl | simp, Lib.hid ⟨B.out.trans (BA.out.mono B.out.size), HN.out⟩⟩
end Roll
end Go.Proofs.Ytlgbmjdlgjdolaa
