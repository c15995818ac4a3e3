/- The document's Shares: what it returns. -/
import Derived.Test.YtdhlmflbefnekaaShareP
import Derived.StillTailTactics
namespace Go.Proofs.Ytdhlmflbefnekaa
open Go.RowKit Go.ChangeShapes
def wholeV (zs : List Int) : Int := if decide (zs.length ≤ 64) && okW zs then zs.sum else 0
theorem wholeV_big {zs : List Int} (h : 64 < zs.length) : wholeV zs = 0 := by
  unfold wholeV
  rw [decide_eq_false (by omega)]
  rfl
theorem wholeV_no {zs : List Int} (h : okW zs = false) : wholeV zs = 0 := by
  unfold wholeV
  rw [h, Bool.and_false]
  rfl
theorem wholeV_ok {zs : List Int} (hl : zs.length ≤ 64) (h : okW zs = true) : wholeV zs = zs.sum := by
  unfold wholeV
  rw [h, decide_eq_true hl]
  rfl
theorem okW_nil : okW [] = false := rfl
theorem wholeV_zero {zs : List Int} (h : ¬ (zs.length ≤ 64 ∧ okW zs = true)) : wholeV zs = 0 := by
  unfold wholeV
  rw [if_neg (by simpa using h)]
set_option maxHeartbeats 2000000 in
theorem rwhole_any (v : Value) (zs : List Int) (w : World) (hv : Ints .i64 w v zs) :
    Calls Try.prog 16 #[v] w fun e w' => e = .returned (.int .i64 (wholeV zs)) ∧ w = w' := by
  obtain ⟨a, cap, rfl, hm, _, hc⟩ := hv
  have HC := Lib.hid hc
  unfold maxLen at hm
  clear hc
  by_cases h0 : zs.length = 0
  · have hz : Hid (wholeV zs = 0) := Lib.hid (by rw [List.length_eq_zero_iff.1 h0]; rfl)
    have d1 : decide ((zs.length : Int) < 1) = true := decide_eq_true (by omega)
    have d2 : (zs.length : Int) < 1 := by omega
    have HH := Lib.hid h0
    clear h0
    go_enter Try.func16, Try.ntmps16
    go_wp2_with fail
    go_ret
    rw [hz.out]
    exact ⟨rfl, rfl⟩
  by_cases h1 : 64 < zs.length
  · have hz : Hid (wholeV zs = 0) := Lib.hid (wholeV_big h1)
    have d1 : decide ((zs.length : Int) < 1) = false := decide_eq_false (by omega)
    have d2 : ¬ (zs.length : Int) < 1 := by omega
    have d3 : decide ((zs.length : Int) > 64) = true := decide_eq_true (by omega)
    have d4 : (zs.length : Int) > 64 := by omega
    go_enter Try.func16, Try.ntmps16
    go_wp2_with fail
    go_ret
    rw [hz.out]
    exact ⟨rfl, rfl⟩
  have d1 : decide ((zs.length : Int) < 1) = false := decide_eq_false (by omega)
  have d2 : ¬ (zs.length : Int) < 1 := by omega
  have d3 : decide ((zs.length : Int) > 64) = false := decide_eq_false (by omega)
  have d4 : ¬ (zs.length : Int) > 64 := by omega
  go_enter Try.func16, Try.ntmps16
  go_wp2_with fail
  go_loopg [3, 4] zs.length (fun r s i wr => ∃ (k : Nat) (S : Int), k ≤ zs.length ∧ r = zs.length - k ∧ i = .int .i64 k ∧ s = .int .i64 S ∧ 0 ≤ S ∧ S ≤ k * 1125899906842624 ∧ wr = w ∧ Hid (S = sumTo zs k ∧ ∀ j, j < k → 0 ≤ nth zs j ∧ nth zs j ≤ 1125899906842624))
  case atStart => exact ⟨0, 0, by omega, by omega, rfl, rfl, by omega, by omega, rfl, Lib.hid ⟨by simp [sumTo], fun j hj => by omega⟩⟩
  case round =>
    obtain ⟨k, S, hk, hr, rfl, rfl, hS0, hS1, rfl, hh⟩ := hrel
    have HR := Lib.hid hr
    clear hr
    by_cases hlt : k < zs.length
    · obtain ⟨b, off, hp, g⟩ := HC.out k hlt
      subst hp
      obtain ⟨z, hz⟩ : ∃ z, z = nth zs k := ⟨_, rfl⟩
      rw [← hz] at g
      by_cases hneg : z < 0
      · have hbad : Hid (wholeV zs = 0) := Lib.hid (wholeV_no (okW_bad hlt (.inl (by omega))))
        clear hz hh
        go_wp2_with fail
        go_ret
        rw [hbad.out]
        exact ⟨rfl, rfl⟩
      · by_cases hbig : 1125899906842624 < z
        · have hbad : Hid (wholeV zs = 0) := Lib.hid (wholeV_no (okW_bad hlt (.inr (by omega))))
          clear hz hh
          have hb2 : z > 1125899906842624 := hbig
          go_wp2_with fail
          go_ret
          rw [hbad.out]
          exact ⟨rfl, rfl⟩
        · have hN : Hid (S + z = sumTo zs (k + 1) ∧ ∀ j, j < k + 1 → 0 ≤ nth zs j ∧ nth zs j ≤ 1125899906842624) := Lib.hid ⟨by rw [sumTo_succ zs k hlt, ← hh.out.1, hz], fun j hj => by
            by_cases e : j = k
            · subst e; rw [← hz]; omega
            · exact hh.out.2 j (by omega)⟩
          have hd : decide (z > 1125899906842624) = false := by simp; omega
          have hd2 : ¬ z > 1125899906842624 := by omega
          clear hz hh
          go_wp2_with fail
          go_roundg (zs.length - (k + 1))
          case measure => rw [HR.out]; omega
          case rel => exact ⟨k + 1, S + z, by omega, rfl, by first | rfl | simp, by first | rfl | simp, by omega, by omega, rfl, hN⟩
    · obtain rfl : k = zs.length := by omega
      have hE : Hid (S = zs.sum) := Lib.hid (by rw [← sumTo_all]; exact hh.out.1)
      have hO : Hid (okW zs = (decide (0 < S) && decide (S ≤ 1125899906842624))) := Lib.hid (by rw [hE.out]; exact okW_good hh.out.2)
      clear hh
      by_cases c2 : S ≤ 1125899906842624
      · have c3 : ¬ S > 1125899906842624 := by omega
        have HV : Hid (wholeV zs = S) := Lib.hid (by
          by_cases c1 : 0 < S
          · rw [wholeV_ok (by omega) (by rw [hO.out, decide_eq_true c1, decide_eq_true c2]; rfl), ← hE.out]
          · rw [wholeV_no (by rw [hO.out, decide_eq_false c1]; rfl)]; omega)
        go_wp2_with fail
        go_ret
        rw [HV.out]
        exact ⟨rfl, rfl⟩
      · have c3 : S > 1125899906842624 := by omega
        have HV : Hid (wholeV zs = 0) := Lib.hid (wholeV_no (by rw [hO.out, decide_eq_false c2, Bool.and_false]))
        go_wp2_with fail
        go_ret
        rw [HV.out]
        exact ⟨rfl, rfl⟩
set_option maxHeartbeats 1000000 in
set_option maxRecDepth 100000 in
theorem rshares_no (v : Value) (zs : List Int) (T : Int) (w : World) (hv : Ints .i64 w v zs) (hno : Sh.okS T zs = false) :
    Calls Try.prog 5 #[.int .i64 T, v] w (Bad w) := by
  have HW := Lib.hid (rwhole_any v zs w hv)
  by_cases h2 : T < 0
  · have d3 : decide (T < 0) = true := decide_eq_true h2
    obtain ⟨A, hA⟩ : ∃ A, A = wholeV zs := ⟨_, rfl⟩
    rw [← hA] at HW
    clear hA
    go_enter Try.func5, Try.ntmps5
    go_wp2_with fail
    refine HW.out.mono ?_
    rintro e w' ⟨rfl, rfl⟩
    go_wp2_with fail
    go_ret2
    exact ⟨rfl, rfl⟩
  · have d3 : decide (T < 0) = false := decide_eq_false h2
    by_cases h3 : T > 4611686018427387904
    · have d4 : decide (T > 4611686018427387904) = true := decide_eq_true h3
      obtain ⟨A, hA⟩ : ∃ A, A = wholeV zs := ⟨_, rfl⟩
      rw [← hA] at HW
      clear hA
      go_enter Try.func5, Try.ntmps5
      go_wp2_with fail
      refine HW.out.mono ?_
      rintro e w' ⟨rfl, rfl⟩
      go_wp2_with fail
      go_ret2
      exact ⟨rfl, rfl⟩
    · have d4 : decide (T > 4611686018427387904) = false := decide_eq_false h3
      have hz : wholeV zs = 0 := wholeV_zero (fun h => by
        have : Sh.okS T zs = true := by
          unfold Sh.okS
          simp only [Bool.and_eq_true, decide_eq_true_eq]
          exact ⟨⟨⟨h.1, by omega⟩, by omega⟩, h.2⟩
        rw [this] at hno
        cases hno)
      rw [hz] at HW
      clear hz hno
      go_enter Try.func5, Try.ntmps5
      go_wp2_with fail
      refine HW.out.mono ?_
      rintro e w' ⟨rfl, rfl⟩
      go_wp2_with fail
      go_ret2
      exact ⟨rfl, rfl⟩
/-- The best of those that are left, by the document's search. -/
def bstI (r : Nat → Nat) (G : Nat → Bool) : Nat → Int
  | 0 => -1
  | i + 1 => if G i = true then bstI r G i else if bstI r G i < 0 then (i : Int) else if r (bstI r G i).toNat < r i then (i : Int) else bstI r G i
theorem bstI_inv (r : Nat → Nat) (G : Nat → Bool) : ∀ i, (bstI r G i = -1 ∧ ∀ y, y < i → G y = true) ∨ ∃ b : Nat, bstI r G i = b ∧ b < i ∧ G b = false ∧ ∀ y, y < i → G y = false → Sh.bef r y b = false
  | 0 => .inl ⟨rfl, fun y h => by omega⟩
  | i + 1 => by
    unfold bstI
    by_cases hg : G i = true
    · rw [if_pos hg]
      rcases bstI_inv r G i with ⟨h1, h2⟩ | ⟨b, h1, h2, h3, h4⟩
      · exact .inl ⟨h1, fun y hy => by
          by_cases e : y = i
          · rw [e]; exact hg
          · exact h2 y (by omega)⟩
      · exact .inr ⟨b, h1, by omega, h3, fun y hy hf => by
          by_cases e : y = i
          · rw [e, hg] at hf; cases hf
          · exact h4 y (by omega) hf⟩
    · rw [if_neg hg]
      have hg' : G i = false := by simpa using hg
      rcases bstI_inv r G i with ⟨h1, h2⟩ | ⟨b, h1, h2, h3, h4⟩
      · rw [if_pos (by omega)]
        exact .inr ⟨i, rfl, by omega, hg', fun y hy hf => by
          by_cases e : y = i
          · rw [e]; exact (Sh.bef_swo r).irrefl _
          · rw [h2 y (by omega)] at hf; cases hf⟩
      · rw [h1, if_neg (by omega)]
        simp only [Int.toNat_natCast]
        by_cases hr : r b < r i
        · rw [if_pos hr]
          refine .inr ⟨i, rfl, by omega, hg', fun y hy hf => ?_⟩
          by_cases e : y = i
          · rw [e]; exact (Sh.bef_swo r).irrefl _
          · have := h4 y (by omega) hf
            rw [← Bool.not_eq_true, Sh.bef_iff] at this ⊢
            omega
        · rw [if_neg hr]
          refine .inr ⟨b, rfl, by omega, h3, fun y hy hf => ?_⟩
          by_cases e : y = i
          · rw [e, ← Bool.not_eq_true, Sh.bef_iff]; omega
          · exact h4 y (by omega) hf
def GT (r : Nat → Nat) (n k : Nat) (i : Nat) : Bool := decide (i ∈ (Sh.ordS r n).take k)
theorem bst_all (r : Nat → Nat) (n k : Nat) (h : k < n) : bstI r (GT r n k) n = (Sh.pk (Sh.ordS r n) k : Nat) := by
  have hp := Sh.pk_lt r n k h
  have hn := Sh.pk_new r n k h
  rcases bstI_inv r (GT r n k) n with ⟨_, h2⟩ | ⟨b, h1, h2, h3, h4⟩
  · have := h2 _ hp
    unfold GT at this
    rw [decide_eq_true_eq] at this
    exact absurd this hn
  · rw [h1]
    congr 1
    refine Sh.pk_is r n k b h h2 (by simpa [GT] using h3) (fun y hy hny => h4 y hy (by simpa [GT] using hny))
def rb (G : Nat → Bool) (n : Nat) : List Value := (List.range n).map fun i => Value.bool (G i)
theorem rb_len (G : Nat → Bool) (n : Nat) : (rb G n).length = n := by simp [rb]
theorem rb_at (G : Nat → Bool) (n i : Nat) (h : i < n) : (rb G n)[i]? = some (.bool (G i)) := by simp [rb, h]
theorem rb_set (G G' : Nat → Bool) (n x : Nat) (h : ∀ i, i < n → G' i = if i = x then true else G i) : (rb G n).set x (.bool true) = rb G' n := by
  apply List.ext_getElem (by simp [rb])
  intro i h1 h2
  have hi : i < n := by simpa [rb] using h2
  rw [List.getElem_set]
  simp only [rb, List.getElem_map, List.getElem_range]
  rw [h i hi]
  by_cases e : x = i
  · rw [if_pos e, if_pos e.symm]
  · rw [if_neg e, if_neg (Ne.symm e)]
theorem GT_zero (r : Nat → Nat) (n i : Nat) : GT r n 0 i = false := by simp [GT]
theorem GT_succ (r : Nat → Nat) (n k i : Nat) (h : k < n) : GT r n (k + 1) i = if i = Sh.pk (Sh.ordS r n) k then true else GT r n k i := by
  unfold GT
  rw [List.take_succ_eq_append_getElem (by rw [Sh.ordS_len]; exact h), ← Sh.pk_eq]
  by_cases e : i = Sh.pk (Sh.ordS r n) k
  · rw [if_pos e]; simp [e]
  · rw [if_neg e]; simp [e]
theorem made_false (n : Nat) : (madeCells #[Value.bool false] n).toList = rb (fun _ => false) n := by
  simp only [madeCells, rb, Array.toList_map, Array.toList_range, Nat.mul_one]
  apply List.ext_getElem (by simp)
  intro i h1 h2
  simp [Nat.mod_one]
theorem infoB : (Try.prog.info? 4).map (fun i => (i.zero, i.size, i.bytes)) = some (some (.bool false), 1, 1) := by kernel_rfl
set_option maxHeartbeats 8000000 in
set_option maxRecDepth 100000 in
theorem rshares_ok (v : Value) (zs : List Int) (T : Nat) (w : World) (hv : Ints .i64 w v zs) (hT : T ≤ 4611686018427387904) (hlen : zs.length ≤ 64) (hok : okW zs = true) :
    Calls Try.prog 5 #[.int .i64 T, v] w fun e w' => ∃ u, e = .returned (.tuple #[u, .int .i64 0]) ∧ w'.ownsRow w.heap.size 2 1 u zs.length (rc (Sh.shs (Sh.qN T zs) (Sh.rN T zs) zs.length (Sh.lackN T zs))) ∧ Below w.heap.size w w' := by
  obtain ⟨hr1, hs0, hs1⟩ := okW_parts hok
  have hpos : 0 < zs.length := some_one hs0
  have HW := rwhole_any v zs w hv
  rw [wholeV_ok hlen hok] at HW
  have HW := Lib.hid HW
  have HZ := Lib.hid hr1
  have HSN := Lib.hid (Sh.sum_N hok)
  obtain ⟨A, hA⟩ : ∃ A : Nat, A = zs.sum.toNat := ⟨_, rfl⟩
  have hA1 : 0 < A := by omega
  have hA2 : A ≤ 1125899906842624 := by omega
  have hAs : zs.sum = (A : Int) := by omega
  have HAN : Hid (A = zs.sum.toNat) := Lib.hid hA
  have HSA : Hid (Sh.sumN (Sh.wN zs) zs.length = A) := Lib.hid (by have := HSN.out; omega)
  rw [hAs] at HW
  have HQ : Hid (∀ k, k ≤ zs.length → Sh.sumN (Sh.qN T zs) k ≤ T) := Lib.hid (fun k hk => by
    have := Sh.quo_le (T := T) hA1 HSA.out k hk
    rw [hA] at this
    exact this)
  have HLK : Hid (Sh.lackN T zs < zs.length) := Lib.hid (by
    have := Sh.lack_lt (T := T) hA1 HSA.out hpos
    rw [hA] at this
    exact this)
  obtain ⟨a, cap, rfl, hm, _, hc⟩ := hv
  have HC := Lib.hid hc
  obtain ⟨iw, hi, hz0, hz1, hz2⟩ := info_parts infoI64
  obtain ⟨iu, hj, hx0, hx1, hx2⟩ := info_parts infoU64
  obtain ⟨ib, hb, hb0, hb1, hb2⟩ := info_parts infoB
  clear hc hm hr1 hA hs0 hs1 hok hAs HSN
  have d3 : decide ((T : Int) < 0) = false := decide_eq_false (by omega)
  have d4 : decide ((T : Int) > 4611686018427387904) = false := decide_eq_false (by omega)
  have d5 : ((A : Int) == 0) = false := beq_eq_false_iff_ne.2 (by omega)
  go_enter Try.func5, Try.ntmps5
  go_wp2_with fail
  refine HW.out.mono ?_
  rintro e w' ⟨rfl, rfl⟩
  clear HW
  go_wp2_with fail
  go_loopg [7, 8, 9, 10] zs.length (fun r vo vl la vi wr => ∃ (k : Nat) (L : Int), k ≤ zs.length ∧ r = zs.length - k ∧ vi = .int .i64 k ∧ la = .int .i64 L ∧ 0 ≤ L ∧ L ≤ T ∧ Hid (L + (Sh.sumN (Sh.qN T zs) k : Nat) = T ∧ wr.ownsRow w.heap.size 2 1 vo k (rc (uptoI (Sh.qN T zs) k)) ∧ wr.ownsRow w.heap.size 35 1 vl k (ru (upto (Sh.rN T zs) k)) ∧ Below w.heap.size w wr))
  case atStart => exact ⟨0, T, by omega, by omega, rfl, rfl, by omega, by omega, Lib.hid ⟨by simp [Sh.sumN], World.ownsRow_nil _ _ _ _, World.ownsRow_nil _ _ _ _, Below.refl _ _⟩⟩
  case round =>
    obtain ⟨k, L, hk, hr, rfl, rfl, hL0, hL1, hq⟩ := hrel
    have Q0 := Lib.hid hq.out.1
    have Q1 := Lib.hid hq.out.2.1
    have Q2 := Lib.hid hq.out.2.2.1
    have Q3 := Lib.hid hq.out.2.2.2
    have HR := Lib.hid hr
    clear hq hr
    by_cases hlt : k < zs.length
    · obtain ⟨b, off, hp, g⟩ := HC.out k hlt
      subst hp
      have hbz : b < w.heap.size := World.block_lt_of_cell? w _ g
      have hwk := HZ.out k hlt
      obtain ⟨z, hz⟩ : ∃ z : Nat, z = (nth zs k).toNat := ⟨_, rfl⟩
      have hzw : Hid (Sh.wN zs k = z) := Lib.hid hz.symm
      have hzA : z ≤ A := by
        have h1 := Sh.sumN_mono (Sh.wN zs) (show k + 1 ≤ zs.length from hlt)
        have h2 := HSA.out
        have h3 : Sh.sumN (Sh.wN zs) (k + 1) = Sh.sumN (Sh.wN zs) k + Sh.wN zs k := rfl
        have h4 := hzw.out
        omega
      have hcell : wr.cell? ⟨b, off + k, none⟩ = some (.int .i64 (z : Int)) := by
        rw [Q3.out.cell (p := ⟨b, off + k, none⟩) hbz, g]
        congr 2
        omega
      clear hz hwk
      obtain ⟨p, hp⟩ : ∃ p, T * z = p := ⟨_, rfl⟩
      obtain ⟨ph, hph⟩ : ∃ ph, p / 18446744073709551616 = ph := ⟨_, rfl⟩
      obtain ⟨pl, hpl⟩ : ∃ pl, p % 18446744073709551616 = pl := ⟨_, rfl⟩
      have hM := fun w => Mu.mul64_any T z (by omega) (by omega) w
      rw [hp, hph, hpl] at hM
      have hple : p ≤ 4611686018427387904 * A := by rw [← hp]; exact Nat.mul_le_mul hT hzA
      have hphA : ph < A := by omega
      have hD := fun w => div64_any ph pl A w hA1 (by omega) hphA (by omega)
      have e1 : ph * 18446744073709551616 + pl = p := by omega
      obtain ⟨q, hq⟩ : ∃ q, p / A = q := ⟨_, rfl⟩
      obtain ⟨r, hr⟩ : ∃ r, p % A = r := ⟨_, rfl⟩
      rw [e1, hq, hr] at hD
      have HQq : Hid (Sh.qN T zs k = q) := Lib.hid (by unfold Sh.qN; rw [hzw.out, hp, ← HAN.out, hq])
      have HRr : Hid (Sh.rN T zs k = r) := Lib.hid (by unfold Sh.rN; rw [hzw.out, hp, ← HAN.out, hr])
      have hqL : (q : Int) ≤ L := by
        have h1 := HQ.out (k + 1) hlt
        have h2 : Sh.sumN (Sh.qN T zs) (k + 1) = Sh.sumN (Sh.qN T zs) k + Sh.qN T zs k := rfl
        have h3 := HQq.out
        have h4 := Q0.out
        omega
      have HN : Hid (L - q + (Sh.sumN (Sh.qN T zs) (k + 1) : Nat) = T) := Lib.hid (by
        have h2 : Sh.sumN (Sh.qN T zs) (k + 1) = Sh.sumN (Sh.qN T zs) k + Sh.qN T zs k := rfl
        have h3 := HQq.out
        have h4 := Q0.out
        omega)
      have hrA : r < A := by rw [← hr]; exact Nat.mod_lt _ hA1
      have hM := Lib.hid hM
      have hD := Lib.hid hD
      have hkm : k + 1 ≤ maxLen := by unfold maxLen; omega
      have hkb : (k + 1) * 8 ≤ 140737488355328 := by omega
      clear hp hph hpl hq hr e1 hple g
      go_wp2_with fail
      refine (hM.out _).mono ?_
      rintro e w' ⟨rfl, rfl⟩
      go_wp2_with fail
      refine (hD.out _).mono ?_
      rintro e w' ⟨rfl, nd, rfl⟩
      have R1 := Lib.hid (own_below Q1.out (below_drewN (Below.refl _ _) nd))
      have R2 := Lib.hid (own_below Q2.out (below_drewN (Below.refl _ _) nd))
      have R3 := Lib.hid (below_drewN Q3.out nd)
      clear Q1 Q2 Q3 hcell
      generalize wr.drewN nd = wq at *
      have hzq : w.heap.size ≤ wq.heap.size := R3.out.size
      go_wp2_with (refine wpList_append_lies _ (by rfl) (.tmp 56) (.tmp 59) 22 (by rfl) w.heap.size 2 iw _ 1 8 Try.underlying22 hi hz0 hz1 hz2 rfl (by omega) u7 k (rc (uptoI (Sh.qN T zs) k)) (by rfl) (R1.out.alloc _) ⟨wq.heap.size, 0, none⟩ 1 1 [.int .i64 q] (by rfl) (by rfl) (World.news_of_block (cs := #[.int .i64 q]) (t := 2) (fr := (0, 0)) (heap_alloc_new wq _)) (by simp [Value.oneCell']) (by omega) hkm hkb (by simp; omega) (wq.heap.size + 1) (by simp) ?_)
      intro gg cap1 w3 hown1 hgrow hat hlt1
      have T1 : Hid (w3.ownsRow w.heap.size 2 1 (.slice (some ⟨gg, 0, none⟩) (k + 1) cap1) (k + 1) (rc (uptoI (Sh.qN T zs) (k + 1)))) := Lib.hid (by rw [uptoI_succ, HQq.out]; simpa [rc] using hown1)
      have T2 := Lib.hid ((R2.out.alloc (.cells #[.int .i64 q] 2 (0, 0))).kept hgrow (own_ne R2.out R1.out (by decide)))
      have T3 := Lib.hid ((R3.out.alloc hzq (.cells #[.int .i64 q] 2 (0, 0))).grown hgrow (by simp; omega) (fun kk hk' => (R1.out.lt kk hk').1))
      clear hown1 hgrow hat hlt1 R1 R2 R3
      have hz3 : w.heap.size ≤ w3.heap.size := T3.out.size
      go_wp2_with (refine wpList_append_lies _ (by rfl) (.tmp 61) (.tmp 63) 34 (by rfl) w.heap.size 35 iu _ 1 8 Try.underlying34 hj hx0 hx1 hx2 rfl (by omega) u8 k (ru (upto (Sh.rN T zs) k)) (by rfl) (T2.out.alloc _) ⟨w3.heap.size, 0, none⟩ 1 1 [.int .u64 r] (by rfl) (by rfl) (World.news_of_block (cs := #[.int .u64 r]) (t := 35) (fr := (0, 0)) (heap_alloc_new w3 _)) (by simp [Value.oneCell']) (by omega) hkm hkb (by simp; omega) (w3.heap.size + 1) (by simp) ?_)
      intro gg2 cap2 w5 hown1 hgrow hat hlt1
      have U2 : Hid (w5.ownsRow w.heap.size 35 1 (.slice (some ⟨gg2, 0, none⟩) (k + 1) cap2) (k + 1) (ru (upto (Sh.rN T zs) (k + 1)))) := Lib.hid (by rw [upto_succ, HRr.out]; simpa [ru] using hown1)
      have U1 := Lib.hid ((T1.out.alloc (.cells #[.int .u64 r] 35 (0, 0))).kept hgrow (own_ne T1.out T2.out (by decide)))
      have U3 := Lib.hid ((T3.out.alloc hz3 (.cells #[.int .u64 r] 35 (0, 0))).grown hgrow (by simp; omega) (fun kk hk' => (T2.out.lt kk hk').1))
      clear hown1 hgrow hat hlt1 T1 T2 T3
      go_wp2_with fail
      go_roundg (zs.length - (k + 1))
      case measure => rw [HR.out]; omega
      case rel => exact ⟨k + 1, L - q, by omega, rfl, by first | rfl | simp, by first | rfl | simp, by omega, by omega, Lib.hid ⟨HN.out, U1.out, U2.out, U3.out⟩⟩
    · obtain rfl : k = zs.length := by omega
      obtain ⟨LK, hLK⟩ : ∃ LK, LK = Sh.lackN T zs := ⟨_, rfl⟩
      have hLe : L = (LK : Int) := by
        have h1 := Q0.out
        have h2 : Sh.lackN T zs = T - Sh.sumN (Sh.qN T zs) zs.length := rfl
        omega
      subst hLe
      have hLK2 : LK < zs.length := by rw [hLK]; exact HLK.out
      have HLKe := Lib.hid hLK
      clear hLK HR
      obtain ⟨go', co, e8, ho1, ho2⟩ := Q1.out.form hpos
      subst e8
      obtain ⟨gl, cl, evl, hl1, hl2⟩ := Q2.out.form hpos
      subst evl
      have hglo : gl ≠ go' := fun h => by
        rcases own_ne Q2.out Q1.out (by decide) with h' | h'
        · cases h'
        · exact h' (by rw [h]; rfl)
      have HSH : Hid (uptoI (Sh.qN T zs) zs.length = Sh.shs (Sh.qN T zs) (Sh.rN T zs) zs.length 0) := Lib.hid (by simp [uptoI, Sh.shs])
      go_wp2_with (refine wpList_make_full _ (by rfl) (.tmp 70) (.tmp 70) 43 (by rfl) wr.heap.size 4 ib _ 1 Try.underlying43 hb hb0 hb1 .i64 .i64 _ _ zs.length (by rfl) (by rfl) (by rfl) (by rfl) (by rw [hb2]; omega) (by unfold maxLen; omega) (Nat.le_refl _) ?_)
      intro w1 hown hgrow
      rw [made_false] at hown
      obtain ⟨gg, hgg⟩ : ∃ gg, gg = wr.heap.size := ⟨_, rfl⟩
      rw [← hgg] at hown ⊢
      have Y3 : Hid (w1.ownsRow gg 4 1 (.slice (some ⟨gg, 0, none⟩) zs.length zs.length) zs.length (rb (GT (Sh.rN T zs) zs.length 0) zs.length)) := Lib.hid (by
        have e : rb (fun _ => false) zs.length = rb (GT (Sh.rN T zs) zs.length 0) zs.length := by
          simp [rb, GT_zero]
        rwa [e] at hown)
      have Y1 := Lib.hid (Q1.out.kept hgrow (.inr (by simp [Value.ownBlock])))
      have Y2 := Lib.hid (Q2.out.kept hgrow (.inr (by simp [Value.ownBlock])))
      have Y4 := Lib.hid (Q3.out.grown hgrow Q3.out.size (fun k hk => by cases hk))
      have hgg1 : w.heap.size ≤ gg := by rw [hgg]; exact Q3.out.size
      have hggo : go' < gg ∧ gl < gg := by omega
      clear hown hgrow hgg Q0 Q1 Q2 Q3
      go_wp2_with fail
      obtain ⟨wb, hwb⟩ : ∃ wb, wb = w1 := ⟨_, rfl⟩
      subst hwb
      go_loopg [9, 16, 17] LK (fun r la v16 v17 wr => ∃ k : Nat, k ≤ LK ∧ r = LK - k ∧ la = .int .i64 ((LK : Int) - k) ∧ Hid (wr.ownsRow w.heap.size 2 1 (.slice (some ⟨go', 0, none⟩) zs.length co) zs.length (rc (Sh.shs (Sh.qN T zs) (Sh.rN T zs) zs.length k)) ∧ wr.ownsRow w.heap.size 35 1 (.slice (some ⟨gl, 0, none⟩) zs.length cl) zs.length (ru (upto (Sh.rN T zs) zs.length)) ∧ wr.ownsRow gg 4 1 (.slice (some ⟨gg, 0, none⟩) zs.length zs.length) zs.length (rb (GT (Sh.rN T zs) zs.length k) zs.length) ∧ Below w.heap.size w wr))
      case atStart => exact ⟨0, by omega, by omega, by simp, Lib.hid ⟨by rw [← HSH.out]; exact Y1.out, Y2.out, Y3.out, Y4.out⟩⟩
      case round =>
        clear Y1 Y2 Y3 Y4
        obtain ⟨k, hk, hr, rfl, hq⟩ := hrel
        have HR2 := Lib.hid hr
        have P1 := Lib.hid hq.out.1
        have P2 := Lib.hid hq.out.2.1
        have P3 := Lib.hid hq.out.2.2.1
        have P4 := Lib.hid hq.out.2.2.2
        clear hr hq
        by_cases hlt : k < LK
        · have hkn : k < zs.length := by omega
          have hx := Sh.pk_lt (Sh.rN T zs) zs.length k hkn
          have hpos2 : (LK : Int) - k > 0 := by omega
          go_wp2_with fail
          obtain ⟨wk, hwk⟩ : ∃ wk, wk = wr := ⟨_, rfl⟩
          subst hwk
          go_loopg [16, 17] zs.length (fun r vb vi wr => ∃ (i dd : Nat), i ≤ zs.length ∧ r = zs.length - i ∧ vi = .int .i64 i ∧ vb = .int .i64 (bstI (Sh.rN T zs) (GT (Sh.rN T zs) zs.length k) i) ∧ wr = wk.drewN dd)
          case atStart => exact ⟨0, 0, by omega, by omega, rfl, rfl, rfl⟩
          case round =>
            obtain ⟨i, dd, hi', hr, rfl, rfl, rfl⟩ := hrel
            have HR3 := Lib.hid hr
            clear hr
            by_cases hlt2 : i < zs.length
            · have c1 : wk.cell? ⟨gg, i, none⟩ = some (.bool (GT (Sh.rN T zs) zs.length k i)) := by
                rw [P3.out.cellAt i (by omega)]
                exact rb_at _ _ _ hlt2
              have c2 : wk.cell? ⟨gl, i, none⟩ = some (.int .u64 (Sh.rN T zs i : Nat)) := by
                rw [P2.out.cellAt i (by omega)]
                simp [ru, upto, hlt2]
              have ww6 : IntKind.i64.wrap (i : Int) = (i : Int) := by rw [IntKind.wrap_i64]; omega
              have HB : Hid (bstI (Sh.rN T zs) (GT (Sh.rN T zs) zs.length k) (i + 1) = if GT (Sh.rN T zs) zs.length k i = true then bstI (Sh.rN T zs) (GT (Sh.rN T zs) zs.length k) i else if bstI (Sh.rN T zs) (GT (Sh.rN T zs) zs.length k) i < 0 then (i : Int) else if Sh.rN T zs (bstI (Sh.rN T zs) (GT (Sh.rN T zs) zs.length k) i).toNat < Sh.rN T zs i then (i : Int) else bstI (Sh.rN T zs) (GT (Sh.rN T zs) zs.length k) i) := Lib.hid rfl
              by_cases hG : GT (Sh.rN T zs) zs.length k i = true
              · rw [hG] at c1
                have HB2 : Hid (bstI (Sh.rN T zs) (GT (Sh.rN T zs) zs.length k) (i + 1) = bstI (Sh.rN T zs) (GT (Sh.rN T zs) zs.length k) i) := Lib.hid (by rw [HB.out, if_pos hG])
                clear HB hG
                generalize bstI (Sh.rN T zs) (GT (Sh.rN T zs) zs.length k) i = B at *
                go_wp2_with fail
                go_quiet (fail)
                go_wp2_with fail
                go_roundg (zs.length - (i + 1))
                case measure => rw [HR3.out]; omega
                case rel => exact ⟨i + 1, dd + nq, by omega, rfl, by first | rfl | simp, by rw [HB2.out], by first | rfl | exact World.drewN_drewN _ _ _⟩
              · rw [if_neg hG] at HB
                have hG' : GT (Sh.rN T zs) zs.length k i = false := by simpa using hG
                rw [hG'] at c1
                clear hG hG'
                rcases bstI_inv (Sh.rN T zs) (GT (Sh.rN T zs) zs.length k) i with ⟨h1, _⟩ | ⟨b, h1, h2, _, _⟩
                · rw [h1] at HB ⊢
                  rw [if_pos (by omega)] at HB
                  clear h1
                  have e1 : decide ((-1 : Int) < 0) = true := rfl
                  go_wp2_with fail
                  go_quiet (fail)
                  go_wp2_with fail
                  go_roundg (zs.length - (i + 1))
                  case measure => rw [HR3.out]; omega
                  case rel => exact ⟨i + 1, dd + nq, by omega, rfl, by first | rfl | simp, by rw [HB.out], by first | rfl | exact World.drewN_drewN _ _ _⟩
                · rw [h1] at HB ⊢
                  rw [if_neg (by omega)] at HB
                  simp only [Int.toNat_natCast] at HB
                  have c3 : wk.cell? ⟨gl, b, none⟩ = some (.int .u64 (Sh.rN T zs b : Nat)) := by
                    rw [P2.out.cellAt b (by omega)]
                    simp [ru, upto, show b < zs.length by omega]
                  have e1 : decide ((b : Int) < 0) = false := decide_eq_false (by omega)
                  have e2 : (b : Int) < (zs.length : Int) := by omega
                  have ww7 : IntKind.i64.wrap (b : Int) = (b : Int) := by rw [IntKind.wrap_i64]; omega
                  clear h1
                  obtain ⟨X, hX⟩ : ∃ X, Sh.rN T zs i = X := ⟨_, rfl⟩
                  obtain ⟨Y, hY⟩ : ∃ Y, Sh.rN T zs b = Y := ⟨_, rfl⟩
                  rw [hX] at c2
                  rw [hY] at c3
                  by_cases hXY : Y < X
                  · rw [if_pos (show Sh.rN T zs b < Sh.rN T zs i by omega)] at HB
                    clear hX hY
                    have e3 : decide ((X : Int) > (Y : Int)) = true := decide_eq_true (by omega)
                    have e4 : decide (Y < X) = true := decide_eq_true hXY
                    go_wp2_with fail
                    go_quiet (fail)
                    go_wp2_with fail
                    go_roundg (zs.length - (i + 1))
                    case measure => rw [HR3.out]; omega
                    case rel => exact ⟨i + 1, dd + nq, by omega, rfl, by first | rfl | simp, by rw [HB.out], by first | rfl | exact World.drewN_drewN _ _ _⟩
                  · rw [if_neg (show ¬ Sh.rN T zs b < Sh.rN T zs i by omega)] at HB
                    clear hX hY
                    have e3 : decide ((X : Int) > (Y : Int)) = false := decide_eq_false (by omega)
                    have e4 : decide (Y < X) = false := decide_eq_false hXY
                    go_wp2_with fail
                    go_quiet (fail)
                    go_wp2_with fail
                    go_roundg (zs.length - (i + 1))
                    case measure => rw [HR3.out]; omega
                    case rel => exact ⟨i + 1, dd + nq, by omega, rfl, by first | rfl | simp, by rw [HB.out], by first | rfl | exact World.drewN_drewN _ _ _⟩
            · obtain rfl : i = zs.length := by omega
              rw [bst_all _ _ _ hkn]
              have HGS : Hid (rb (GT (Sh.rN T zs) zs.length (k + 1)) zs.length = (rb (GT (Sh.rN T zs) zs.length k) zs.length).set (Sh.pk (Sh.ordS (Sh.rN T zs) zs.length) k) (.bool true)) := Lib.hid (rb_set _ _ _ _ (fun i _ => GT_succ _ _ _ i hkn)).symm
              have c1 : (wk.drewN dd).cell? ⟨gg, Sh.pk (Sh.ordS (Sh.rN T zs) zs.length) k, none⟩ = some (.bool (GT (Sh.rN T zs) zs.length k (Sh.pk (Sh.ordS (Sh.rN T zs) zs.length) k))) := by
                have := P3.out.cellAt (Sh.pk (Sh.ordS (Sh.rN T zs) zs.length) k) (by omega)
                rw [rb_at _ _ _ hx] at this
                exact this
              have f1 : (wk.drewN dd).frozen? ⟨gg, Sh.pk (Sh.ordS (Sh.rN T zs) zs.length) k, none⟩ = false := P3.out.frozenAt _
              have hqT : Sh.qN T zs (Sh.pk (Sh.ordS (Sh.rN T zs) zs.length) k) ≤ T := Nat.le_trans (sumN_ge _ _ _ hx) (HQ.out _ (Nat.le_refl _))
              have R1 := Lib.hid (own_below P1.out (below_drewN (Below.refl _ _) dd))
              have R2 := Lib.hid (own_below P2.out (below_drewN (Below.refl _ _) dd))
              have R3 := Lib.hid (own_below P3.out (below_drewN (Below.refl _ _) dd))
              have R4 := Lib.hid (below_drewN P4.out dd)
              have HSN' := Lib.hid (Sh.shs_new (Sh.qN T zs) (Sh.rN T zs) zs.length k hkn)
              have HST := Lib.hid (Sh.shs_step (Sh.qN T zs) (Sh.rN T zs) zs.length k hkn)
              clear P1 P2 P3 P4
              generalize wk.drewN dd = wq at *
              obtain ⟨qx, hqx⟩ : ∃ qx, Sh.qN T zs (Sh.pk (Sh.ordS (Sh.rN T zs) zs.length) k) = qx := ⟨_, rfl⟩
              rw [hqx] at hqT HST HSN'
              clear hqx
              obtain ⟨x, hxe⟩ : ∃ x, Sh.pk (Sh.ordS (Sh.rN T zs) zs.length) k = x := ⟨_, rfl⟩
              rw [hxe] at hx HGS c1 f1 HST HSN' ⊢
              clear hxe
              have S3 : Hid ((wq.setCell ⟨gg, x, none⟩ (.bool true)).ownsRow gg 4 1 (.slice (some ⟨gg, 0, none⟩) zs.length zs.length) zs.length (rb (GT (Sh.rN T zs) zs.length (k + 1)) zs.length)) := Lib.hid (by
                have := (R3.out.stored x (.bool true)).1
                rwa [← HGS.out] at this)
              have S1 := Lib.hid (ownsRow_setCell_other R1.out (a := ⟨gg, x, none⟩) (by simp [Value.ownBlock]; omega) (.bool true))
              have S2 := Lib.hid (ownsRow_setCell_other R2.out (a := ⟨gg, x, none⟩) (by simp [Value.ownBlock]; omega) (.bool true))
              have S4 := Lib.hid (R4.out.setCell (p := ⟨gg, x, none⟩) hgg1 (.bool true))
              clear R1 R2 R3 R4 HGS
              have c2 : (wq.setCell ⟨gg, x, none⟩ (.bool true)).cell? ⟨go', x, none⟩ = some (.int .i64 (qx : Nat)) := by
                rw [rc_at S1.out (Sh.shs_len _ _ _ _) _ hx, HSN'.out]
              have f2 : (wq.setCell ⟨gg, x, none⟩ (.bool true)).frozen? ⟨go', x, none⟩ = false := S1.out.frozenAt _
              have V1 : Hid (((wq.setCell ⟨gg, x, none⟩ (.bool true)).setCell ⟨go', x, none⟩ (.int .i64 ((qx : Int) + 1))).ownsRow w.heap.size 2 1 (.slice (some ⟨go', 0, none⟩) zs.length co) zs.length (rc (Sh.shs (Sh.qN T zs) (Sh.rN T zs) zs.length (k + 1)))) := Lib.hid (by
                have := (S1.out.stored x (.int .i64 ((qx : Int) + 1))).1
                rw [rc_set, HST.out] at this
                exact this)
              have V2 := Lib.hid (ownsRow_setCell_other S2.out (a := ⟨go', x, none⟩) (by simp [Value.ownBlock]; omega) (.int .i64 ((qx : Int) + 1)))
              have V3 := Lib.hid (ownsRow_setCell_other S3.out (a := ⟨go', x, none⟩) (by simp [Value.ownBlock]; omega) (.int .i64 ((qx : Int) + 1)))
              have V4 := Lib.hid (S4.out.setCell (p := ⟨go', x, none⟩) ho1 (.int .i64 ((qx : Int) + 1)))
              clear S1 S2 S3 S4
              have ex1 : (x : Int) < (zs.length : Int) := by omega
              go_wp2_with fail
              go_roundg (LK - (k + 1))
              case measure => rw [HR2.out]; omega
              case rel => exact ⟨k + 1, by omega, rfl, by first | rfl | (congr 1; omega), Lib.hid ⟨V1.out, V2.out, V3.out, V4.out⟩⟩
        · obtain rfl : k = LK := by omega
          have hz0' : ¬ (k : Int) - k > 0 := by omega
          go_wp2_with fail
          go_ret2
          rw [← HLKe.out]
          exact ⟨_, rfl, P1.out, P4.out⟩
end Go.Proofs.Ytdhlmflbefnekaa
