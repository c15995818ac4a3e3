/- The walk of RadioHops. -/
import Derived.Test.YtlkkkohgeakfaaaDoorRefHopsC
import Derived.Test.YtlkkkohgeakfaaaDoorIntsC
import Derived.Test.YtlkkkohgeakfaaaDoorRadioA
namespace Go.Proofs.YtlkkkohgeakfaaaDoor
open Go.RowKit Go.ChangeShapes
theorem Vars.mk {W : World} (h : Lib.TabIs Tryd.prog W "reveille/radio.table" .i64 radioL) : radioAt W := radio_mk h
theorem tmod_bd (n m : Int) (h : 0 < m) : -m < n.tmod m ∧ n.tmod m < m := by
  exact ⟨Int.lt_tmod_of_pos n h, Int.tmod_lt_of_pos n h⟩
theorem tmod_up (n m : Int) (h : 0 < m) : ∃ N : Nat, (N : Int) < m ∧ (n.tmod m + m).tmod m = (N : Int) := by
  have hb := tmod_bd n m h
  rw [Int.tmod_eq_emod_of_nonneg (show 0 ≤ n.tmod m + m by omega)]
  have h1 := Int.emod_nonneg (n.tmod m + m) (show m ≠ 0 by omega)
  have h2 := Int.emod_lt_of_pos (n.tmod m + m) h
  exact ⟨((n.tmod m + m) % m).toNat, by omega, by omega⟩
theorem ints_of_own {w : World} {B : Nat} {v : Value} {n : Nat} {zs : List Int} (h : w.ownsRow B 3 1 v n (icells zs)) (hn : zs.length = n) (hm : n ≤ maxLen) : Ints .i64 w v zs := by
  subst hn
  have h' := h
  rcases h.2 with ⟨rfl, h0⟩ | ⟨g, cap, cur, rfl, _⟩
  · exact ⟨none, 0, by rw [h0], hm, fun _ => ⟨List.length_eq_zero_iff.1 h0, rfl⟩, fun i hi => by omega⟩
  · exact ⟨some ⟨g, 0, none⟩, cap, rfl, hm, (fun h => by cases h), fun i hi => ⟨g, 0, rfl, by
      rw [Nat.zero_add, h'.cellAt i (by omega)]
      simp [nth_eq hi, hi]⟩⟩
/-- The beginning of a list. -/
theorem ints_pre {w : World} {a : Option Addr} {n cap k : Nat} {zs : List Int} (h : Ints .i64 w (.slice a n cap) zs) (hk : k ≤ zs.length) : Ints .i64 w (.slice a k cap) (zs.take k) := by
  obtain ⟨a', cap', he, hm, hn, hc⟩ := h
  simp only [Value.slice.injEq] at he
  obtain ⟨rfl, rfl, rfl⟩ := he
  have hl : (zs.take k).length = k := by simp; omega
  refine ⟨a, cap, by rw [hl], by omega, fun ha => ?_, fun i hi => ?_⟩
  · obtain ⟨h1, h2⟩ := hn ha
    subst h1
    exact ⟨by simp, h2⟩
  · obtain ⟨b, off, h1, h2⟩ := hc i (by omega)
    exact ⟨b, off, h1, by rw [Hop.nth_take (by omega)]; exact h2⟩
set_option maxHeartbeats 8000000 in
set_option maxRecDepth 100000 in
theorem radioHops_walk (s n f : Int) (W : World) (ws : (Lit.int .u64 s).wf = true) (wn : (Lit.int .i64 n).wf = true) (wf : (Lit.int .i64 f).wf = true) (_ : W.ShapedOpen Tryd.prog) (hT : radioAt W) :
    Calls Tryd.prog 5 #[.int .u64 s, .int .i64 n, .int .i64 f] W fun e w' => e = .returned (.bool true) ∧ Below W.heap.size W w' := by
  obtain ⟨s0, s1⟩ := bounds_u64 ws
  obtain ⟨seed, rfl⟩ : ∃ k : Nat, s = (k : Int) := ⟨s.toNat, by omega⟩
  have hs : seed < 18446744073709551616 := by omega
  obtain ⟨N, hN, e1⟩ := tmod_up n 401 (by omega)
  obtain ⟨K, hK, e2⟩ := tmod_up f ((N : Int) + 1) (by omega)
  have b1 := tmod_bd n 401 (by omega)
  have b2 := tmod_bd f ((N : Int) + 1) (by omega)
  have e3 : (f.tmod ((N : Int) + 1) + (N : Int) + 1) % ((N : Int) + 1) = (K : Int) := by
    rw [← e2, Int.tmod_eq_emod_of_nonneg (show 0 ≤ f.tmod ((N : Int) + 1) + ((N : Int) + 1) by omega), Int.add_assoc]
  clear e2
  have HS := Lib.hid hs
  have HT := Lib.hid hT
  clear hT ws wn wf s0 s1 hs
  go_enter Tryd.func5, Tryd.ntmps5
  go_wp2_with fail
  refine (hops_ok seed N _ HS.out (by omega)).mono ?_
  rintro e w1 ⟨v1, rfl, hown, hb⟩
  obtain ⟨a1, c1, rfl⟩ := own_slice hown
  have L1 := Lib.hid hown
  have B1 := Lib.hid hb
  clear hown hb
  go_wp2_with fail
  refine (hops_ok seed K _ HS.out (by omega)).mono ?_
  rintro e w2 ⟨v2, rfl, hown, hb⟩
  have B2 := Lib.hid (B1.out.trans (hb.mono B1.out.size))
  have L2 := Lib.hid (own_below L1.out hb)
  have M2 := Lib.hid hown
  clear hown hb
  have HL := Lib.hid (Hop.hopsV_len seed N HS.out)
  have HLK := Lib.hid (Hop.hopsV_len seed K HS.out)
  have hKN : K ≤ N := by omega
  have hcap : N ≤ c1 := by
    rcases L2.out.2 with ⟨h, _⟩ | ⟨g, cap, cur, h, _, _, hnc, _⟩
    · simp at h; omega
    · simp at h; omega
  have hKc : K ≤ c1 := by omega
  go_wp2_with fail
  have I1 := Lib.hid (ints_of_own M2.out HLK.out (by unfold maxLen; omega))
  have I2 := Lib.hid (ints_pre (ints_of_own L2.out HL.out (by unfold maxLen; omega)) (k := K) (by rw [HL.out]; omega))
  have I2' : Hid (Ints .i64 w2 (.slice a1 K c1) (Hop.hopsV seed K)) := Lib.hid (by have := I2.out; rw [Hop.hopsV_take seed N K HS.out hKN] at this; exact this)
  refine (ints_eq _ _ _ w2 I1.out I2'.out).mono ?_
  rintro e w' ⟨rfl, d3, rfl⟩
  have GD := Lib.hid (Hop.hopsV_good seed N HS.out)
  have L3 := Lib.hid (own_below L2.out (below_drewN (Below.refl w2.heap.size w2) d3))
  have B3 := Lib.hid (below_drewN B2.out d3)
  generalize w2.drewN d3 = w3 at *
  generalize Hop.hopsV seed N = H at *
  clear I1 I2 I2' L2 M2 B2 L1 B1 e3 e1 b1 b2
  go_wp2_with fail
  go_loopw [12] (fun s wr => ∃ i d : Nat, i ≤ N ∧ s = .int .i64 i ∧ wr = w3.drewN d) (fun s _ => N - (intOf s).toNat)
  case atStart => exact ⟨0, 0, by omega, rfl, rfl⟩
  case round =>
    obtain ⟨i, d, hi, rfl, rfl⟩ := hrel
    by_cases hlt : i < N
    · obtain ⟨g, cg, hg, _, _⟩ := L3.out.form (by omega)
      simp only [Value.slice.injEq] at hg
      obtain ⟨rfl, _, rfl⟩ := hg
      have hcell : Hid (∀ k, k < N → w3.cell? ⟨g, k, none⟩ = some (.int .i64 (nth H k))) := fun k hk => by
        have := HL.out
        rw [L3.out.cellAt k (by omega)]
        simp [nth_eq (show k < H.length by omega), show k < H.length by omega]
      obtain ⟨⟨p1, p2⟩, p3, p4⟩ := GD.out i (by have := HL.out; omega)
      have P4 := Lib.hid p4
      have c1 := hcell.out i hlt
      have n1 : decide (nth H i < 0) = false := by simp; omega
      have n2 : decide (nth H i > 19) = false := by simp; omega
      have e4 : ∃ J : Nat, J = i - i % 20 ∧ (i : Int) - (i : Int) % 20 = (J : Int) := ⟨_, rfl, by omega⟩
      obtain ⟨J, hJ, e4⟩ := e4
      have HJ := Lib.hid hJ
      have hJi : J ≤ i := by omega
      clear p1 p2 p4 hJ
      by_cases hi0 : 0 < i
      · have n3 : decide ((i : Int) > 0) = true := by simp; omega
        have n4 : (nth H i == nth H (i - 1)) = false := by simpa using p3 hi0
        have c2 := hcell.out (i - 1) (by omega)
        have i1 : (0 : Int) ≤ (i : Int) - 1 := by omega
        have i2 : (i : Int) - 1 < (N : Int) := by omega
        have i3 : ((i : Int) - 1).toNat = i - 1 := by omega
        clear p3
        go_wp2_with fail
        go_quiet (fail)
        clear i1 i2 i3 n1 n2 n3 n4 c2
        go_wp2_with fail
        go_loopw [13] (fun s wr => ∃ j e : Nat, J ≤ j ∧ j ≤ i ∧ s = .int .i64 j ∧ wr = w3.drewN e) (fun s _ => i - (intOf s).toNat)
        case atStart => exact ⟨J, _, Nat.le_refl _, hJi, rfl, rfl⟩
        case round =>
          obtain ⟨j, e, hJj, hji, rfl, rfl⟩ := hrel
          by_cases hjl : j < i
          · have c2 := hcell.out j (by omega)
            have n5 : (nth H j == nth H i) = false := by simpa using P4.out j (by have := HJ.out; omega) hjl
            have hjN : j < N := by omega
            go_wp2_with fail
            go_quiet (fail)
            go_wp2_with fail
            go_roundw
            case rel => exact ⟨j + 1, _, by omega, by omega, by go_num, rfl⟩
            case measure => simp [intOf]; omega
          · obtain rfl : j = i := by omega
            go_wp2_with fail
            go_roundw
            case rel => exact ⟨j + 1, _, by omega, by go_num, rfl⟩
            case measure => simp [intOf]; omega
      · obtain rfl : i = 0 := by omega
        have n3 : decide (((0 : Nat) : Int) > 0) = false := by decide
        clear p3
        go_wp2_with fail
        go_quiet (fail)
        clear n1 n2 n3
        go_wp2_with fail
        go_loopw [13] (fun s wr => ∃ e : Nat, s = .int .i64 0 ∧ wr = w3.drewN e) (fun s _ => 0 - (intOf s).toNat)
        case atStart => exact ⟨_, rfl, rfl⟩
        case round =>
          obtain ⟨e, rfl, rfl⟩ := hrel
          go_wp2_with fail
          go_roundw
          case rel => exact ⟨1, _, by omega, by go_num, rfl⟩
          case measure => simp [intOf]; omega
    · obtain rfl : i = N := by omega
      have ZB := Lib.hid (below_drewN B3.out d)
      have ZT : Hid (radioAt (w3.drewN d)) := Lib.hid (HT.out.grown ZB.out)
      go_wp2_with fail
      refine (awake_any _ ZT.out).mono ?_
      rintro e w' ⟨rfl, rfl⟩
      go_wp2_with fail
      go_ret
      exact ⟨rfl, ZB.out⟩
end Go.Proofs.YtlkkkohgeakfaaaDoor
