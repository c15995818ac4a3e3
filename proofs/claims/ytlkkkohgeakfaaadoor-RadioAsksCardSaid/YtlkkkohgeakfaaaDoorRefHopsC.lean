/- The document's Hops. -/
import Derived.Test.YtlkkkohgeakfaaaDoorHopsC
namespace Go.Proofs.YtlkkkohgeakfaaaDoor
open Go.RowKit Go.ChangeShapes
/-- The one's row is not the other's. -/
def Apart (v : Value) (g : Nat) : Prop := v.ownBlock ≠ some g
/-- Two cells of an owned row change places. -/
theorem swap_own {w : World} {B g c : Nat} {L : List Int} (h : w.ownsRow B 3 1 (.slice (some ⟨g, 0, none⟩) 20 c) 20 (icells L)) (hl : L.length = 20) (i j : Nat) (hi : i < 20) (hj : j < 20) :
    w.cell? ⟨g, i, none⟩ = some (.int .i64 (nth L i)) ∧ w.cell? ⟨g, j, none⟩ = some (.int .i64 (nth L j)) ∧ w.frozen? ⟨g, i, none⟩ = false ∧ w.frozen? ⟨g, j, none⟩ = false ∧
    (∃ u, (w.setCell ⟨g, i, none⟩ (.int .i64 (nth L j))).cell? ⟨g, j, none⟩ = some u) ∧ (w.setCell ⟨g, i, none⟩ (.int .i64 (nth L j))).frozen? ⟨g, j, none⟩ = false ∧
    ((w.setCell ⟨g, i, none⟩ (.int .i64 (nth L j))).setCell ⟨g, j, none⟩ (.int .i64 (nth L i))).ownsRow B 3 1 (.slice (some ⟨g, 0, none⟩) 20 c) 20 (icells (Hop.swp L i j)) := by
  have cell : ∀ (w : World) (L : List Int), w.ownsRow B 3 1 (.slice (some ⟨g, 0, none⟩) 20 c) 20 (icells L) → L.length = 20 → ∀ k, k < 20 → w.cell? ⟨g, k, none⟩ = some (.int .i64 (nth L k)) := by
    intro w L h hl k hk
    rw [h.cellAt k (by omega)]
    simp [nth_eq (show k < L.length by omega), show k < L.length by omega]
  have h1 := (h.stored i (.int .i64 (nth L j))).1
  rw [show (icells L).set i (.int .i64 (nth L j)) = icells (L.set i (nth L j)) by simp [List.map_set]] at h1
  have h2 := (h1.stored j (.int .i64 (nth L i))).1
  rw [show (icells (L.set i (nth L j))).set j (.int .i64 (nth L i)) = icells (Hop.swp L i j) by simp [List.map_set, Hop.swp]] at h2
  exact ⟨cell w L h hl i hi, cell w L h hl j hj, h.frozenAt i, h.frozenAt j, ⟨_, cell _ _ h1 (by simpa using hl) j hj⟩, h1.frozenAt j, h2⟩
theorem row0_take (k : Nat) (hk : k < 20) : icells (Hop.row0.take (k + 1)) = icells (Hop.row0.take k) ++ [.int .i64 (k : Int)] := by
  rw [List.take_succ_eq_append_getElem (by simpa [Hop.row0] using hk)]
  simp [Hop.row0]
theorem take_snoc (L : List Int) (k : Nat) (h : k < L.length) : L.take (k + 1) = L.take k ++ [nth L k] := by
  rw [List.take_succ_eq_append_getElem h, nth_eq h]
set_option maxHeartbeats 4000000 in
set_option maxRecDepth 100000 in
theorem refHops_ok (seed n : Nat) (w : World) (hs : seed < 18446744073709551616) (hn : n ≤ 4096) :
    Calls Tryd.prog 24 #[.int .u64 seed, .int .i64 n] w fun e w' => ∃ v, e = .returned (.tuple #[v, .int .i64 0]) ∧ w'.ownsRow w.heap.size 3 1 v n (icells (Hop.hopsV seed n)) ∧ Below w.heap.size w w' := by
  obtain ⟨iw, hi, hz0, hz1, hz2⟩ := info_parts infoInt
  have HS := Lib.hid hs
  have g1 : ¬ (n : Int) < 0 := by omega
  have g2 : decide ((n : Int) > 4096) = false := by simp; omega
  clear hs
  go_enter Tryd.func24, Tryd.ntmps24
  go_upto_if 21 with fail
  go_cut [6] (fun s wx => s = .int .u64 (Hop.seed0 seed : Nat) ∧ w = wx)
  case first =>
    by_cases h0 : seed = 0
    · have e := seed_eq0 h0
      have e2 : Hid (Hop.seed0 seed = 11400714819323198485) := by unfold Hid Hop.seed0; rw [if_pos h0]
      clear h0
      go_wp2_with fail
      go_meet
      exact ⟨by rw [e2.out]; rfl, rfl⟩
    · have e := seed_ne0 h0
      have e2 : Hid (Hop.seed0 seed = seed) := by unfold Hid Hop.seed0; rw [if_neg h0]
      clear h0
      go_wp2_with fail
      go_meet
      exact ⟨by rw [e2.out], rfl⟩
  case rest =>
    obtain ⟨rfl, rfl⟩ := hcut
    go_wp2_with fail
    go_loopg [7, 8] 20 (fun r v s wr => ∃ k : Nat, k ≤ 20 ∧ r = 20 - k ∧ s = .int .i64 k ∧ Hid (wr.ownsRow w.heap.size 3 1 v k (icells (Hop.row0.take k)) ∧ Below w.heap.size w wr))
    case atStart => exact ⟨0, by omega, by omega, rfl, Lib.hid ⟨World.ownsRow_nil _ _ _ _, Below.refl _ _⟩⟩
    case round =>
      obtain ⟨k, hk, hr, rfl, hq⟩ := hrel
      obtain ⟨q1, q2⟩ := hq.out
      have Q1 := Lib.hid q1
      have Q2 := Lib.hid q2
      have HR0 := Lib.hid hr
      clear q1 q2 hq hr
      have hz : w.heap.size ≤ wr.heap.size := Q2.out.size
      by_cases hlt : k < 20
      · have hkm : k + 1 ≤ maxLen := by unfold maxLen; omega
        have hkb : (k + 1) * 8 ≤ 140737488355328 := by omega
        go_wp2_with (refine wpList_append_lies _ (by rfl) (.tmp 26) (.tmp 28) 40 (by rfl) w.heap.size 3 iw _ 1 8 Tryd.underlying40 hi hz0 hz1 hz2 rfl (by omega) u7 k (icells (Hop.row0.take k)) (by rfl) (Q1.out.alloc _) ⟨wr.heap.size, 0, none⟩ 1 1 [.int .i64 (k : Int)] (by rfl) (by rfl) (World.news_of_block (cs := #[.int .i64 (k : Int)]) (t := 3) (fr := (0, 0)) (heap_alloc_new wr _)) (by simp [Value.oneCell']) (by omega) hkm hkb (by simp; omega) (wr.heap.size + 1) (by simp) ?_)
        intro gg cap1 w1 hown1 hgrow hat hlt1
        have T1 := Lib.hid hown1
        have T2 := Lib.hid ((Q2.out.alloc hz (.cells #[.int .i64 (k : Int)] 3 (0, 0))).grown hgrow (by simp; omega) (fun kk hk' => ((Q1.out.lt kk hk').1)))
        clear hown1 hgrow hat hlt1
        go_wp2_with fail
        go_roundg (20 - (k + 1))
        case measure => rw [HR0.out]; omega
        case rel => exact ⟨k + 1, by omega, rfl, by go_num, Lib.hid ⟨by rw [row0_take k hlt, show icells (Hop.row0.take k) = List.take k (icells Hop.row0) by simp [icells]]; exact T1.out, T2.out⟩⟩
      · obtain rfl : k = 20 := by omega
        simp only [Int.cast_ofNat_Int]
        obtain ⟨g, c, rfl, _, _⟩ := Q1.out.form (by omega)
        have Q1' : Hid (wr.ownsRow w.heap.size 3 1 (.slice (some ⟨g, 0, none⟩) 20 c) 20 (icells Hop.row0)) := Lib.hid (by have := Q1.out; rw [List.take_of_length_le (by simp [Hop.row0])] at this; exact this)
        obtain ⟨wo, rfl⟩ : ∃ wo : World, wo = wr := ⟨_, rfl⟩
        clear Q1
        go_wp2_with fail
        go_loopg [6, 9] ((n + 19) / 20) (fun r s v wr => ∃ m : Nat, m ≤ (n + 19) / 20 ∧ r = (n + 19) / 20 - m ∧ s = .int .u64 ((Hop.roundsS seed m).x : Nat) ∧ Hid (wr.ownsRow w.heap.size 3 1 v (min (20 * m) n) (icells ((Hop.outS seed m).take n)) ∧ Below w.heap.size w wr ∧ Apart v g ∧
          wr.ownsRow w.heap.size 3 1 (.slice (some ⟨g, 0, none⟩) 20 c) 20 (icells (Hop.roundsS seed m).row)))
        case atStart => exact ⟨0, by omega, by omega, rfl, Lib.hid ⟨by rw [show min (20 * 0) n = 0 by omega]; simpa [Hop.outS, Hop.roundsS] using World.ownsRow_nil wo w.heap.size 3 1, Q2.out, (fun h => by cases h), Q1'.out⟩⟩
        case round =>
          obtain ⟨m, hm, hr, rfl, hq⟩ := hrel
          obtain ⟨q1, q2, q3, q4⟩ := hq.out
          have HR := Lib.hid hr
          have Q2 := Lib.hid q2
          have Q3 := Lib.hid q3
          have Q4 := Lib.hid q4
          by_cases hlt : m < (n + 19) / 20
          · have q1' : wr.ownsRow w.heap.size 3 1 u9 (20 * m) (icells (Hop.outS seed m)) := by
              have e1 : min (20 * m) n = 20 * m := by omega
              have e2 : (Hop.outS seed m).take n = Hop.outS seed m := List.take_of_length_le (by rw [(Hop.rounds_ok seed HS.out m).2.2.2]; omega)
              rw [e1, e2] at q1; exact q1
            have OWN := Lib.hid q1'
            obtain ⟨al, cl, rfl⟩ := own_slice q1'
            have t1 : 20 * m < n := by omega
            have t2 : decide (20 * (m : Int) < (n : Int)) = true := by simp; omega
            clear q1 q2 q3 q4 hq hr q1'
            go_wp2_with fail
            obtain ⟨wp, rfl⟩ : ∃ wp : World, wp = wr := ⟨_, rfl⟩
            have OK := Lib.hid (Hop.rounds_ok seed HS.out m)
            go_loopg [6, 10] 19 (fun r s v wr => ∃ k : Nat, k ≤ 19 ∧ r = k ∧ v = .int .i64 k ∧ s = .int .u64 ((Hop.sweepTo (19 - k) ((Hop.roundsS seed m).x, (Hop.roundsS seed m).row)).1 : Nat) ∧ Hid (wr.ownsRow w.heap.size 3 1 (.slice al (20 * m) cl) (20 * m) (icells (Hop.outS seed m)) ∧ Below w.heap.size w wr ∧
              wr.ownsRow w.heap.size 3 1 (.slice (some ⟨g, 0, none⟩) 20 c) 20 (icells (Hop.sweepTo (19 - k) ((Hop.roundsS seed m).x, (Hop.roundsS seed m).row)).2)))
            case atStart => exact ⟨19, by omega, rfl, rfl, rfl, Lib.hid ⟨OWN.out, Q2.out, Q4.out⟩⟩
            case round =>
              obtain ⟨k, hk, hr, rfl, rfl, hh⟩ := hrel
              obtain ⟨q1, q2, q4⟩ := hh.out
              have HRI := Lib.hid hr
              have P1 := Lib.hid q1
              have P2 := Lib.hid q2
              have P4 := Lib.hid q4
              clear q1 q2 q4 hh hr
              by_cases hlq : 1 ≤ k
              · obtain ⟨o1, o2, o3⟩ := Hop.sweepTo_ok ((Hop.roundsS seed m).x, (Hop.roundsS seed m).row) OK.out.1 OK.out.2.1 (19 - k) (by omega)
                have O2 := Lib.hid o2
                have HSU := Hop.sweepTo_succ (19 - k) ((Hop.roundsS seed m).x, (Hop.roundsS seed m).row)
                rw [show 19 - k + 1 = 19 - (k - 1) by omega, show 19 - (19 - k) = k by omega] at HSU
                replace HSU := Lib.hid HSU
                clear o2 o3
                generalize Hop.sweepTo (19 - k) ((Hop.roundsS seed m).x, (Hop.roundsS seed m).row) = S at *
                obtain ⟨X, R⟩ := S
                simp only at o1
                have hRl : R.length = 20 := O2.out
                obtain ⟨xa, xb, a1, a2, x1, x2, x3⟩ := mix_eqs X o1
                have hM := Hop.mixU_lt X o1
                have HSU2 : Hid (Hop.sweepTo (19 - (k - 1)) ((Hop.roundsS seed m).x, (Hop.roundsS seed m).row) = (Hop.mixU X, Hop.swp R k (Hop.mixU X % (k + 1)))) := HSU
                clear HSU
                generalize Hop.mixU X = M at *
                obtain ⟨y1, y2⟩ := tmod_eqs M k
                have hJ : M % (k + 1) < k + 1 := Nat.mod_lt _ (by omega)
                generalize M % (k + 1) = J at *
                obtain ⟨c1, c2, c3, c4, ⟨u, c5⟩, c6, c7⟩ := swap_own (L := R) P4.out hRl k J (by omega) (by omega)
                have C7 := Lib.hid c7
                clear c7 hRl
                have hJ2 : (J : Int) < 20 := by omega
                have hk2 : (k : Int) < 20 := by omega
                have hk3 : (k : Int) ≥ 1 := by omega
                have hJ3 : J < 20 := by omega
                have hk4 : k < 20 := by omega
                go_wp2_with fail
                go_region
                all_goals go_wp2_with fail
                all_goals go_roundg (k - 1)
                case measure => rw [HRI.out]; omega
                case rel =>
                  refine ⟨k - 1, by omega, rfl, by rw [show ((k - 1 : Nat) : Int) = (k : Int) - 1 by omega], by rw [HSU2.out], Lib.hid ⟨?_, ?_, ?_⟩⟩
                  · exact ownsRow_setCell_other (ownsRow_setCell_other P1.out.drew (a := ⟨g, k, none⟩) Q3.out _) (a := ⟨g, J, none⟩) Q3.out _
                  · exact (P2.out.drew.setCell (p := ⟨g, k, none⟩) (P4.out.lt g rfl).1 _).setCell (p := ⟨g, J, none⟩) (P4.out.lt g rfl).1 _
                  · rw [HSU2.out]; exact C7.out
              · obtain rfl : k = 0 := by omega
                obtain ⟨o1, o2, o3⟩ := Hop.sweepTo_ok ((Hop.roundsS seed m).x, (Hop.roundsS seed m).row) OK.out.1 OK.out.2.1 19 (by omega)
                have O2 := Lib.hid o2
                have OL := Lib.hid OK.out.2.2.2
                have HX : Hid ((Hop.roundsS seed (m + 1)).x = (Hop.sweepTo 19 ((Hop.roundsS seed m).x, (Hop.roundsS seed m).row)).1 ∧ (Hop.roundsS seed (m + 1)).row = Hop.fixed (Hop.outS seed m) (Hop.sweepTo 19 ((Hop.roundsS seed m).x, (Hop.roundsS seed m).row)).2) := ⟨rfl, rfl⟩
                have HO := Lib.hid (Hop.take_next seed n m HS.out (by omega))
                have HL1 := Lib.hid ((Hop.rounds_ok seed HS.out (m + 1)).2.1)
                simp only [Nat.sub_zero] at P4 ⊢
                clear o1 o2 o3 OK
                generalize Hop.sweepTo 19 ((Hop.roundsS seed m).x, (Hop.roundsS seed m).row) = S at *
                obtain ⟨X, T⟩ := S
                generalize Hop.outS seed m = O at *
                simp only at HX O2 P4 ⊢
                generalize hrow' : (Hop.roundsS seed (m + 1)).row = R' at *
                have HRW := Lib.hid hrow'
                clear hrow'
                have cellT : ∀ k, k < 20 → wr.cell? ⟨g, k, none⟩ = some (.int .i64 (nth T k)) := fun k hk => by
                  have := O2.out
                  rw [P4.out.cellAt k (by omega)]
                  simp [nth_eq (show k < T.length by omega), show k < T.length by omega]
                have CT := Lib.hid cellT
                clear cellT
                go_wp2_with fail
                go_cut [84] (fun t wx => t = .bool (decide (O.length ≠ 0 ∧ nth T 0 = nth O (O.length - 1))) ∧ ∃ d, wx = wr.drewN d)
                case first =>
                  by_cases hm0 : m = 0
                  · subst hm0
                    have d1 : decide (20 * ((0 : Nat) : Int) > 0) = false := by decide
                    have d2 : (20 * (0 : Nat)) = 0 := rfl
                    have e3 : decide (O.length ≠ 0 ∧ nth T 0 = nth O (O.length - 1)) = false := by simp [OL.out]
                    have E3 := Lib.hid e3
                    clear e3
                    go_quiet (fail)
                    go_wp2_with fail
                    go_meet
                    exact ⟨by rw [E3.out], _, rfl⟩
                  · obtain ⟨gl, cl', hal, _, _⟩ := P1.out.form (by omega)
                    simp only [Value.slice.injEq] at hal
                    obtain ⟨rfl, _, rfl⟩ := hal
                    have c1 : wr.cell? ⟨gl, 20 * m - 1, none⟩ = some (.int .i64 (nth O (O.length - 1))) := by
                      rw [P1.out.cellAt _ (by have := OL.out; simp; omega), OL.out]
                      simp [nth_eq (show 20 * m - 1 < O.length by have := OL.out; omega), show 20 * m - 1 < O.length by have := OL.out; omega]
                    have c2 : wr.cell? ⟨g, 0, none⟩ = some (.int .i64 (nth T 0)) := CT.out 0 (by omega)
                    have d1 : decide (20 * (m : Int) > 0) = true := by simp; omega
                    have E3 : Hid (decide (O.length ≠ 0 ∧ nth T 0 = nth O (O.length - 1)) = (nth T 0 == nth O (O.length - 1))) := by
                      unfold Hid
                      rw [Bool.eq_iff_iff]
                      have hl : O.length ≠ 0 := by have := OL.out; omega
                      simp only [decide_eq_true_eq, beq_iff_eq]
                      exact ⟨And.right, fun h => ⟨hl, h⟩⟩
                    have i1 : (0 : Int) ≤ 20 * (m : Int) - 1 := by omega
                    have i2 : 20 * (m : Int) - 1 < 20 * (m : Int) := by omega
                    have i3 : (20 * (m : Int) - 1).toNat = 20 * m - 1 := by omega
                    go_quiet (fail)
                    go_wp2_with fail
                    go_meet
                    exact ⟨by rw [E3.out], _, rfl⟩
                case rest =>
                  obtain ⟨rfl, d, rfl⟩ := hcut
                  have P1' := Lib.hid (own_below P1.out (below_drewN (Below.refl wr.heap.size wr) d))
                  have P2' := Lib.hid (below_drewN P2.out d)
                  have P4' := Lib.hid (own_below P4.out (below_drewN (Below.refl wr.heap.size wr) d))
                  generalize wr.drewN d = wz at *
                  clear P1 P2 P4 CT
                  generalize hcb : decide (O.length ≠ 0 ∧ nth T 0 = nth O (O.length - 1)) = cb at *
                  have HCB := Lib.hid hcb
                  clear hcb
                  go_upto_if 84 with fail
                  go_cut [] (fun wx => Hid (wx.ownsRow w.heap.size 3 1 (.slice al (20 * m) cl) (20 * m) (icells O) ∧ Below w.heap.size w wx ∧ wx.ownsRow w.heap.size 3 1 (.slice (some ⟨g, 0, none⟩) 20 c) 20 (icells R')))
                  case first =>
                    cases cb with
                    | true =>
                      have hf : Hid (R' = Hop.swp T 0 1) := by unfold Hid; rw [HX.out.2]; unfold Hop.fixed; rw [if_pos (of_decide_eq_true HCB.out)]
                      obtain ⟨c1, c2, c3, c4, ⟨u, c5⟩, c6, c7⟩ := swap_own (L := T) P4'.out O2.out 0 1 (by omega) (by omega)
                      have C7 := Lib.hid c7
                      clear c7
                      go_wp2_with fail
                      go_region
                      all_goals go_wp2_with fail
                      all_goals go_meet
                      all_goals refine Lib.hid ⟨?_, ?_, ?_⟩
                      · exact ownsRow_setCell_other (ownsRow_setCell_other P1'.out.drew (a := ⟨g, 0, none⟩) Q3.out _) (a := ⟨g, 1, none⟩) Q3.out _
                      · exact (P2'.out.drew.setCell (p := ⟨g, 0, none⟩) (P4'.out.lt g rfl).1 _).setCell (p := ⟨g, 1, none⟩) (P4'.out.lt g rfl).1 _
                      · rw [hf.out]; exact C7.out
                    | false =>
                      have hf : Hid (R' = T) := by unfold Hid; rw [HX.out.2]; unfold Hop.fixed; rw [if_neg (of_decide_eq_false HCB.out)]
                      go_wp2_with fail
                      go_meet
                      exact Lib.hid ⟨P1'.out, P2'.out, by rw [hf.out]; exact P4'.out⟩
                  case rest =>
                    obtain ⟨q1, q2, q4⟩ := hcut.out
                    have P1 := Lib.hid q1
                    have P2 := Lib.hid q2
                    have P4 := Lib.hid q4
                    clear q1 q2 q4 hcut P1' P2' P4' wz
                    obtain ⟨K, hK⟩ : ∃ K : Nat, K = min 20 (n - 20 * m) := ⟨_, rfl⟩
                    have HK := Lib.hid hK
                    have hK1 : K ≤ 20 := by omega
                    clear hK
                    go_wp2_with fail
                    go_loopg [9, 12] K (fun r v s wr => ∃ k : Nat, k ≤ K ∧ r = K - k ∧ s = .int .i64 k ∧ Hid (wr.ownsRow w.heap.size 3 1 v (20 * m + k) (icells (O ++ R'.take k)) ∧ Below w.heap.size w wr ∧ Apart v g ∧ wr.ownsRow w.heap.size 3 1 (.slice (some ⟨g, 0, none⟩) 20 c) 20 (icells R')))
                    case atStart => exact ⟨0, by omega, by omega, rfl, Lib.hid ⟨by simpa using P1.out, P2.out, Q3.out, P4.out⟩⟩
                    case round =>
                      obtain ⟨k, hk, hr, rfl, hq⟩ := hrel
                      obtain ⟨q1, q2, q3, q4⟩ := hq.out
                      have Z1 := Lib.hid q1
                      have Z2 := Lib.hid q2
                      have Z3 := Lib.hid q3
                      have Z4 := Lib.hid q4
                      have ZR := Lib.hid hr
                      obtain ⟨ao, co, rfl⟩ := own_slice q1
                      clear q1 q2 q3 q4 hq hr
                      have hz : w.heap.size ≤ wr.heap.size := Z2.out.size
                      by_cases hlt2 : k < K
                      · have hkm : 20 * m + k + 1 ≤ maxLen := by unfold maxLen; have := HK.out; omega
                        have hkb : (20 * m + k + 1) * 8 ≤ 140737488355328 := by have := HK.out; omega
                        have b1 : decide ((k : Int) < 20) = true := by simp; omega
                        have b2 : decide (20 * (m : Int) + (k : Int) < (n : Int)) = true := by simp; have := HK.out; omega
                        have b3 : k < 20 := by omega
                        have c1 : wr.cell? ⟨g, k, none⟩ = some (.int .i64 (nth R' k)) := by
                          have := HL1.out
                          rw [Z4.out.cellAt k (by omega)]
                          simp [nth_eq (show k < R'.length by omega), show k < R'.length by omega]
                        go_wp2_with (refine wpList_append_lies _ (by rfl) (.tmp 105) (.tmp 110) 40 (by rfl) w.heap.size 3 iw _ 1 8 Tryd.underlying40 hi hz0 hz1 hz2 rfl (by omega) (.slice ao (20 * m + k) co) (20 * m + k) (icells (O ++ R'.take k)) (by rfl) (Z1.out.alloc _) ⟨wr.heap.size, 0, none⟩ 1 1 [.int .i64 (nth R' k)] (by rfl) (by rfl) (World.news_of_block (cs := #[.int .i64 (nth R' k)]) (t := 3) (fr := (0, 0)) (heap_alloc_new wr _)) (by simp [Value.oneCell']) (by omega) hkm hkb (by simp; omega) (wr.heap.size + 1) (by simp) ?_)
                        intro gg cap1 w1 hown1 hgrow hat hlt1
                        have T1 := Lib.hid hown1
                        have T2 := Lib.hid ((Z2.out.alloc hz (.cells #[.int .i64 (nth R' k)] 3 (0, 0))).grown hgrow (by simp; omega) (fun kk hk' => (Z1.out.lt kk hk').1))
                        have T4 := Lib.hid ((Z4.out.alloc (.cells #[.int .i64 (nth R' k)] 3 (0, 0))).kept hgrow (.inr fun h => Z3.out h.symm))
                        have T3 : Hid (Apart (.slice (some ⟨gg, 0, none⟩) (20 * m + k + 1) cap1) g) := Lib.hid (by
                          intro h
                          simp only [Value.ownBlock, Option.some.injEq] at h
                          rcases hat with h' | h'
                          · exact Z3.out (by rw [h', h])
                          · have h2 : g < wr.heap.size := (Z4.out.lt g rfl).2
                            omega)
                        have HC := Lib.hid (take_snoc R' k (by have := HL1.out; omega))
                        clear hown1 hgrow hat hlt1
                        go_wp2_with fail
                        go_roundg (K - (k + 1))
                        case measure => rw [ZR.out]; omega
                        case rel =>
                          refine ⟨k + 1, by omega, rfl, by go_num, Lib.hid ⟨?_, T2.out, T3.out, T4.out⟩⟩
                          rw [HC.out]
                          have := T1.out
                          simpa [icells, Nat.add_assoc] using this
                      · obtain rfl : k = K := by omega
                        have hfin : Hid (min (20 * (m + 1)) n = 20 * m + k ∧ (Hop.outS seed (m + 1)).take n = O ++ R'.take k) := Lib.hid (by
                          have h1 := HK.out
                          have h2 := HL1.out
                          refine ⟨by omega, ?_⟩
                          rw [HO.out]
                          congr 1
                          by_cases h3 : n - 20 * m ≤ 20
                          · congr 1; omega
                          · rw [List.take_of_length_le (by omega), List.take_of_length_le (by omega)])
                        have hback : Hid (wr.ownsRow w.heap.size 3 1 (.slice ao (20 * m + k) co) (min (20 * (m + 1)) n) (icells ((Hop.outS seed (m + 1)).take n))) := Lib.hid (by rw [hfin.out.1, hfin.out.2]; exact Z1.out)
                        by_cases hK20 : k = 20
                        · have b1 : decide ((k : Int) < 20) = false := by simp; omega
                          clear hK20
                          go_wp2_with fail
                          go_roundg ((n + 19) / 20 - (m + 1))
                          case measure => rw [HR.out]; omega
                          case rel => exact ⟨m + 1, by omega, rfl, by rw [HX.out.1], Lib.hid ⟨hback.out, Z2.out, Z3.out, by rw [HRW.out]; exact Z4.out⟩⟩
                        · have b1 : decide ((k : Int) < 20) = true := by simp; omega
                          have b2 : decide (20 * (m : Int) + (k : Int) < (n : Int)) = false := by simp; have := HK.out; omega
                          clear hK20
                          go_wp2_with fail
                          go_roundg ((n + 19) / 20 - (m + 1))
                          case measure => rw [HR.out]; omega
                          case rel => exact ⟨m + 1, by omega, rfl, by rw [HX.out.1], Lib.hid ⟨hback.out, Z2.out, Z3.out, by rw [HRW.out]; exact Z4.out⟩⟩
          · obtain rfl : m = (n + 19) / 20 := by omega
            have q1' : wr.ownsRow w.heap.size 3 1 u9 n (icells (Hop.hopsV seed n)) := by
              have e1 : min (20 * ((n + 19) / 20)) n = n := by omega
              rw [e1] at q1; exact q1
            have OWN := Lib.hid q1'
            obtain ⟨al, cl, rfl⟩ := own_slice q1'
            clear q1 q2 q3 q4 hq hr q1'
            go_wp2_with fail
            go_ret2
            exact ⟨_, rfl, OWN.out, Q2.out⟩
end Go.Proofs.YtlkkkohgeakfaaaDoor
