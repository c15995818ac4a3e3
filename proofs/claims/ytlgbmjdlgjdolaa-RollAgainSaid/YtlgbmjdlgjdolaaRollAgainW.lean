/- The walk of RollAgain. (Printed by tools/genagain.py.) -/
import Derived.Test.YtlgbmjdlgjdolaaAgainL
import Derived.Test.YtlgbmjdlgjdolaaPickC
import Derived.Test.YtlgbmjdlgjdolaaFindR
import Derived.Test.YtlgbmjdlgjdolaaSame13C
import Derived.Test.YtlgbmjdlgjdolaaCardCheckC
import Derived.Outline
import Derived.OpenShut
import Derived.Deep.RegionHeld3
import Derived.Deep.DeepCutAuto
import Derived.Deep.CutBlock
import Derived.Deep.LoopGhost
namespace Go.Proofs.Ytlgbmjdlgjdolaa
open Go.RowKit Go.ChangeShapes Go.WideShapes Roll
set_option maxHeartbeats 16000000 in
set_option maxRecDepth 100000 in
theorem rollAgain_walk {H : Type} {enc : TypeId × Value → H} (vp : Value) (dp : DataW H) (pp : List MemPlace) (W : World)
    (h1 : DataW.Trod enc Try.prog W 0 (fun _ => true) true 22 vp dp pp) {base1 : Nat} (hok1 : Value.okWide Try.prog W .any base1 22 vp) (hw1 : ∀ n ∈ DataW.weights Try.prog 22 dp, n ≤ reachBytes) (hsh : W.ShapedOpen Try.prog) :
    Calls Try.prog 3 #[vp] W fun e w' => e = .returned (.bool true) ∧ Below W.heap.size W w' := by
  obtain ⟨zs, hvp, _, hwf⟩ := ints_arg (bytes := 8) Try.underlying22 Try.underlying3 (by kernel_rfl) (by kernel_rfl) hok1 h1 hw1
  obtain ⟨ap, cp, rfl, hmp, _, hcp⟩ := hvp
  have HP := Lib.hid hcp
  unfold maxLen at hmp
  clear h1 hok1 hw1 hwf hcp
  go_enter Try.func3, Try.ntmps3
  go_wp2_with fail
  refine (new_any W).mono ?_
  rintro er wa ⟨rfl, hwa⟩
  obtain ⟨br, hbr⟩ : ∃ b, b = W.heap.size := ⟨_, rfl⟩
  rw [← hbr]
  have RA : Hid (Reg wa W.heap.size br [] [] false) := Lib.hid (by rw [hwa, hbr]; exact reg_zr _ _)
  have BA : Hid (Below W.heap.size W wa) := Lib.hid (by rw [hwa]; exact (Below.refl _ _).alloc (Nat.le_refl _) _)
  have ZA : Hid (br < wa.heap.size) := Lib.hid (by rw [hwa, hbr]; simp)
  have HBR : Hid (W.heap.size ≤ br) := Lib.hid (by rw [hbr]; exact Nat.le_refl _)
  clear hwa hbr
  go_wp2_with fail
  refine (new_any wa).mono ?_
  rintro er wb ⟨rfl, hwb⟩
  obtain ⟨bq, hbq⟩ : ∃ b, b = wa.heap.size := ⟨_, rfl⟩
  rw [← hbq]
  have Q0 : Hid (Reg wb W.heap.size bq [] [] false) := Lib.hid (by rw [hwb, hbq]; exact reg_zr _ _)
  have BB : Hid (Below wa.heap.size wa wb) := Lib.hid (by rw [hwb]; exact (Below.refl _ _).alloc (Nat.le_refl _) _)
  have HNE : Hid (bq ≠ br) := Lib.hid (by have := ZA.out; omega)
  have HBQ : Hid (W.heap.size ≤ bq) := Lib.hid (by have := ZA.out; have := HBR.out; omega)
  have R0 := Lib.hid (RA.out.below BB.out)
  have B0 := Lib.hid (BA.out.trans (BB.out.mono BA.out.size))
  clear hwb hbq BB RA ZA BA
  go_wp2_with fail
  refine (gives_of hsh wb B0.out run_crystal).mono ?_
  rintro er w0 ⟨u0, l0, rfl, m0, hown, hb⟩
  obtain ⟨a0, c0, rfl⟩ := own_slice7 hown m0
  have O0 := Lib.hid (hown.base B0.out.size)
  have M0 := Lib.hid m0
  have B1 := Lib.hid (B0.out.trans (hb.mono B0.out.size))
  have R1 := Lib.hid (R0.out.below hb)
  have Q1 := Lib.hid (Q0.out.below hb)
  clear hown hb m0 B0 R0 Q0
  go_wp2_with fail
  refine (gives_of hsh w0 B1.out run_supply).mono ?_
  rintro er w1 ⟨u1, l1, rfl, m1, hown, hb⟩
  obtain ⟨a1, c1, rfl⟩ := own_slice7 hown m1
  have O1 := Lib.hid (hown.base B1.out.size)
  have M1 := Lib.hid m1
  have B2 := Lib.hid (B1.out.trans (hb.mono B1.out.size))
  have R2 := Lib.hid (R1.out.below hb)
  have Q2 := Lib.hid (Q1.out.below hb)
  replace O0 := Lib.hid (O0.out.below hb)
  clear hown hb m1 B1 R1 Q1
  go_wp2_with fail
  refine (gives_of hsh w1 B2.out run_bus).mono ?_
  rintro er w2 ⟨u2, l2, rfl, m2, hown, hb⟩
  obtain ⟨a2, c2, rfl⟩ := own_slice7 hown m2
  have O2 := Lib.hid (hown.base B2.out.size)
  have M2 := Lib.hid m2
  have B3 := Lib.hid (B2.out.trans (hb.mono B2.out.size))
  have R3 := Lib.hid (R2.out.below hb)
  have Q3 := Lib.hid (Q2.out.below hb)
  replace O0 := Lib.hid (O0.out.below hb)
  replace O1 := Lib.hid (O1.out.below hb)
  clear hown hb m2 B2 R2 Q2
  go_wp2_with fail
  refine (gives_of hsh w2 B3.out run_sensor).mono ?_
  rintro er w3 ⟨u3, l3, rfl, m3, hown, hb⟩
  obtain ⟨a3, c3, rfl⟩ := own_slice7 hown m3
  have O3 := Lib.hid (hown.base B3.out.size)
  have M3 := Lib.hid m3
  have B4 := Lib.hid (B3.out.trans (hb.mono B3.out.size))
  have R4 := Lib.hid (R3.out.below hb)
  have Q4 := Lib.hid (Q3.out.below hb)
  replace O0 := Lib.hid (O0.out.below hb)
  replace O1 := Lib.hid (O1.out.below hb)
  replace O2 := Lib.hid (O2.out.below hb)
  clear hown hb m3 B3 R3 Q3
  go_wp2_with fail
  refine (gives_of hsh w3 B4.out run_radio).mono ?_
  rintro er w4 ⟨u4, l4, rfl, m4, hown, hb⟩
  obtain ⟨a4, c4, rfl⟩ := own_slice7 hown m4
  have O4 := Lib.hid (hown.base B4.out.size)
  have M4 := Lib.hid m4
  have B5 := Lib.hid (B4.out.trans (hb.mono B4.out.size))
  have R5 := Lib.hid (R4.out.below hb)
  have Q5 := Lib.hid (Q4.out.below hb)
  replace O0 := Lib.hid (O0.out.below hb)
  replace O1 := Lib.hid (O1.out.below hb)
  replace O2 := Lib.hid (O2.out.below hb)
  replace O3 := Lib.hid (O3.out.below hb)
  clear hown hb m4 B4 R4 Q4
  have e0 : crystalC.length = 5 := rfl
  have e1 : supplyC.length = 6 := rfl
  have e2 : busC.length = 5 := rfl
  have e3 : sensorC.length = 5 := rfl
  have e4 : radioC.length = 6 := rfl
  have FV : Hid (Five (w4.alloc (.cells #[.slice a0 5 c0, .slice a1 6 c1, .slice a2 5 c2, .slice a3 5 c3, .slice a4 6 c4] 25)) W.heap.size w4.heap.size) := Lib.hid (five_of rfl M0.out M1.out M2.out M3.out M4.out O0.out O1.out O2.out O3.out O4.out)
  have BX : Hid (Below w4.heap.size w4 (w4.alloc (.cells #[.slice a0 5 c0, .slice a1 6 c1, .slice a2 5 c2, .slice a3 5 c3, .slice a4 6 c4] 25))) := Lib.hid ((Below.refl _ _).alloc (Nat.le_refl _) _)
  have R6 := Lib.hid (R5.out.below BX.out)
  have Q6 := Lib.hid (Q5.out.below BX.out)
  have B6 := Lib.hid (B5.out.trans (BX.out.mono B5.out.size))
  have HGL : Hid (w4.heap.size ≠ br) := Lib.hid (by have := R5.out.lt; omega)
  clear O0 O1 O2 O3 O4 M0 M1 M2 M3 M4 R5 Q5 B5
  go_upto_block 0 with fail
  go_cut [] (fun wx => Hid (Reg wx W.heap.size br rollC outC false ∧ Reg wx W.heap.size bq [] [] false ∧ Below W.heap.size W wx))
  case first => as_aux_lemma => --ok
    generalize w4.alloc (.cells #[.slice a0 5 c0, .slice a1 6 c1, .slice a2 5 c2, .slice a3 5 c3, .slice a4 6 c4] 25) = w5 at *
    generalize w4.heap.size = gl at *
    go_wp2_with fail
    go_loopg [6, 7, 34] 5 (fun r _ _ vj wr => ∃ j : Nat, j ≤ 5 ∧ r = 5 - j ∧ vj = .int .i64 j ∧ Hid (Reg wr W.heap.size br (standsF allC (off j)) (refusedF allC (off j)) false ∧ Reg wr W.heap.size bq [] [] false ∧ Five wr W.heap.size gl ∧ Below W.heap.size W wr))
    case atStart => exact ⟨0, by omega, by omega, rfl, Lib.hid ⟨R6.out, Q6.out, FV.out, B6.out⟩⟩
    case round =>
      obtain ⟨j, hj, hr, rfl, hq⟩ := hrel
      have HR := Lib.hid hr
      have RR := Lib.hid hq.out.1
      have QQ := Lib.hid hq.out.2.1
      have FF := Lib.hid hq.out.2.2.1
      have BB := Lib.hid hq.out.2.2.2
      clear hr hq R6 Q6 FV B6 BX
      by_cases hlt : j < 5
      · obtain ⟨aj, cj, rl, hcell, hmap, hown⟩ := FF.out.2 j hlt
        obtain ⟨n, hn⟩ : ∃ n, (fam j).length = n := ⟨_, rfl⟩
        have HRL : Hid (rl.length = n) := Lib.hid (by rw [← hn, ← hmap, List.length_map])
        have hn27 : n ≤ 27 := by rw [← hn]; exact fam_small j hlt
        have HOF : Hid (off (j + 1) = off j + n) := Lib.hid (by rw [← hn]; exact fam_len j hlt)
        have HO27 : Hid (off (j + 1) ≤ 27) := Lib.hid (off_le (j + 1) (by omega))
        have HFA : Hid (∀ i, i < n → nthC allC (off j + i) = nthC (fam j) i) := Lib.hid (fun i hi => fam_at j i hlt (by rw [hn]; exact hi))
        have HM := Lib.hid hmap
        rw [hn] at hcell hown
        have OO := Lib.hid hown
        have hjc1 : (0 : Int) ≤ (j : Int) := by omega
        have hjc2 : (j : Int) < 5 := by omega
        clear hmap hown hn
        go_wp2_with fail
        go_loopg [7] n (fun r vi wq => ∃ i : Nat, i ≤ n ∧ r = n - i ∧ vi = .int .i64 i ∧ Hid (Reg wq W.heap.size br (standsF allC (off j + i)) (refusedF allC (off j + i)) false ∧ Reg wq W.heap.size bq [] [] false ∧ Five wq W.heap.size gl ∧ OwnC wq W.heap.size (.slice aj n cj) rl ∧ Below W.heap.size W wq))
        case atStart => exact ⟨0, by omega, by omega, rfl, Lib.hid ⟨RR.out, QQ.out, FF.out, OO.out, BB.out⟩⟩
        case round =>
          clear hcell RR QQ FF OO BB
          obtain ⟨i, hi, hr, rfl, hq⟩ := hrel
          obtain ⟨⟨wq, _⟩, hwq⟩ : ∃ q : Subtype (fun _ : World => True), q.1 = ‹World› := ⟨⟨_, trivial⟩, rfl⟩
          simp only at hwq
          subst hwq
          have HR2 := Lib.hid hr
          have RR := Lib.hid hq.out.1
          have QQ := Lib.hid hq.out.2.1
          have FF := Lib.hid hq.out.2.2.1
          have OO := Lib.hid hq.out.2.2.2.1
          have BB := Lib.hid hq.out.2.2.2.2
          clear hr hq
          by_cases hli : i < n
          · have hk1 : i < rl.length := by rw [HRL.out]; exact hli
            obtain ⟨gi, cap', hform, hgi, hgi2⟩ := OO.out.1.form (by omega)
            have hai : aj = some ⟨gi, 0, none⟩ := by
              simp only [Value.slice.injEq] at hform
              exact hform.1
            subst hai
            clear hform
            obtain ⟨gx, _, am, cm, um⟩ := OO.out.at HRL.out i hk1
            have hst := OO.out.2 _ (List.getElem_mem hk1)
            have hcc : nthC allC (off j + i) = rl[i].1 := by
              rw [HFA.out i hli]
              have h2 : i < (fam j).length := by rw [← HM.out]; simpa using hk1
              rw [nthC_eq h2]
              simp only [← HM.out, List.getElem_map]
            have hfew : (rl[i]).1.comp.length ≤ 100 := by
              rw [← hcc]
              exact (okB_yes all_ok _ (by rw [all_len]; have := HOF.out; have := HO27.out; omega)).2
            obtain ⟨rc, ec⟩ : ∃ rc, rl[i]'hk1 = rc := ⟨_, rfl⟩
            simp only [ec] at gx um hst hcc hfew
            clear ec
            obtain ⟨⟨nm, fm, lv, ss, sco, qm, en⟩, u_⟩ := rc
            simp only at um hst hcc hfew
            subst um
            simp only [Cd.cells] at gx
            have HST := Lib.hid (strs_own hst (by unfold maxLen; omega))

            have g0 : wq.cell? ⟨gi, i * 7, none⟩ = some (.string nm) := gx 0 _ rfl
            have g1 : wq.cell? ⟨gi, i * 7 + 1, none⟩ = some (.string fm) := gx 1 _ rfl
            have g2 : wq.cell? ⟨gi, i * 7 + 2, none⟩ = some (.int .u8 lv) := gx 2 _ rfl
            have g3 : wq.cell? ⟨gi, i * 7 + 3, none⟩ = some (.slice am ss.length cm) := gx 3 _ rfl
            have g4 : wq.cell? ⟨gi, i * 7 + 4, none⟩ = some (.int .i8 sco) := gx 4 _ rfl
            have g5 : wq.cell? ⟨gi, i * 7 + 5, none⟩ = some (.string qm) := gx 5 _ rfl
            have g6 : wq.cell? ⟨gi, i * 7 + 6, none⟩ = some (.int .i16 en) := gx 6 _ rfl
            have C1 := Lib.hid (enter_step br W.heap.size lv sco en nm fm qm ss (.slice am ss.length cm) allC (off j + i) (by rw [all_len]; have := HOF.out; have := HO27.out; omega) (by have := HOF.out; have := HO27.out; omega) hcc _ RR.out BB.out.size (fun k hk => by have := (okB_yes all_ok k hk).2; omega) (fun k hk => (okB_yes all_ok k hk).1) HST.out)
            clear hst hfew hcc gx
            have hic1 : (0 : Int) ≤ (i : Int) := by omega
            have hic2 : (i : Int) < (n : Int) := by omega
            go_wp2_with fail
            refine C1.out.mono ?_
            rintro er w1 ⟨rfl, hreg, hg⟩
            have R1 := Lib.hid hreg
            have Q1 := Lib.hid (QQ.out.kept HNE.out RR.out hg)
            have F1 := Lib.hid (FF.out.kept RR.out hg HGL.out)
            have O1 := Lib.hid (OO.out.kept RR.out hg)
            have B1 := Lib.hid (BB.out.grown hg BB.out.size (fun kk hkk => by cases hkk; exact HBR.out))
            clear hreg hg
            go_wp2_with fail
            go_roundg (n - (i + 1))
            case measure => rw [HR2.out]; omega
            case rel => exact ⟨i + 1, by omega, rfl, by first | rfl | simp, Lib.hid ⟨R1.out, Q1.out, F1.out, O1.out, B1.out⟩⟩
          · obtain rfl : i = n := by omega
            go_wp2_with fail
            go_roundg (5 - (j + 1))
            case measure => rw [HR.out]; omega
            case rel => exact ⟨j + 1, by omega, rfl, by first | rfl | simp, Lib.hid ⟨by rw [HOF.out]; exact RR.out, QQ.out, FF.out, BB.out⟩⟩
      · obtain rfl : j = 5 := by omega
        have RZ : Hid (Reg wr W.heap.size br rollC outC false) := Lib.hid (by
          have := RR.out
          rw [show off 5 = 27 from rfl, stands_roll, refused_out] at this
          exact this)
        go_wp2_with fail
        go_meet
        exact Lib.hid ⟨RZ.out, QQ.out, BB.out⟩
  case rest =>
    obtain ⟨wd, rfl⟩ : ∃ ww : World, ww = wc := ⟨_, rfl⟩
    have RR := Lib.hid hcut.out.1
    have QQ := Lib.hid hcut.out.2.1
    have BB := Lib.hid hcut.out.2.2
    clear hcut R6 Q6 FV B6 BX HGL
    go_wp2_with fail
    refine (gives_of hsh wd BB.out run_roll).mono ?_
    rintro er w5 ⟨u5, l5, rfl, m5, hown, hb⟩
    obtain ⟨a5, c5, rfl⟩ := own_slice7 hown m5
    have HM5 := Lib.hid m5
    have L5 : Hid (l5.length = 22) := Lib.hid (by rw [← roll_len, ← m5, List.length_map])
    have F5 : Hid (Fine l5) := Lib.hid (fine_of m5 roll_ok)
    rw [roll_len] at hown
    rw [roll_len]
    have O5 := Lib.hid (hown.base BB.out.size)
    have R5 := Lib.hid (RR.out.below hb)
    have Q5 := Lib.hid (QQ.out.below hb)
    have B5 := Lib.hid (BB.out.trans (hb.mono BB.out.size))
    obtain ⟨ga, cap', hform, hga, hga2⟩ := O5.out.1.form (by have := L5.out; omega)
    have hai : a5 = some ⟨ga, 0, none⟩ := by
      simp only [Value.slice.injEq] at hform
      exact hform.1
    subst hai
    have HNG : Hid (bq ≠ ga) := Lib.hid (Roll.Reg.ne_row Q5.out O5.out)
    have HCA : Hid (∀ w : World, OwnC w W.heap.size (.slice (some ⟨ga, 0, none⟩) 22 c5) l5 → CardsAt w (.slice (some ⟨ga, 0, none⟩) 22 c5) rollC) := Lib.hid (fun w h => by
      have := h.cards F5.out (by rw [L5.out]; unfold maxLen; omega)
      rwa [HM5.out] at this)
    clear hform hown hb m5 RR QQ BB hga2
    go_wp2_with fail
    refine (check_any (.slice (some ⟨ga, 0, none⟩) 22 c5) rollC w5 (HCA.out _ O5.out) (fun k hk => (okB_yes roll_ok k hk).1)).mono ?_
    rintro er w6 ⟨rfl, hb⟩
    rw [check_roll]
    obtain ⟨I1, hI1⟩ : ∃ x, checkI rollC = x := ⟨_, rfl⟩
    rw [hI1]
    have O6 := Lib.hid (O5.out.below hb)
    have R6 := Lib.hid (R5.out.below hb)
    have Q6 := Lib.hid (Q5.out.below hb)
    have B6 := Lib.hid (B5.out.trans (hb.mono B5.out.size))
    clear hI1 hb O5 R5 Q5 B5
    go_upto_region 15 with fail
    go_cut [77] (fun t wx => t = .bool false ∧ Hid (Reg wx W.heap.size bq [] [] false ∧ OwnC wx W.heap.size (.slice (some ⟨ga, 0, none⟩) 22 c5) l5 ∧ Below W.heap.size W wx))
    case first => as_aux_lemma => --ok
      go_wp2_with fail
      refine (cards_any br W.heap.size rollC outC false w6 R6.out (fun i h => by have := (okB_yes roll_ok i h).2; rw [nthC_eq h] at this; omega)).mono ?_
      rintro er w7 ⟨vo, lg, rfl, hlg, hown, hrows, hb⟩
      have CG := Lib.hid (cards_rows hown hrows (by rw [← List.length_map (f := (·.1)), hlg, roll_len]; unfold maxLen; omega) (fun r hr => by
        obtain ⟨i, hi, rfl⟩ := List.getElem_of_mem hr
        have h2 : i < rollC.length := by rw [← hlg]; simpa using hi
        have := (okB_yes roll_ok i h2).2
        rw [nthC_eq h2] at this
        simp only [← hlg, List.getElem_map] at this
        unfold maxLen
        omega))
      rw [hlg] at CG
      have O7 := Lib.hid (O6.out.below hb)
      have R7 := Lib.hid (R6.out.below hb)
      have Q7 := Lib.hid (Q6.out.below hb)
      have B7 := Lib.hid (B6.out.trans (hb.mono B6.out.size))
      clear hown hrows hb hlg O6 R6 Q6 B6
      go_wp2_with fail
      refine (same13_any vo (.slice (some ⟨ga, 0, none⟩) 22 c5) rollC rollC w7 CG.out (HCA.out _ O7.out)).mono ?_
      rintro er w8 ⟨rfl, hb⟩
      rw [sameAll_self]
      have O8 := Lib.hid (O7.out.below hb)
      have R8 := Lib.hid (R7.out.below hb)
      have Q8 := Lib.hid (Q7.out.below hb)
      have B8 := Lib.hid (B7.out.trans (hb.mono B7.out.size))
      clear hb O7 R7 Q7 B7 CG
      go_wp2_with fail
      refine (refused_any br W.heap.size rollC outC false w8 R8.out (fun i h => by have := (okB_yes out_ok i h).2; rw [nthC_eq h] at this; omega)).mono ?_
      rintro er w9 ⟨vo, lg, rfl, hlg, hown, hrows, hb⟩
      have CG := Lib.hid (cards_rows hown hrows (by rw [← List.length_map (f := (·.1)), hlg, out_len]; unfold maxLen; omega) (fun r hr => by
        obtain ⟨i, hi, rfl⟩ := List.getElem_of_mem hr
        have h2 : i < outC.length := by rw [← hlg]; simpa using hi
        have := (okB_yes out_ok i h2).2
        rw [nthC_eq h2] at this
        simp only [← hlg, List.getElem_map] at this
        unfold maxLen
        omega))
      rw [hlg] at CG
      have O9 := Lib.hid (O8.out.below hb)
      have Q9 := Lib.hid (Q8.out.below hb)
      have B9 := Lib.hid (B8.out.trans (hb.mono B8.out.size))
      clear hown hrows hb hlg O8 R8 Q8 B8
      go_wp2_with fail
      refine (gives_of hsh w9 B9.out run_out).mono ?_
      rintro er w10 ⟨uo, lo, rfl, mo, hown, hb⟩
      have CO := Lib.hid (hown.cards (fine_of mo out_ok) (by rw [← List.length_map (f := (·.1)), mo, out_len]; unfold maxLen; omega))
      rw [mo] at CO
      have CG2 := Lib.hid (CG.out.below hb)
      have O10 := Lib.hid (O9.out.below hb)
      have Q10 := Lib.hid (Q9.out.below hb)
      have B10 := Lib.hid (B9.out.trans (hb.mono B9.out.size))
      clear hown hb mo CG O9 Q9 B9
      go_wp2_with fail
      refine (same13_any vo uo outC outC w10 CG2.out CO.out).mono ?_
      rintro er w11 ⟨rfl, hb⟩
      rw [sameAll_self]
      have O11 := Lib.hid (O10.out.below hb)
      have Q11 := Lib.hid (Q10.out.below hb)
      have B11 := Lib.hid (B10.out.trans (hb.mono B10.out.size))
      clear hb O10 Q10 B10 CG2 CO
      go_wp2_with fail
      go_meet
      exact ⟨by first | rfl | simp, Lib.hid ⟨Q11.out, O11.out, B11.out⟩⟩
    case rest =>
      obtain ⟨rfl, hcut⟩ := hcut
      obtain ⟨we, rfl⟩ : ∃ ww : World, ww = wc := ⟨_, rfl⟩
      have QQ := Lib.hid hcut.out.1
      have OO := Lib.hid hcut.out.2.1
      have BB := Lib.hid hcut.out.2.2
      clear hcut O6 R6 Q6 B6 HCA
      have G5 : Hid (Good (l5.map (·.1)) ∧ InL (l5.map (·.1)) rollC) := Lib.hid (by rw [HM5.out]; exact ⟨roll_good, InL.self _⟩)
      clear HM5
      go_upto_block 4 with fail
      go_cut [] (fun wx => ∃ l2 : List (Cd × Value), Hid (l2.length = 22 ∧ Reg wx W.heap.size bq [] [] false ∧ OwnC wx W.heap.size (.slice (some ⟨ga, 0, none⟩) 22 c5) l2 ∧ Fine l2 ∧ Good (l2.map (·.1)) ∧ InL (l2.map (·.1)) rollC ∧ Below W.heap.size W wx))
      case first => as_aux_lemma => --ok
        go_wp2_with fail
        go_loopg [11] zs.length (fun r vk wr => ∃ (k : Nat) (l2 : List (Cd × Value)), k ≤ zs.length ∧ r = zs.length - k ∧ vk = .int .i64 k ∧ Hid (l2.length = 22 ∧ Reg wr W.heap.size bq [] [] false ∧ OwnC wr W.heap.size (.slice (some ⟨ga, 0, none⟩) 22 c5) l2 ∧ Fine l2 ∧ Good (l2.map (·.1)) ∧ InL (l2.map (·.1)) rollC ∧ Below W.heap.size W wr))
        case atStart => exact ⟨0, l5, by omega, by omega, rfl, Lib.hid ⟨L5.out, QQ.out, OO.out, F5.out, G5.out.1, G5.out.2, BB.out⟩⟩
        case round =>
          obtain ⟨k, l2, hk, hr, rfl, hq⟩ := hrel
          have HR := Lib.hid hr
          have L2 := Lib.hid hq.out.1
          have Q2 := Lib.hid hq.out.2.1
          have O2 := Lib.hid hq.out.2.2.1
          have F2 := Lib.hid hq.out.2.2.2.1
          have G2 := Lib.hid hq.out.2.2.2.2.1
          have I2 := Lib.hid hq.out.2.2.2.2.2.1
          have B2 := Lib.hid hq.out.2.2.2.2.2.2
          clear hr hq QQ OO BB G5 L5 F5
          by_cases hgo : k < zs.length ∧ k < 60
          · obtain ⟨hlt, hk60⟩ := hgo
            obtain ⟨bp, offp, hap, p0⟩ := HP.out k hlt
            subst hap
            replace p0 := (B2.out.cell (p := ⟨bp, offp + k, none⟩) (World.block_lt_of_cell? W _ p0)).trans p0
            obtain ⟨z, hzz⟩ : ∃ z, nth zs k = z := ⟨_, rfl⟩
            rw [hzz] at p0
            clear hzz
            have hkc1 : (0 : Int) ≤ (k : Int) := by omega
            have hkc2 : (k : Int) < (zs.length : Int) := by omega
            have hkc3 : (k : Int) < 60 := by omega
            go_wp2_with fail
            refine (pick_any z wr).mono ?_
            rintro er w1 ⟨⟨M, hM, rfl⟩, rfl⟩
            go_wp2_with fail
            refine (pick_any (k : Int) w1).mono ?_
            rintro er w2 ⟨⟨J, hJ, rfl⟩, rfl⟩
            have hM2 : M < l2.length := by rw [L2.out]; exact hM
            have hJ2 : J < l2.length := by rw [L2.out]; exact hJ
            obtain ⟨gm, _, am, cm, um⟩ := O2.out.at L2.out M hM2
            obtain ⟨gj, _, aj, cj, uj⟩ := O2.out.at L2.out J hJ2
            have SW := Lib.hid (fun (w : World) (h : OwnC w W.heap.size (.slice (some ⟨ga, 0, none⟩) 22 c5) l2) => h.swap L2.out M J hM2 hJ2)
            have FS := Lib.hid (F2.out.swap M J hM2 hJ2)
            have GS : Hid (Good (((l2.set M l2[J]).set J l2[M]).map (·.1)) ∧ InL (((l2.set M l2[J]).set J l2[M]).map (·.1)) rollC) := Lib.hid (by
              rw [swapL_map l2 M J hM2 hJ2]
              exact ⟨G2.out.swap M J (by simpa using hM2) (by simpa using hJ2), I2.out.swap M J (by simpa using hM2) (by simpa using hJ2)⟩)
            have LS : Hid (((l2.set M l2[J]).set J l2[M]).length = 22) := Lib.hid (by simp [L2.out])
            generalize (l2.set M l2[J]).set J l2[M] = l3 at *
            obtain ⟨rm, e_m⟩ : ∃ r, l2[M]'hM2 = r := ⟨_, rfl⟩
            obtain ⟨rj, e_j⟩ : ∃ r, l2[J]'hJ2 = r := ⟨_, rfl⟩
            have TM := Lib.hid (O2.out.2 _ (List.getElem_mem hM2))
            have TJ := Lib.hid (O2.out.2 _ (List.getElem_mem hJ2))
            simp only [e_m] at gm um SW TM
            simp only [e_j] at gj uj SW TJ
            obtain ⟨⟨nm, fm_, lm, sm, om, qm, em⟩, um_⟩ := rm
            obtain ⟨⟨nj, fj, lj, sj, oj, qj, ej⟩, uj_⟩ := rj
            simp only at um uj
            subst um uj
            simp only [Cd.cells] at gm gj SW
            simp only at TM TJ
            have EM := Lib.hid e_m
            have EJ := Lib.hid e_j
            have gm0 : w2.cell? ⟨ga, M * 7, none⟩ = some (.string nm) := gm 0 _ rfl
            have gm1 : w2.cell? ⟨ga, M * 7 + 1, none⟩ = some (.string fm_) := gm 1 _ rfl
            have gm2 : w2.cell? ⟨ga, M * 7 + 2, none⟩ = some (.int .u8 lm) := gm 2 _ rfl
            have gm3 : w2.cell? ⟨ga, M * 7 + 3, none⟩ = some (.slice am sm.length cm) := gm 3 _ rfl
            have gm4 : w2.cell? ⟨ga, M * 7 + 4, none⟩ = some (.int .i8 om) := gm 4 _ rfl
            have gm5 : w2.cell? ⟨ga, M * 7 + 5, none⟩ = some (.string qm) := gm 5 _ rfl
            have gm6 : w2.cell? ⟨ga, M * 7 + 6, none⟩ = some (.int .i16 em) := gm 6 _ rfl
            have hMc1 : (0 : Int) ≤ (M : Int) := by omega
            have hMc2 : (M : Int) < 22 := by omega
            have hJc1 : (0 : Int) ≤ (J : Int) := by omega
            have hJc2 : (J : Int) < 22 := by omega
            clear gm gj e_m e_j p0
            go_upto_region 23 with fail
            clear gm0 gm1 gm2 gm3 gm4 gm5 gm6
            have BA : Hid (Below w2.heap.size w2 (w2.alloc (.cells #[.string nm, .string fm_, .int .u8 lm, .slice am sm.length cm, .int .i8 om, .string qm, .int .i16 em] 34))) := Lib.hid ((Below.refl _ w2).alloc (Nat.le_refl _) _)
            have KB := Lib.hid (box_cells (Below.refl (w2.heap.size + 1) (w2.alloc (.cells #[.string nm, .string fm_, .int .u8 lm, .slice am sm.length cm, .int .i8 om, .string qm, .int .i16 em] 34))))
            have O4 := Lib.hid (O2.out.below BA.out)
            have Q4 := Lib.hid (Q2.out.below BA.out)
            have TJ2 := Lib.hid (own_below TJ.out BA.out)
            have B4 := Lib.hid (B2.out.trans (BA.out.mono B2.out.size))
            have SB : Hid (w2.heap.size ≠ ga) := Lib.hid (by
              obtain ⟨gg, _, hform, h1, h2⟩ := O2.out.1.form (by omega)
              simp only [Value.slice.injEq, Option.some.injEq, Addr.mk.injEq] at hform
              omega)
            clear TJ TM
            generalize w2.alloc (.cells #[.string nm, .string fm_, .int .u8 lm, .slice am sm.length cm, .int .i8 om, .string qm, .int .i16 em] 34) = wa at *
            generalize w2.heap.size = bx at *
            obtain ⟨gj, _, _⟩ := O4.out.at L2.out J hJ2
            simp only [EJ.out, Cd.cells] at gj
            have gj0 : wa.cell? ⟨ga, J * 7, none⟩ = some (.string nj) := gj 0 _ rfl
            have gj1 : wa.cell? ⟨ga, J * 7 + 1, none⟩ = some (.string fj) := gj 1 _ rfl
            have gj2 : wa.cell? ⟨ga, J * 7 + 2, none⟩ = some (.int .u8 lj) := gj 2 _ rfl
            have gj3 : wa.cell? ⟨ga, J * 7 + 3, none⟩ = some (.slice aj sj.length cj) := gj 3 _ rfl
            have gj4 : wa.cell? ⟨ga, J * 7 + 4, none⟩ = some (.int .i8 oj) := gj 4 _ rfl
            have gj5 : wa.cell? ⟨ga, J * 7 + 5, none⟩ = some (.string qj) := gj 5 _ rfl
            have gj6 : wa.cell? ⟨ga, J * 7 + 6, none⟩ = some (.int .i16 ej) := gj 6 _ rfl
            have TH : Hid (wa.there ga (M * 7) 7) := Lib.hid (O4.out.there L2.out M hM2)
            clear gj
            go_wp2_with (refine wpList_store_all (by rfl) 34 (.tmp 109) (.tmp 108) (by rfl) ga (M * 7) [.string nj, .string fj, .int .u8 lj, .slice aj sj.length cj, .int .i8 oj, .string qj, .int .i16 ej] (by kernel_rfl) (by kernel_rfl) TH.out (by kernel_rfl) (cells_one ⟨nj, fj, lj, sj, oj, qj, ej⟩ _ _ _) ?_)
            intro W4 HW4
            clear gj0 gj1 gj2 gj3 gj4 gj5 gj6
            have O5 : Hid (OwnC W4 W.heap.size (.slice (some ⟨ga, 0, none⟩) 22 c5) (l2.set M ((⟨nj, fj, lj, sj, oj, qj, ej⟩ : Cd), Value.slice aj sj.length cj))) := Lib.hid (by
              rw [HW4.out]
              exact O4.out.put L2.out M hM2 (⟨nj, fj, lj, sj, oj, qj, ej⟩, .slice aj sj.length cj) TJ2.out)
            have TH2 : Hid (W4.there ga (J * 7) 7) := Lib.hid (O5.out.there (by rw [List.length_set]; exact L2.out) J (by rw [List.length_set]; exact hJ2))
            obtain ⟨k0, k1, k2, k3, k4, k5, k6⟩ := KB.out
            have PC : Hid (∀ j u, wa.cell? ⟨bx, j, none⟩ = some u → W4.cell? ⟨bx, j, none⟩ = some u) := Lib.hid (fun j u h => by
              rw [HW4.out]
              exact putAll_cell SB.out _ _ _ _ h)
            replace k0 := PC.out 0 _ k0
            replace k1 := PC.out 1 _ k1
            replace k2 := PC.out 2 _ k2
            replace k3 := PC.out 3 _ k3
            replace k4 := PC.out 4 _ k4
            replace k5 := PC.out 5 _ k5
            replace k6 := PC.out 6 _ k6
            have B5 : Hid (Below W.heap.size W W4) := Lib.hid (by rw [HW4.out]; exact putAll_below hga _ _ _ B4.out)
            go_wp2_with (refine wpList_store_all (by rfl) 34 (.tmp 113) (.tmp 112) (by rfl) ga (J * 7) [.string nm, .string fm_, .int .u8 lm, .slice am sm.length cm, .int .i8 om, .string qm, .int .i16 em] (by kernel_rfl) (by kernel_rfl) TH2.out (by kernel_rfl) (cells_one ⟨nm, fm_, lm, sm, om, qm, em⟩ _ _ _) ?_)
            intro W5 HW5
            have O6 : Hid (OwnC W5 W.heap.size (.slice (some ⟨ga, 0, none⟩) 22 c5) l3) := Lib.hid (by
              rw [HW5.out, HW4.out]
              exact SW.out _ O4.out)
            have Q6 : Hid (Reg W5 W.heap.size bq [] [] false) := Lib.hid (Roll.Reg.empty Q4.out (by rw [HW5.out, HW4.out, putAll_other (j := 0) HNG.out, putAll_other (j := 0) HNG.out]))
            have B6 : Hid (Below W.heap.size W W5) := Lib.hid (by rw [HW5.out]; exact putAll_below hga _ _ _ B5.out)
            clear HW5 k0 k1 k2 k3 k4 k5 k6
            go_wp2_with fail
            go_roundg (zs.length - (k + 1))
            case measure => rw [HR.out]; omega
            case rel => exact ⟨k + 1, l3, by omega, rfl, by first | rfl | simp, Lib.hid ⟨LS.out, Q6.out, O6.out, FS.out, GS.out.1, GS.out.2, B6.out⟩⟩
          · by_cases hlt : k < zs.length
            · have h60 : ¬ (k : Int) < 60 := by omega
              go_wp2_with fail
              go_meet
              exact ⟨l2, Lib.hid ⟨L2.out, Q2.out, O2.out, F2.out, G2.out, I2.out, B2.out⟩⟩
            · obtain rfl : k = zs.length := by omega
              go_wp2_with fail
              go_meet
              exact ⟨l2, Lib.hid ⟨L2.out, Q2.out, O2.out, F2.out, G2.out, I2.out, B2.out⟩⟩
      case rest =>
        obtain ⟨l2, hcut⟩ := hcut
        obtain ⟨wf, rfl⟩ : ∃ ww : World, ww = wc := ⟨_, rfl⟩
        have L2 := Lib.hid hcut.out.1
        have QQ := Lib.hid hcut.out.2.1
        have OO := Lib.hid hcut.out.2.2.1
        have F2 := Lib.hid hcut.out.2.2.2.1
        have hG := hcut.out.2.2.2.2.1
        have hI := hcut.out.2.2.2.2.2.1
        have BB := Lib.hid hcut.out.2.2.2.2.2.2
        clear hcut L5 F5 G5
        obtain ⟨L, hL⟩ : ∃ L, l2.map (·.1) = L := ⟨_, rfl⟩
        rw [hL] at hG hI
        have GG := Lib.hid hG
        have II := Lib.hid hI
        have LL : Hid (L.length = 22) := Lib.hid (by rw [← hL, List.length_map]; exact L2.out)
        have HFw : Hid (∀ k, k < L.length → (nthC L k).comp.length ≤ 8796093022208) := Lib.hid (by rw [← hL]; exact F2.out.few)
        have HOk : Hid (∀ k, k < L.length → (nthC L k).ok) := Lib.hid (by rw [← hL]; exact F2.out.ok)
        have HLn : Hid (∀ k (h : k < l2.length), nthC L k = l2[k].1) := Lib.hid (fun k h => by simp only [← hL]; rw [nthC_eq (by simpa using h), List.getElem_map])
        have HL := Lib.hid hL
        clear hL hG hI
        go_upto_block 6 with fail
        go_cut [] (fun wx => Hid (Reg wx W.heap.size bq L [] false ∧ OwnC wx W.heap.size (.slice (some ⟨ga, 0, none⟩) 22 c5) l2 ∧ Below W.heap.size W wx))
        case first => as_aux_lemma => --ok
          go_wp2_with fail
          go_loopg [15] 22 (fun r vi wr => ∃ i : Nat, i ≤ 22 ∧ r = 22 - i ∧ vi = .int .i64 i ∧ Hid (Reg wr W.heap.size bq (standsF L i) (refusedF L i) false ∧ OwnC wr W.heap.size (.slice (some ⟨ga, 0, none⟩) 22 c5) l2 ∧ Below W.heap.size W wr))
          case atStart => exact ⟨0, by omega, by omega, rfl, Lib.hid ⟨QQ.out, OO.out, BB.out⟩⟩
          case round =>
            obtain ⟨i, hi, hr, rfl, hq⟩ := hrel
            have HR := Lib.hid hr
            have Q2 := Lib.hid hq.out.1
            have O2 := Lib.hid hq.out.2.1
            have B2 := Lib.hid hq.out.2.2
            clear hr hq QQ OO BB
            by_cases hlt : i < 22
            · have hk1 : i < l2.length := by rw [L2.out]; exact hlt
              have hiL : i < L.length := by rw [LL.out]; exact hlt
              obtain ⟨gx, _, am, cm, um⟩ := O2.out.at L2.out i hk1
              have hst := O2.out.2 _ (List.getElem_mem hk1)
              have hcc := HLn.out i hk1
              have hfew := HFw.out i hiL
              obtain ⟨rc, ec⟩ : ∃ rc, l2[i]'hk1 = rc := ⟨_, rfl⟩
              simp only [ec] at gx um hst hcc
              clear ec
              obtain ⟨⟨nm, fm, lv, ss, sco, qm, en⟩, u_⟩ := rc
              simp only at um hst hcc
              rw [hcc] at hfew
              simp only at hfew
              subst um
              simp only [Cd.cells] at gx
              have HST := Lib.hid (strs_own hst (by unfold maxLen; omega))
              have g0 : wr.cell? ⟨ga, i * 7, none⟩ = some (.string nm) := gx 0 _ rfl
              have g1 : wr.cell? ⟨ga, i * 7 + 1, none⟩ = some (.string fm) := gx 1 _ rfl
              have g2 : wr.cell? ⟨ga, i * 7 + 2, none⟩ = some (.int .u8 lv) := gx 2 _ rfl
              have g3 : wr.cell? ⟨ga, i * 7 + 3, none⟩ = some (.slice am ss.length cm) := gx 3 _ rfl
              have g4 : wr.cell? ⟨ga, i * 7 + 4, none⟩ = some (.int .i8 sco) := gx 4 _ rfl
              have g5 : wr.cell? ⟨ga, i * 7 + 5, none⟩ = some (.string qm) := gx 5 _ rfl
              have g6 : wr.cell? ⟨ga, i * 7 + 6, none⟩ = some (.int .i16 en) := gx 6 _ rfl
              have C1 := Lib.hid (enter_step bq W.heap.size lv sco en nm fm qm ss (.slice am ss.length cm) L i hiL (by omega) hcc wr Q2.out B2.out.size HFw.out HOk.out HST.out)
              rw [GG.out.enter i hiL] at C1
              clear hst hfew hcc gx
              have hic1 : (0 : Int) ≤ (i : Int) := by omega
              have hic2 : (i : Int) < 22 := by omega
              go_wp2_with fail
              refine C1.out.mono ?_
              rintro er w1 ⟨rfl, hreg, hg⟩
              have Q3 := Lib.hid hreg
              have O3 := Lib.hid (O2.out.kept Q2.out hg)
              have B3 := Lib.hid (B2.out.grown hg B2.out.size (fun kk hkk => by cases hkk; exact HBQ.out))
              clear hreg hg
              go_wp2_with fail
              go_roundg (22 - (i + 1))
              case measure => rw [HR.out]; omega
              case rel => exact ⟨i + 1, by omega, rfl, by first | rfl | simp, Lib.hid ⟨Q3.out, O3.out, B3.out⟩⟩
            · obtain rfl : i = 22 := by omega
              have QZ : Hid (Reg wr W.heap.size bq L [] false) := Lib.hid (by
                have h1 := GG.out.stands
                rw [LL.out] at h1
                have h2 := Q2.out
                rw [h1.1, h1.2] at h2
                exact h2)
              go_wp2_with fail
              go_meet
              exact Lib.hid ⟨QZ.out, O2.out, B2.out⟩
        case rest =>
          obtain ⟨wg, rfl⟩ : ∃ ww : World, ww = wc := ⟨_, rfl⟩
          clear QQ OO BB
          have QQ := Lib.hid hcut.out.1
          have OO := Lib.hid hcut.out.2.1
          have BB := Lib.hid hcut.out.2.2
          clear hcut
          go_upto_block 8 with fail
          go_cut [] (fun wx => Hid (Below wg.heap.size wg wx))
          case first => as_aux_lemma => --ok
            go_wp2_with fail
            go_loopg [16] 22 (fun r vi wr => ∃ i : Nat, i ≤ 22 ∧ r = 22 - i ∧ vi = .int .i64 i ∧ Hid (Below wg.heap.size wg wr))
            case atStart => exact ⟨0, by omega, by omega, rfl, Lib.hid (Below.refl _ _)⟩
            case round =>
              obtain ⟨i, hi, hr, rfl, B⟩ := hrel
              have HR := Lib.hid hr
              clear hr
              by_cases hlt : i < 22
              · have hk1 : i < l2.length := by rw [L2.out]; exact hlt
                have hiL : i < L.length := by rw [LL.out]; exact hlt
                have O2 := Lib.hid (OO.out.below B.out)
                obtain ⟨gx, _, am, cm, um⟩ := O2.out.at L2.out i hk1
                have hst := O2.out.2 _ (List.getElem_mem hk1)
                have hcc := HLn.out i hk1
                have hfew := HFw.out i hiL
                obtain ⟨j, hj, hje⟩ := II.out i hiL
                rw [hje] at hcc
                obtain ⟨rc, ec⟩ : ∃ rc, l2[i]'hk1 = rc := ⟨_, rfl⟩
                have EC := Lib.hid ec
                simp only [ec] at gx um hst hcc
                clear ec
                obtain ⟨⟨nm, fm, lv, ss, sco, qm, en⟩, u_⟩ := rc
                simp only at um hst hcc
                rw [hje, hcc] at hfew
                simp only at hfew
                subst um
                simp only [Cd.cells] at gx
                have HST := Lib.hid (strs_own hst (by unfold maxLen; omega))
                have g0 : wr.cell? ⟨ga, i * 7, none⟩ = some (.string nm) := gx 0 _ rfl
                have CF := Roll.find_any hsh nm j (by rw [roll_len] at hj; exact hj) (by rw [hcc]) wr (BB.out.trans (B.out.mono BB.out.size))
                rw [hcc] at CF
                have CF := Lib.hid CF
                clear hst hfew hcc gx hje hj
                have hic1 : (0 : Int) ≤ (i : Int) := by omega
                have hic2 : (i : Int) < 22 := by omega
                go_wp2_with fail
                refine CF.out.mono ?_
                rintro er w1 ⟨sl, rfl, hs1, hb⟩
                simp only [Cd.cells]
                simp only at hs1
                have S1 := Lib.hid hs1
                obtain ⟨al, cl, hsl, _⟩ := hs1
                subst hsl
                have B1 := Lib.hid (B.out.trans (hb.mono B.out.size))
                have ST1 := Lib.hid (HST.out.below hb)
                have O3 := Lib.hid (O2.out.below hb)
                clear hb g0 CF
                go_upto_region 34 with fail
                have BA : Hid (Below w1.heap.size w1 (w1.alloc (.cells #[.string nm, .string fm, .int .u8 lv, .slice al ss.length cl, .int .i8 sco, .string qm, .int .i16 en] 34))) := Lib.hid ((Below.refl _ w1).alloc (Nat.le_refl _) _)
                obtain ⟨k0, k1, k2, k3, k4, k5, k6⟩ := box_cells (Below.refl (w1.heap.size + 1) (w1.alloc (.cells #[.string nm, .string fm, .int .u8 lv, .slice al ss.length cl, .int .i8 sco, .string qm, .int .i16 en] 34)))
                have O4 := Lib.hid (O3.out.below BA.out)
                have S4 := Lib.hid (S1.out.below BA.out)
                have ST4 := Lib.hid (ST1.out.below BA.out)
                have B4 := Lib.hid (B1.out.trans (BA.out.mono B1.out.size))
                clear S1 ST1 O3 B1 BA
                generalize w1.alloc (.cells #[.string nm, .string fm, .int .u8 lv, .slice al ss.length cl, .int .i8 sco, .string qm, .int .i16 en] 34) = wz at *
                generalize w1.heap.size = bz at *
                obtain ⟨gx, _, _⟩ := O4.out.at L2.out i hk1
                simp only [EC.out, Cd.cells] at gx
                have g0 : wz.cell? ⟨ga, i * 7, none⟩ = some (.string nm) := gx 0 _ rfl
                have g1 : wz.cell? ⟨ga, i * 7 + 1, none⟩ = some (.string fm) := gx 1 _ rfl
                have g2 : wz.cell? ⟨ga, i * 7 + 2, none⟩ = some (.int .u8 lv) := gx 2 _ rfl
                have g3 : wz.cell? ⟨ga, i * 7 + 3, none⟩ = some (.slice am ss.length cm) := gx 3 _ rfl
                have g4 : wz.cell? ⟨ga, i * 7 + 4, none⟩ = some (.int .i8 sco) := gx 4 _ rfl
                have g5 : wz.cell? ⟨ga, i * 7 + 5, none⟩ = some (.string qm) := gx 5 _ rfl
                have g6 : wz.cell? ⟨ga, i * 7 + 6, none⟩ = some (.int .i16 en) := gx 6 _ rfl
                have ww6 : IntKind.i64.wrap (i : Int) = (i : Int) := by rw [IntKind.wrap_i64]; omega
                have CM := Lib.hid (fun (w' : World) (hb : Below wz.heap.size wz w') => same_walk nm fm qm nm fm qm lv sco en lv sco en ss ss (.slice al ss.length cl) (.slice am ss.length cm) w' (S4.out.below hb) (ST4.out.below hb))
                clear gx
                refine wp_region_any (by kernel_rfl) ?_
                refine wpAny_take (i := 0) (v := ?_) rfl (by kernel_rfl) (by kernel_rfl) (by kernel_rfl) (fun _ _ _ h => h) (Or.inl ⟨by kernel_rfl, ?_⟩) ?_
                rotate_left
                · intro w
                  go_simp
                  try with_reducible rfl
                simp only [Act.put, List.getElem_toArray, List.getElem_cons_zero, List.getElem_cons_succ, List.setIfInBounds_toArray, List.set_cons_zero, List.set_cons_succ]
                refine wpAny_take (i := 1) (v := ?_) rfl (by kernel_rfl) (by kernel_rfl) (by kernel_rfl) (fun _ _ _ h => h) (Or.inl ⟨by kernel_rfl, ?_⟩) ?_
                rotate_left
                · intro w
                  go_simp
                  try with_reducible rfl
                simp only [Act.put, List.getElem_toArray, List.getElem_cons_zero, List.getElem_cons_succ, List.setIfInBounds_toArray, List.set_cons_zero, List.set_cons_succ]
                refine wpAny_take (i := 2) (v := ?_) rfl (by kernel_rfl) (by kernel_rfl) (by kernel_rfl) (fun _ _ _ h => h) (Or.inl ⟨by kernel_rfl, ?_⟩) ?_
                rotate_left
                · intro w
                  go_simp
                  try with_reducible rfl
                simp only [Act.put, List.getElem_toArray, List.getElem_cons_zero, List.getElem_cons_succ, List.setIfInBounds_toArray, List.set_cons_zero, List.set_cons_succ]
                refine wpAny_take (i := 4) (v := ?_) rfl (by kernel_rfl) (by kernel_rfl) (by kernel_rfl) (fun _ _ _ h => h) (Or.inl ⟨by kernel_rfl, ?_⟩) ?_
                rotate_left
                · intro w
                  go_simp
                  try with_reducible rfl
                simp only [Act.put, List.getElem_toArray, List.getElem_cons_zero, List.getElem_cons_succ, List.setIfInBounds_toArray, List.set_cons_zero, List.set_cons_succ]
                refine wpAny_take (i := 5) (v := ?_) rfl (by kernel_rfl) (by kernel_rfl) (by kernel_rfl) (fun _ _ _ h => h) (Or.inl ⟨by kernel_rfl, ?_⟩) ?_
                rotate_left
                · intro w
                  go_simp
                  try with_reducible rfl
                simp only [Act.put, List.getElem_toArray, List.getElem_cons_zero, List.getElem_cons_succ, List.setIfInBounds_toArray, List.set_cons_zero, List.set_cons_succ]
                refine wpAny_take (i := 6) (v := ?_) rfl (by kernel_rfl) (by kernel_rfl) (by kernel_rfl) (fun _ _ _ h => h) (Or.inl ⟨by kernel_rfl, ?_⟩) ?_
                rotate_left
                · intro w
                  go_simp
                  try with_reducible rfl
                simp only [Act.put, List.getElem_toArray, List.getElem_cons_zero, List.getElem_cons_succ, List.setIfInBounds_toArray, List.set_cons_zero, List.set_cons_succ]
                refine wpAny_ready (rs := [3, 7]) (by kernel_rfl) (by simp) (AllReady.cons rfl (fun K hK => ?_) (AllReady.cons rfl (fun K hK => ?_) AllReady.nil))
                · skip
                  go_simp
                  refine hK _ _ ?_
                  clear hK K
                  try simp only [Act.put, List.setIfInBounds_toArray, List.set_cons_zero, List.set_cons_succ]
                  refine wpAny_ready (rs := [7]) (by kernel_rfl) (by simp) (AllReady.cons rfl (fun K hK => ?_) AllReady.nil)
                  go_simp
                  refine hK _ _ ?_
                  clear hK K
                  try simp only [Act.put, List.setIfInBounds_toArray, List.set_cons_zero, List.set_cons_succ]
                  refine wpAny_ready (rs := [8]) (by kernel_rfl) (by simp) (AllReady.cons rfl (fun K hK => ?_) AllReady.nil)
                  go_simp
                  refine (CM.out _ ((Below.refl _ _).drew)).mono ?_
                  rintro er w3 ⟨rfl, hb2⟩
                  rw [sameB_self]
                  have B5 := Lib.hid ((B4.out.drew).trans (hb2.mono B4.out.size))
                  clear hb2
                  go_simp
                  refine hK _ _ ?_
                  clear hK K
                  try simp only [Act.put, List.setIfInBounds_toArray, List.set_cons_zero, List.set_cons_succ]
                  refine wpAny_take (i := 9) (v := ?_) rfl (by kernel_rfl) (by kernel_rfl) (by kernel_rfl) (fun _ _ _ h => h) (Or.inl ⟨by kernel_rfl, ?_⟩) ?_
                  rotate_left
                  · intro w
                    go_simp
                    try with_reducible rfl
                  simp only [Act.put, List.getElem_toArray, List.getElem_cons_zero, List.getElem_cons_succ, List.setIfInBounds_toArray, List.set_cons_zero, List.set_cons_succ]
                  refine wpAny_take (i := 10) (v := ?_) rfl (by kernel_rfl) (by kernel_rfl) (by kernel_rfl) (fun _ _ _ h => h) (Or.inl ⟨by kernel_rfl, ?_⟩) ?_
                  rotate_left
                  · intro w
                    go_simp
                    try with_reducible rfl
                  simp only [Act.put, List.getElem_toArray, List.getElem_cons_zero, List.getElem_cons_succ, List.setIfInBounds_toArray, List.set_cons_zero, List.set_cons_succ]
                  refine wpAny_done (by kernel_rfl) ?_ _
                  go_wp2_with fail
                  go_roundg (22 - (i + 1))
                  case measure => rw [HR.out]; omega
                  case rel => exact ⟨i + 1, by omega, rfl, by first | rfl | simp, Lib.hid B5.out⟩
                · skip
                  go_simp
                  refine hK _ _ ?_
                  clear hK K
                  try simp only [Act.put, List.setIfInBounds_toArray, List.set_cons_zero, List.set_cons_succ]
                  refine wpAny_ready (rs := [3]) (by kernel_rfl) (by simp) (AllReady.cons rfl (fun K hK => ?_) AllReady.nil)
                  go_simp
                  refine hK _ _ ?_
                  clear hK K
                  try simp only [Act.put, List.setIfInBounds_toArray, List.set_cons_zero, List.set_cons_succ]
                  refine wpAny_ready (rs := [8]) (by kernel_rfl) (by simp) (AllReady.cons rfl (fun K hK => ?_) AllReady.nil)
                  go_simp
                  refine (CM.out _ ((Below.refl _ _).drew)).mono ?_
                  rintro er w3 ⟨rfl, hb2⟩
                  rw [sameB_self]
                  have B5 := Lib.hid ((B4.out.drew).trans (hb2.mono B4.out.size))
                  clear hb2
                  go_simp
                  refine hK _ _ ?_
                  clear hK K
                  try simp only [Act.put, List.setIfInBounds_toArray, List.set_cons_zero, List.set_cons_succ]
                  refine wpAny_take (i := 9) (v := ?_) rfl (by kernel_rfl) (by kernel_rfl) (by kernel_rfl) (fun _ _ _ h => h) (Or.inl ⟨by kernel_rfl, ?_⟩) ?_
                  rotate_left
                  · intro w
                    go_simp
                    try with_reducible rfl
                  simp only [Act.put, List.getElem_toArray, List.getElem_cons_zero, List.getElem_cons_succ, List.setIfInBounds_toArray, List.set_cons_zero, List.set_cons_succ]
                  refine wpAny_take (i := 10) (v := ?_) rfl (by kernel_rfl) (by kernel_rfl) (by kernel_rfl) (fun _ _ _ h => h) (Or.inl ⟨by kernel_rfl, ?_⟩) ?_
                  rotate_left
                  · intro w
                    go_simp
                    try with_reducible rfl
                  simp only [Act.put, List.getElem_toArray, List.getElem_cons_zero, List.getElem_cons_succ, List.setIfInBounds_toArray, List.set_cons_zero, List.set_cons_succ]
                  refine wpAny_done (by kernel_rfl) ?_ _
                  go_wp2_with fail
                  go_roundg (22 - (i + 1))
                  case measure => rw [HR.out]; omega
                  case rel => exact ⟨i + 1, by omega, rfl, by first | rfl | simp, Lib.hid B5.out⟩
              · obtain rfl : i = 22 := by omega
                go_wp2_with fail
                go_meet
                exact B
          case rest =>
            have CL : Hid (CardsAt wg (.slice (some ⟨ga, 0, none⟩) 22 c5) L) := Lib.hid (by
              have := OO.out.cards F2.out (by rw [L2.out]; unfold maxLen; omega)
              rwa [HL.out] at this)
            have Q2 := Lib.hid (QQ.out.below hcut.out)
            have C2 := Lib.hid (CL.out.below hcut.out)
            have B2 := Lib.hid (BB.out.trans (hcut.out.mono BB.out.size))
            clear hcut QQ OO BB CL
            obtain ⟨wh, rfl⟩ : ∃ ww : World, ww = wc := ⟨_, rfl⟩
            go_wp2_with fail
            refine (refused_any bq W.heap.size L [] false wh Q2.out (fun i h => by simp at h)).mono ?_
            rintro er w7 ⟨vo, lg, rfl, hlg, hown, _, hb⟩
            have hlz : lg.length = 0 := by rw [← List.length_map (f := (·.1)), hlg]; rfl
            obtain ⟨a7, c7, rfl⟩ := own_slice hown
            rw [hlz]
            have Q3 := Lib.hid (Q2.out.below hb)
            have C3 := Lib.hid (C2.out.below hb)
            have B3 := Lib.hid (B2.out.trans (hb.mono B2.out.size))
            clear hown hb hlg hlz Q2 C2 B2
            go_wp2_with fail
            refine (cards_any bq W.heap.size L [] false w7 Q3.out (fun i h => by have := HFw.out i h; rwa [nthC_eq h] at this)).mono ?_
            rintro er w8 ⟨vo, lg, rfl, hlg, hown, hrows, hb⟩
            have CG := Lib.hid (cards_rows hown hrows (by rw [← List.length_map (f := (·.1)), hlg, LL.out]; unfold maxLen; omega) (fun r hr => by
              obtain ⟨i, hi, rfl⟩ := List.getElem_of_mem hr
              have h2 : i < L.length := by rw [← hlg]; simpa using hi
              have := HFw.out i h2
              rw [nthC_eq h2] at this
              simp only [← hlg, List.getElem_map] at this
              unfold maxLen
              omega))
            rw [hlg] at CG
            have C4 := Lib.hid (C3.out.below hb)
            have B4 := Lib.hid (B3.out.trans (hb.mono B3.out.size))
            clear hown hrows hb hlg Q3 C3 B3
            go_wp2_with fail
            refine (same13_any vo (.slice (some ⟨ga, 0, none⟩) 22 c5) L L w8 CG.out C4.out).mono ?_
            rintro er w9 ⟨rfl, hb⟩
            rw [sameAll_self]
            have B5 := Lib.hid (B4.out.trans (hb.mono B4.out.size))
            clear hb
            go_wp2_with fail
            go_ret
            exact ⟨by simp, B5.out⟩
end Go.Proofs.Ytlgbmjdlgjdolaa
