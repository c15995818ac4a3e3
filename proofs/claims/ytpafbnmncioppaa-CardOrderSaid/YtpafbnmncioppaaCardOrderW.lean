/- The walk of CardOrder. -/
import Derived.Test.YtpafbnmncioppaaOrdL
import Derived.Test.YtpafbnmncioppaaWorksC
import Derived.Test.YtpafbnmncioppaaCardCheckC
import Derived.Outline
import Derived.OpenShut
import Derived.Deep.RegionHeld3
import Derived.Deep.DeepCutAuto
import Derived.Deep.CutBlock
import Derived.Deep.LoopGhost
namespace Go.Proofs.Ytpafbnmncioppaa
open Go.RowKit Go.ChangeShapes Go.WideShapes
theorem pick_in (z : Int) (n : Nat) (hn : 0 < n) : ∃ (r : Int) (J : Nat), z.tmod (n : Int) = r ∧ J < n ∧ (¬ r < 0 → r = (J : Int)) ∧ (r < 0 → r + (n : Int) = (J : Int)) ∧ -(n : Int) < r := by
  have h1 := Int.lt_tmod_of_pos z (b := (n : Int)) (by omega)
  have h2 := Int.tmod_lt_of_pos z (b := (n : Int)) (by omega)
  by_cases h : z.tmod (n : Int) < 0
  · exact ⟨_, (z.tmod (n : Int) + n).toNat, rfl, by omega, fun h' => absurd h h', fun _ => by omega, h1⟩
  · exact ⟨_, (z.tmod (n : Int)).toNat, rfl, by omega, fun _ => by omega, fun h' => absurd h' h, h1⟩
set_option maxHeartbeats 16000000 in
set_option maxRecDepth 100000 in
theorem cardOrder_walk {H : Type} {enc : TypeId × Value → H} (v : Value) (d : DataW H) (ps : List MemPlace) (vp : Value) (dp : DataW H) (pp : List MemPlace) (a0 : Int) (W : World)
    (h : DataW.Trod enc Try.prog W 0 (fun _ => true) true 33 v d ps) {base : Nat} (hok : Value.okWide Try.prog W .any base 33 v) (hw : ∀ n ∈ DataW.weights Try.prog 33 d, n ≤ reachBytes)
    (h1 : DataW.Trod enc Try.prog W 0 (fun _ => true) true 71 vp dp pp) {base1 : Nat} (hok1 : Value.okWide Try.prog W .any base1 71 vp) (hw1 : ∀ n ∈ DataW.weights Try.prog 71 dp, n ≤ reachBytes)
    (hwa : (Lit.int .i64 a0).wf = true) (hsh : W.ShapedOpen Try.prog) :
    Calls Try.prog 8 #[v, vp, .int .i64 a0] W fun e w' => e = .returned (.bool true) ∧ Below W.heap.size W w' := by
  obtain ⟨cs, hv, hsz, hC⟩ := cards_arg hok h hw
  obtain ⟨zs, hvp, _, hwf⟩ := ints_arg (bytes := 8) Try.underlying71 Try.underlying3 (by kernel_rfl) (by kernel_rfl) hok1 h1 hw1
  have hr1 : cs.length * 96 ≤ 140737488355328 := by unfold reachBytes at hsz; omega
  have hO : ∀ k, k < cs.length → (nthC cs k).comp.length ≤ 8796093022208 := fun k hk => by have := (hC k hk).1; rw [nthC_eq hk]; unfold reachBytes at this; omega
  have hK : ∀ k, k < cs.length → (nthC cs k).ok := fun k hk => by rw [nthC_eq hk]; exact (hC k hk).2.1
  have hza : -9223372036854775808 ≤ a0 ∧ a0 ≤ 9223372036854775807 := by simpa [Lit.wf, IntKind.min, IntKind.max, IntKind.bits, IntKind.signed] using hwa
  obtain ⟨hza1, hza2⟩ := hza
  have HV := Lib.hid hv
  have HO := Lib.hid hO
  have HK := Lib.hid hK
  have HW := Lib.hid hwf
  obtain ⟨av, cv, rfl, ⟨hm, hmc⟩, _, _⟩ := hv
  obtain ⟨ap, cp, rfl, hmp, _, hcp⟩ := hvp
  have HP := Lib.hid hcp
  unfold maxLen at hm hmp
  clear h hok hw hsz hC h1 hok1 hw1 hwa hwf hO hK hcp
  go_enter Try.func8, Try.ntmps8
  go_wp2_with fail
  refine (wkRun.works_any hsh W (Below.refl _ _)).mono ?_
  rintro e w0 ⟨rfl, hb⟩
  have B0 := Lib.hid hb
  clear hb
  go_upto_region 3 with fail
  go_cut [0] (fun vo wx => ∃ (l0 : List (Cd × Value)) (n : Nat) (ai : Option Addr) (ci : Nat), vo = .slice ai n ci ∧ n ≤ 60 ∧ Hid (l0.length = n ∧ OwnC wx W.heap.size (.slice ai n ci) l0 ∧ Fine l0 ∧ Below W.heap.size W wx))
  case first => as_aux_lemma => --ok
    obtain ⟨n0, hn0, hn1, hn2⟩ : ∃ n0 : Nat, min (cs.length : Int) 60 = (n0 : Int) ∧ n0 ≤ cs.length ∧ n0 ≤ 60 := ⟨min cs.length 60, by omega, by omega, by omega⟩
    have C1 := Lib.hid (twins_any (.slice av n0 cv) (cs.take n0) w0 ((HV.out.below B0.out).take n0 hn1) (by rw [List.length_take]; omega) (fun k hk => by
      rw [List.length_take] at hk
      have := HO.out k (by omega)
      rw [nthC_eq (by omega)] at this
      rw [nthC_eq (by rw [List.length_take]; omega), List.getElem_take]
      exact this))
    have hcv : n0 ≤ cv := by omega
    go_wp2_with fail
    refine C1.out.mono ?_
    rintro er w1 ⟨vi, li, rfl, hli, hown, hb⟩
    have hl : li.length = n0 := by
      have := congrArg List.length hli
      rw [List.length_map, List.length_take] at this
      omega
    obtain ⟨ai, ci, rfl⟩ := own_slice hown.1
    rw [hl]
    have HL := Lib.hid hl
    have HLI := Lib.hid hli
    have HOW := Lib.hid hown
    have HBB := Lib.hid hb
    clear hl hli hown hb
    go_wp2_with fail
    go_meet
    refine ⟨li, n0, ai, ci, rfl, hn2, Lib.hid ⟨HL.out, by rw [← HL.out]; exact (OwnC.of HOW.out).base B0.out.size, fun i hi => ?_, B0.out.trans (HBB.out.mono B0.out.size)⟩⟩
    have hl := HL.out
    have hli := HLI.out
    have h1 := HK.out i (by omega)
    have h2 := HO.out i (by omega)
    have e : li[i].1 = cs[i]'(by omega) := by
      have := congrArg (fun x => x[i]?) hli
      simpa [hi, show i < n0 by omega, show i < cs.length by omega] using this
    rw [nthC_eq (by omega)] at h1 h2
    rw [e]
    exact ⟨h1, h2⟩
  case rest =>
    obtain ⟨l0, n, ai, ci, rfl, hn60, hq0⟩ := hcut
    have BC := Lib.hid (show n ≤ 60 from hn60)
    obtain ⟨wv, rfl⟩ : ∃ wv : World, wv = wc := ⟨_, rfl⟩
    go_upto_block 0 with fail
    go_cut [] (fun wx => ∃ (l1 : List (Cd × Value)), Hid (l1.length = n ∧ OwnC wx W.heap.size (.slice ai n ci) l1 ∧ Fine l1 ∧ Below W.heap.size W wx))
    case first => as_aux_lemma => --ok
      go_wp2_with fail
      go_loopg [7] zs.length (fun r vi wr => ∃ (k : Nat) (l2 : List (Cd × Value)), k ≤ zs.length ∧ r = zs.length - k ∧ vi = .int .i64 k ∧ Hid (l2.length = n ∧ OwnC wr W.heap.size (.slice ai n ci) l2 ∧ Fine l2 ∧ Below W.heap.size W wr))
      case atStart => exact ⟨0, l0, by omega, by omega, rfl, hq0⟩
      case round =>
        obtain ⟨k, l2, hk, hr, rfl, hq⟩ := hrel
        have HR := Lib.hid hr
        have L2 := Lib.hid hq.out.1
        have O2 := Lib.hid hq.out.2.1
        have F2 := Lib.hid hq.out.2.2.1
        have B2 := Lib.hid hq.out.2.2.2
        clear hr hq hq0
        by_cases hgo : k < zs.length ∧ 0 < n
        · obtain ⟨hlt, hn0⟩ := hgo
          obtain ⟨gi, cap', hform, hgi, hgi2⟩ := O2.out.1.form (by have := L2.out; omega)
          have hai : ai = some ⟨gi, 0, none⟩ := by
            simp only [Value.slice.injEq] at hform
            exact hform.1
          subst hai
          clear hform
          obtain ⟨bp, offp, hap, p0⟩ := HP.out k hlt
          subst hap
          replace p0 := (B2.out.cell (p := ⟨bp, offp + k, none⟩) (World.block_lt_of_cell? W _ p0)).trans p0
          have hz := HW.out (nth zs k) (nth_mem hlt)
          obtain ⟨z, hzz⟩ : ∃ z, nth zs k = z := ⟨_, rfl⟩
          rw [hzz] at p0 hz
          have hz2 : -9223372036854775808 ≤ z ∧ z ≤ 9223372036854775807 := by simpa [Lit.wf, IntKind.min, IntKind.max, IntKind.bits, IntKind.signed] using hz
          obtain ⟨hz3, hz4⟩ := hz2
          obtain ⟨r0, J, e1, hJ, h3, h4, h5⟩ := pick_in z n hn0
          have H3 := Lib.hid h3
          have H4 := Lib.hid h4
          obtain ⟨M, e3, hM⟩ : ∃ M : Nat, (k : Int).tmod (n : Int) = (M : Int) ∧ M < n := ⟨k % n, by rw [Int.tmod_eq_emod_of_nonneg (by omega)]; omega, Nat.mod_lt _ hn0⟩
          clear hzz hz h3 h4
          have hkc1 : (0 : Int) ≤ (k : Int) := by omega
          have hkc2 : (k : Int) < (zs.length : Int) := by omega
          have hrn : r0 < (n : Int) := by have := H3.out; have := H4.out; by_cases h : r0 < 0 <;> omega
          go_upto_if 51 with fail
          go_cut [8] (fun vj wx => vj = .int .i64 J ∧ wr = wx)
          case first => as_aux_lemma => --ok
            by_cases hneg : r0 < 0
            · have e4 := H4.out hneg
              go_wp2_with fail
              go_meet
              exact ⟨rfl, rfl⟩
            · have e4 := H3.out hneg
              go_wp2_with fail
              go_meet
              exact ⟨rfl, rfl⟩
          case rest =>
            obtain ⟨rfl, rfl⟩ := hcut
            clear H3 H4 h5 hrn e1 hz3 hz4
            have hM2 : M < l2.length := by rw [L2.out]; exact hM
            have hJ2 : J < l2.length := by rw [L2.out]; exact hJ
            obtain ⟨gm, fm, am, cm, um⟩ := O2.out.at L2.out M hM2
            obtain ⟨gj, _, aj, cj, uj⟩ := O2.out.at L2.out J hJ2
            have SW := Lib.hid (fun (w : World) (h : OwnC w W.heap.size (.slice (some ⟨gi, 0, none⟩) n ci) l2) => h.swap L2.out M J hM2 hJ2)
            have FS := Lib.hid (F2.out.swap M J hM2 hJ2)
            have LS : Hid (((l2.set M l2[J]).set J l2[M]).length = n) := Lib.hid (by simp [L2.out])
            generalize (l2.set M l2[J]).set J l2[M] = l3 at *
            have HM2 := Lib.hid hM2
            have HJ2 := Lib.hid hJ2
            obtain ⟨rm, e_m⟩ : ∃ r, l2[M]'hM2 = r := ⟨_, rfl⟩
            obtain ⟨rj, e_j⟩ : ∃ r, l2[J]'hJ2 = r := ⟨_, rfl⟩
            have TM := Lib.hid (O2.out.2 _ (List.getElem_mem hM2))
            have TJ := Lib.hid (O2.out.2 _ (List.getElem_mem hJ2))
            simp only [e_m] at gm um SW TM
            simp only [e_j] at gj uj SW TJ
            obtain ⟨⟨nm, fm_, lm, sm, om, qm, em⟩, um_⟩ := rm
            obtain ⟨⟨nj, fj, lj, sj, oj, qj, ej⟩, uj_⟩ := rj
            simp only at um uj
            subst um uj
            simp only [Cd.cells] at gm gj SW
            simp only at TM TJ
            have EM := Lib.hid e_m
            have EJ := Lib.hid e_j
            have gm0 : wr.cell? ⟨gi, M * 7, none⟩ = some (.string nm) := gm 0 _ rfl
            have gm1 : wr.cell? ⟨gi, M * 7 + 1, none⟩ = some (.string fm_) := gm 1 _ rfl
            have gm2 : wr.cell? ⟨gi, M * 7 + 2, none⟩ = some (.int .u8 lm) := gm 2 _ rfl
            have gm3 : wr.cell? ⟨gi, M * 7 + 3, none⟩ = some (.slice am sm.length cm) := gm 3 _ rfl
            have gm4 : wr.cell? ⟨gi, M * 7 + 4, none⟩ = some (.int .i8 om) := gm 4 _ rfl
            have gm5 : wr.cell? ⟨gi, M * 7 + 5, none⟩ = some (.string qm) := gm 5 _ rfl
            have gm6 : wr.cell? ⟨gi, M * 7 + 6, none⟩ = some (.int .i16 em) := gm 6 _ rfl
            have hne0 : ¬ n = 0 := by omega
            have hMc1 : (0 : Int) ≤ (M : Int) := by omega
            have hMc2 : (M : Int) < (n : Int) := by omega
            have hJc1 : (0 : Int) ≤ (J : Int) := by omega
            have hJc2 : (J : Int) < (n : Int) := by omega
            clear gm gj fm e_m e_j
            go_upto_region 11 with fail
            clear gm0 gm1 gm2 gm3 gm4 gm5 gm6
            have BA : Hid (Below wr.heap.size wr (wr.alloc (.cells #[.string nm, .string fm_, .int .u8 lm, .slice am sm.length cm, .int .i8 om, .string qm, .int .i16 em] 38))) := Lib.hid ((Below.refl _ wr).alloc (Nat.le_refl _) _)
            have KB := Lib.hid (box_cells (Below.refl (wr.heap.size + 1) (wr.alloc (.cells #[.string nm, .string fm_, .int .u8 lm, .slice am sm.length cm, .int .i8 om, .string qm, .int .i16 em] 38))))
            have O3 := Lib.hid (O2.out.below BA.out)
            have TJ2 := Lib.hid (own_below TJ.out BA.out)
            clear TJ TM
            have TJ := Lib.hid (own_below TJ2.out ((Below.refl _ _).drew))
            clear TJ2
            have B3 := Lib.hid (B2.out.trans (BA.out.mono B2.out.size))
            have SB : Hid (wr.heap.size ≠ gi) := Lib.hid (by omega)
            generalize wr.alloc (.cells #[.string nm, .string fm_, .int .u8 lm, .slice am sm.length cm, .int .i8 om, .string qm, .int .i16 em] 38) = wa at *
            generalize wr.heap.size = bx at *
            refine wp_region_any (by kernel_rfl) ?_
            have O4 := Lib.hid (O3.out.below ((Below.refl _ wa).drew))
            have B4 := Lib.hid (B3.out.drew)
            have BD : Hid (Below wa.heap.size wa wa.drew) := Lib.hid ((Below.refl _ wa).drew)
            change wpAny _ _ _ _ _ _ _ wa.drew
            generalize wa.drew = wd at *
            obtain ⟨gj, fz, _⟩ := O4.out.at L2.out J hJ2
            obtain ⟨gm, _⟩ := O4.out.at L2.out M hM2
            simp only [EM.out] at gm
            simp only [EJ.out] at gj
            simp only [Cd.cells] at gm gj
            have gm0 : wd.cell? ⟨gi, M * 7, none⟩ = some (.string nm) := gm 0 _ rfl
            have gm1 : wd.cell? ⟨gi, M * 7 + 1, none⟩ = some (.string fm_) := gm 1 _ rfl
            have gm2 : wd.cell? ⟨gi, M * 7 + 2, none⟩ = some (.int .u8 lm) := gm 2 _ rfl
            have gm3 : wd.cell? ⟨gi, M * 7 + 3, none⟩ = some (.slice am sm.length cm) := gm 3 _ rfl
            have gm4 : wd.cell? ⟨gi, M * 7 + 4, none⟩ = some (.int .i8 om) := gm 4 _ rfl
            have gm5 : wd.cell? ⟨gi, M * 7 + 5, none⟩ = some (.string qm) := gm 5 _ rfl
            have gm6 : wd.cell? ⟨gi, M * 7 + 6, none⟩ = some (.int .i16 em) := gm 6 _ rfl
            have gj0 : wd.cell? ⟨gi, J * 7, none⟩ = some (.string nj) := gj 0 _ rfl
            have gj1 : wd.cell? ⟨gi, J * 7 + 1, none⟩ = some (.string fj) := gj 1 _ rfl
            have gj2 : wd.cell? ⟨gi, J * 7 + 2, none⟩ = some (.int .u8 lj) := gj 2 _ rfl
            have gj3 : wd.cell? ⟨gi, J * 7 + 3, none⟩ = some (.slice aj sj.length cj) := gj 3 _ rfl
            have gj4 : wd.cell? ⟨gi, J * 7 + 4, none⟩ = some (.int .i8 oj) := gj 4 _ rfl
            have gj5 : wd.cell? ⟨gi, J * 7 + 5, none⟩ = some (.string qj) := gj 5 _ rfl
            have gj6 : wd.cell? ⟨gi, J * 7 + 6, none⟩ = some (.int .i16 ej) := gj 6 _ rfl
            have f0 := fz (M * 7)
            have f1 := fz (M * 7 + 1)
            have f2 := fz (M * 7 + 2)
            have f3 := fz (M * 7 + 3)
            have f4 := fz (M * 7 + 4)
            have f5 := fz (M * 7 + 5)
            have f6 := fz (M * 7 + 6)
            clear gm gj fz
            refine wpAny_take (i := 0) (v := ?_) rfl (by kernel_rfl) (by kernel_rfl) (by kernel_rfl) (fun _ _ _ h => h) (Or.inl ⟨by kernel_rfl, ?_⟩) ?_
            rotate_left
            · intro w
              go_simp
              try with_reducible rfl
            simp only [Act.put, List.getElem_toArray, List.getElem_cons_zero, List.getElem_cons_succ, List.setIfInBounds_toArray, List.set_cons_zero, List.set_cons_succ]
            refine wpAny_take (i := 1) (v := ?_) rfl (by kernel_rfl) (by kernel_rfl) (by kernel_rfl) (fun _ _ _ h => h) (Or.inl ⟨by kernel_rfl, ?_⟩) ?_
            rotate_left
            · intro w
              go_simp
              try with_reducible rfl
            simp only [Act.put, List.getElem_toArray, List.getElem_cons_zero, List.getElem_cons_succ, List.setIfInBounds_toArray, List.set_cons_zero, List.set_cons_succ]
            refine wpAny_take (i := 2) (v := ?_) rfl (by kernel_rfl) (by kernel_rfl) (by kernel_rfl) (fun _ _ _ h => h) (Or.inl ⟨by kernel_rfl, ?_⟩) ?_
            rotate_left
            · intro w
              go_simp
              try with_reducible rfl
            simp only [Act.put, List.getElem_toArray, List.getElem_cons_zero, List.getElem_cons_succ, List.setIfInBounds_toArray, List.set_cons_zero, List.set_cons_succ]
            refine wpAny_take (i := 3) (v := ?_) rfl (by kernel_rfl) (by kernel_rfl) (by kernel_rfl) (fun _ _ _ h => h) (Or.inl ⟨by kernel_rfl, ?_⟩) ?_
            rotate_left
            · intro w
              go_simp
              try with_reducible rfl
            simp only [Act.put, List.getElem_toArray, List.getElem_cons_zero, List.getElem_cons_succ, List.setIfInBounds_toArray, List.set_cons_zero, List.set_cons_succ]
            refine wpAny_take (i := 4) (v := ?_) rfl (by kernel_rfl) (by kernel_rfl) (by kernel_rfl) (fun _ _ _ h => h) (Or.inl ⟨by kernel_rfl, ?_⟩) ?_
            rotate_left
            · intro w
              go_simp
              try with_reducible rfl
            simp only [Act.put, List.getElem_toArray, List.getElem_cons_zero, List.getElem_cons_succ, List.setIfInBounds_toArray, List.set_cons_zero, List.set_cons_succ]
            refine wpAny_take (i := 5) (v := ?_) rfl (by kernel_rfl) (by kernel_rfl) (by kernel_rfl) (fun _ _ _ h => h) (Or.inl ⟨by kernel_rfl, ?_⟩) ?_
            rotate_left
            · intro w
              go_simp
              try with_reducible rfl
            simp only [Act.put, List.getElem_toArray, List.getElem_cons_zero, List.getElem_cons_succ, List.setIfInBounds_toArray, List.set_cons_zero, List.set_cons_succ]
            refine wpAny_take (i := 6) (v := ?_) rfl (by kernel_rfl) (by kernel_rfl) (by kernel_rfl) (fun _ _ _ h => h) (Or.inl ⟨by kernel_rfl, ?_⟩) ?_
            rotate_left
            · intro w
              go_simp
              try with_reducible rfl
            simp only [Act.put, List.getElem_toArray, List.getElem_cons_zero, List.getElem_cons_succ, List.setIfInBounds_toArray, List.set_cons_zero, List.set_cons_succ]
            refine wpAny_take (i := 7) (v := ?_) rfl (by kernel_rfl) (by kernel_rfl) (by kernel_rfl) (fun _ _ _ h => h) (Or.inl ⟨by kernel_rfl, ?_⟩) ?_
            rotate_left
            · intro w
              go_simp
              try with_reducible rfl
            simp only [Act.put, List.getElem_toArray, List.getElem_cons_zero, List.getElem_cons_succ, List.setIfInBounds_toArray, List.set_cons_zero, List.set_cons_succ]
            refine wpAny_ready (rs := [8]) (by kernel_rfl) (by simp) (AllReady.cons rfl (fun K hK => ?_) AllReady.nil)
            go_simp
            refine hK _ _ ?_
            clear hK K
            try simp only [Act.put, List.setIfInBounds_toArray, List.set_cons_zero, List.set_cons_succ]
            have TH : Hid (wd.there gi (M * 7) 7) := Lib.hid (O4.out.there L2.out M hM2)
            clear gm0 gm1 gm2 gm3 gm4 gm5 gm6 gj0 gj1 gj2 gj3 gj4 gj5 gj6 f0 f1 f2 f3 f4 f5 f6
            refine wpAny_take (i := 9) (v := ?_) rfl (by kernel_rfl) (by kernel_rfl) (by kernel_rfl) (fun _ _ _ h => h) (Or.inl ⟨by kernel_rfl, ?_⟩) ?_
            rotate_left
            · intro w
              go_simp
              try with_reducible rfl
            simp only [Act.put, List.getElem_toArray, List.getElem_cons_zero, List.getElem_cons_succ, List.setIfInBounds_toArray, List.set_cons_zero, List.set_cons_succ]
            refine wpAny_ready (rs := [10]) (by kernel_rfl) (by simp) (Go.BigFrame.allReady_want rfl (by kernel_rfl) (fun K hK => ?_) AllReady.nil)
            refine wp_store_all 38 (.tmp 72) (.tmp 71) rfl gi (M * 7) [.string nj, .string fj, .int .u8 lj, .slice aj sj.length cj, .int .i8 oj, .string qj, .int .i16 ej] (by kernel_rfl) (by kernel_rfl) TH.out (by kernel_rfl) (cells_one ⟨nj, fj, lj, sj, oj, qj, ej⟩ _ _ _) ?_
            intro W4 HW4
            refine hK _ _ ?_
            clear hK K
            try simp only [Act.put, List.setIfInBounds_toArray, List.set_cons_zero, List.set_cons_succ]
            refine wpAny_done (by kernel_rfl) ?_ _
            have O5 : Hid (OwnC W4 W.heap.size (.slice (some ⟨gi, 0, none⟩) n ci) (l2.set M ((⟨nj, fj, lj, sj, oj, qj, ej⟩ : Cd), Value.slice aj sj.length cj))) := Lib.hid (by
              rw [HW4.out]
              have := O4.out.put L2.out M hM2 (⟨nj, fj, lj, sj, oj, qj, ej⟩, .slice aj sj.length cj) TJ.out
              exact this)
            have TH2 : Hid (W4.there gi (J * 7) 7) := Lib.hid (O5.out.there (by rw [List.length_set]; exact L2.out) J (by rw [List.length_set]; exact hJ2))
            obtain ⟨k0, k1, k2, k3, k4, k5, k6⟩ := KB.out
            have PC : Hid (∀ j u, wa.cell? ⟨bx, j, none⟩ = some u → W4.cell? ⟨bx, j, none⟩ = some u) := Lib.hid (fun j u h => by
              rw [HW4.out]
              exact putAll_cell SB.out _ _ _ _ ((BD.out.cell (p := ⟨bx, j, none⟩) (World.block_lt_of_cell? wa _ h)).trans h))
            replace k0 := PC.out 0 _ k0
            replace k1 := PC.out 1 _ k1
            replace k2 := PC.out 2 _ k2
            replace k3 := PC.out 3 _ k3
            replace k4 := PC.out 4 _ k4
            replace k5 := PC.out 5 _ k5
            replace k6 := PC.out 6 _ k6
            have B5 : Hid (Below W.heap.size W W4) := Lib.hid (by rw [HW4.out]; exact putAll_below hgi _ _ _ B4.out)
            go_wp2_with (refine wpList_store_all (by rfl) 38 (.tmp 76) (.tmp 75) (by rfl) gi (J * 7) [.string nm, .string fm_, .int .u8 lm, .slice am sm.length cm, .int .i8 om, .string qm, .int .i16 em] (by kernel_rfl) (by kernel_rfl) TH2.out (by kernel_rfl) (cells_one ⟨nm, fm_, lm, sm, om, qm, em⟩ _ _ _) ?_)
            intro W5 HW5
            have O6 : Hid (OwnC W5 W.heap.size (.slice (some ⟨gi, 0, none⟩) n ci) l3) := Lib.hid (by
              rw [HW5.out, HW4.out]
              exact SW.out _ O4.out)
            have B6 : Hid (Below W.heap.size W W5) := Lib.hid (by rw [HW5.out]; exact putAll_below hgi _ _ _ B5.out)
            clear HW5 k0 k1 k2 k3 k4 k5 k6
            go_wp2_with fail
            go_roundg (zs.length - (k + 1))
            case measure => rw [HR.out]; omega
            case rel => exact ⟨k + 1, l3, by omega, rfl, by first | rfl | simp, Lib.hid ⟨LS.out, O6.out, FS.out, B6.out⟩⟩
        · by_cases hlt : k < zs.length
          · obtain rfl : n = 0 := by omega
            obtain ⟨bp, offp, hap, p0⟩ := HP.out k hlt
            subst hap
            go_wp2_with fail
            go_meet
            exact ⟨l2, Lib.hid ⟨L2.out, O2.out, F2.out, B2.out⟩⟩
          · obtain rfl : k = zs.length := by omega
            go_wp2_with fail
            go_meet
            exact ⟨l2, Lib.hid ⟨L2.out, O2.out, F2.out, B2.out⟩⟩
    case rest =>
      obtain ⟨l1, hq1⟩ := hcut
      have L1 := Lib.hid hq1.out.1
      have O1 := Lib.hid hq1.out.2.1
      have F1 := Lib.hid hq1.out.2.2.1
      have B1 := Lib.hid hq1.out.2.2.2
      clear hq0 hq1
      obtain ⟨L, hL⟩ : ∃ L, l1.map (·.1) = L := ⟨_, rfl⟩
      have LL : Hid (L.length = n) := Lib.hid (by rw [← hL, List.length_map]; exact L1.out)
      have HFw : Hid (∀ k, k < L.length → (nthC L k).comp.length ≤ 8796093022208) := Lib.hid (by rw [← hL]; exact F1.out.few)
      have HOk : Hid (∀ k, k < L.length → (nthC L k).ok) := Lib.hid (by rw [← hL]; exact F1.out.ok)
      have HLn : Hid (∀ k (h : k < l1.length), nthC L k = l1[k].1) := Lib.hid (fun k h => by simp only [← hL]; rw [nthC_eq (by simpa using h), List.getElem_map])
      have HL := Lib.hid hL
      clear hL
      go_wp2_with fail
      refine (new_any wc).mono ?_
      rintro er wa ⟨rfl, hwa⟩
      obtain ⟨br, hbr⟩ : ∃ b, b = wc.heap.size := ⟨_, rfl⟩
      rw [← hbr]
      have RA : Hid (Reg wa W.heap.size br [] [] false) := Lib.hid (by rw [hwa, hbr]; exact reg_zr _ _)
      have BB : Hid (Below wc.heap.size wc wa) := Lib.hid (by rw [hwa]; exact (Below.refl _ _).alloc (Nat.le_refl _) _)
      have ZA : Hid (br < wa.heap.size) := Lib.hid (by rw [hwa, hbr]; simp)
      have hbrW : W.heap.size ≤ br := by rw [hbr]; exact B1.out.size
      have O2 := Lib.hid (O1.out.below BB.out)
      have B2 := Lib.hid (B1.out.trans (BB.out.mono B1.out.size))
      clear hwa hbr BB O1 B1
      go_wp2_with fail
      refine (new_any wa).mono ?_
      rintro er wb ⟨rfl, hwb⟩
      obtain ⟨bq, hbq⟩ : ∃ b, b = wa.heap.size := ⟨_, rfl⟩
      rw [← hbq]
      have RQ0 : Hid (Reg wb W.heap.size bq [] [] false) := Lib.hid (by rw [hwb, hbq]; exact reg_zr _ _)
      have BB : Hid (Below wa.heap.size wa wb) := Lib.hid (by rw [hwb]; exact (Below.refl _ _).alloc (Nat.le_refl _) _)
      have hne : bq ≠ br := by have := ZA.out; omega
      have hbqW : W.heap.size ≤ bq := by have := ZA.out; omega
      have RR0 := Lib.hid (RA.out.below BB.out)
      have O3 := Lib.hid (O2.out.below BB.out)
      have B3 := Lib.hid (B2.out.trans (BB.out.mono B2.out.size))
      have HNE := Lib.hid hne
      clear hwb hbq BB O2 B2 RA ZA hne
      go_upto_block 2 with fail
      go_cut [12, 13] (fun v12 v13 wx => ∃ (m : Nat) (fz : Bool), v12 = .int .i64 (standsF L n).length ∧ v13 = .int .i64 (refusedF L n).length ∧ Hid (Reg wx W.heap.size br (standsF L n) (refusedF L n) false ∧ Reg wx W.heap.size bq (standsF L m) (refusedF L m) fz ∧ Froz a0 n m fz ∧ OwnC wx W.heap.size (.slice ai n ci) l1 ∧ Below W.heap.size W wx))
      case first => as_aux_lemma => --ok
        go_wp2_with fail
        go_loopg [12, 13, 14] n (fun r v12 v13 v14 wr => ∃ (k m : Nat) (fz : Bool), k ≤ n ∧ r = n - k ∧ v14 = .int .i64 k ∧ v12 = .int .i64 (standsF L k).length ∧ v13 = .int .i64 (refusedF L k).length ∧ Hid (Reg wr W.heap.size br (standsF L k) (refusedF L k) false ∧ Reg wr W.heap.size bq (standsF L m) (refusedF L m) fz ∧ Froz a0 k m fz ∧ OwnC wr W.heap.size (.slice ai n ci) l1 ∧ Below W.heap.size W wr))
        case atStart => exact ⟨0, 0, false, by omega, by omega, rfl, rfl, rfl, Lib.hid ⟨RR0.out, RQ0.out, .inl ⟨rfl, rfl, by omega⟩, O3.out, B3.out⟩⟩
        case round =>
          obtain ⟨k, m, fz, hk, hr, rfl, rfl, rfl, hq⟩ := hrel
          have HR := Lib.hid hr
          have RR := Lib.hid hq.out.1
          have RQ := Lib.hid hq.out.2.1
          have FZ := Lib.hid hq.out.2.2.1
          have OO := Lib.hid hq.out.2.2.2.1
          have BB := Lib.hid hq.out.2.2.2.2
          clear hr hq RR0 RQ0 O3 B3
          by_cases hlt : k < n
          · have hk1 : k < l1.length := by rw [L1.out]; exact hlt
            have hkL : k < L.length := by rw [LL.out]; exact hlt
            obtain ⟨gi, cap', hform, hgi, hgi2⟩ := OO.out.1.form (by omega)
            have hai : ai = some ⟨gi, 0, none⟩ := by
              simp only [Value.slice.injEq] at hform
              exact hform.1
            subst hai
            clear hform
            obtain ⟨rc, ec⟩ : ∃ r, l1[k]'hk1 = r := ⟨_, rfl⟩
            have HC : Hid (nthC L k = rc.1) := Lib.hid (by rw [HLn.out k hk1, ec])
            obtain ⟨_, _, am, cm, um⟩ := OO.out.at L1.out k hk1
            simp only [ec] at um
            have EC := Lib.hid ec
            have TX : Hid (∀ w : World, OwnC w W.heap.size (.slice (some ⟨gi, 0, none⟩) n ci) l1 → Strs w rc.2 rc.1.comp) := Lib.hid (fun w h => by
              have h1 := h.2 _ (List.getElem_mem hk1)
              have h2 := HFw.out k hkL
              simp only [ec] at h1
              rw [HC.out] at h2
              exact strs_own h1 (by unfold maxLen; omega))
            clear ec
            obtain ⟨⟨nm, fm, lv, ss, sco, qm, en⟩, u_⟩ := rc
            simp only at um
            subst um
            simp only at TX HC
            obtain ⟨S, hS⟩ : ∃ S, (standsF L k).length = S := ⟨_, rfl⟩
            obtain ⟨R, hR⟩ : ∃ R, (refusedF L k).length = R := ⟨_, rfl⟩
            have hSk : S ≤ k := by rw [← hS]; exact stands_len L k
            have hRk : R ≤ k := by rw [← hR]; exact refused_len L k
            rw [hS, hR]
            have A3 := answer_three L k
            rw [hS, hR] at A3
            have AT := Lib.hid A3
            clear A3 hS hR
            have hkc1 : (0 : Int) ≤ (k : Int) := by omega
            have hkc2 : (k : Int) < (n : Int) := by omega
            go_upto_if 87 with fail
            go_cut [] (fun wx => ∃ (m2 : Nat) (fz2 : Bool), Hid (Reg wx W.heap.size br (standsF L k) (refusedF L k) false ∧ Reg wx W.heap.size bq (standsF L m2) (refusedF L m2) fz2 ∧ Froz2 a0 k m2 fz2 ∧ OwnC wx W.heap.size (.slice (some ⟨gi, 0, none⟩) n ci) l1 ∧ Below W.heap.size W wx))
            case first => as_aux_lemma => --ok
              by_cases he : (k : Int) = a0
              · subst he
                have hm : fz = false ∧ m = k := by
                  rcases FZ.out with ⟨h1, h2, _⟩ | ⟨_, h2, h3⟩
                  · exact ⟨h1, h2⟩
                  · omega
                obtain ⟨rfl, rfl⟩ := hm
                go_wp2_with fail
                refine (freeze_any bq W.heap.size _ _ false wr RQ.out).mono ?_
                rintro er w3 ⟨rfl, hreg, hg⟩
                have HRG := Lib.hid hreg
                have HG := Lib.hid hg
                clear hreg hg
                go_wp2_with fail
                go_meet
                exact ⟨m, true, Lib.hid ⟨RR.out.kept HNE.out.symm RQ.out HG.out, HRG.out, .inr ⟨rfl, rfl, by omega⟩, OO.out.kept RQ.out HG.out, BB.out.grown HG.out BB.out.size (fun kk hkk => by cases hkk; exact hbqW)⟩⟩
              · have d1 : decide ((k : Int) = a0) = false := decide_eq_false he
                have FY : Hid (Froz2 a0 k m fz) := Lib.hid (by
                  rcases FZ.out with ⟨h1, h2, h3⟩ | ⟨h1, h2, h3⟩
                  · exact .inl ⟨h1, h2, by omega⟩
                  · exact .inr ⟨h1, h2, by omega⟩)
                go_wp2_with fail
                go_meet
                exact ⟨m, fz, Lib.hid ⟨RR.out, RQ.out, FY.out, OO.out, BB.out⟩⟩
            case rest =>
              obtain ⟨m2, fz2, hq2⟩ := hcut
              clear RR RQ FZ OO BB
              have RR := Lib.hid hq2.out.1
              have RQ := Lib.hid hq2.out.2.1
              have FZ := Lib.hid hq2.out.2.2.1
              have OO := Lib.hid hq2.out.2.2.2.1
              have BB := Lib.hid hq2.out.2.2.2.2
              clear hq2
              obtain ⟨gx, _, _⟩ := OO.out.at L1.out k hk1
              simp only [EC.out, Cd.cells] at gx
              have g0 : wc.cell? ⟨gi, k * 7, none⟩ = some (.string nm) := gx 0 _ rfl
              have g1 : wc.cell? ⟨gi, k * 7 + 1, none⟩ = some (.string fm) := gx 1 _ rfl
              have g2 : wc.cell? ⟨gi, k * 7 + 2, none⟩ = some (.int .u8 lv) := gx 2 _ rfl
              have g3 : wc.cell? ⟨gi, k * 7 + 3, none⟩ = some (.slice am ss.length cm) := gx 3 _ rfl
              have g4 : wc.cell? ⟨gi, k * 7 + 4, none⟩ = some (.int .i8 sco) := gx 4 _ rfl
              have g5 : wc.cell? ⟨gi, k * 7 + 5, none⟩ = some (.string qm) := gx 5 _ rfl
              have g6 : wc.cell? ⟨gi, k * 7 + 6, none⟩ = some (.int .i16 en) := gx 6 _ rfl
              clear gx
              have C1 := Lib.hid (enter_step br W.heap.size lv sco en nm fm qm ss (.slice am ss.length cm) L k hkL (by omega) HC.out wc RR.out BB.out.size HFw.out HOk.out (TX.out _ OO.out))
              go_wp2_with fail
              refine C1.out.mono ?_
              rintro er w1 ⟨rfl, hreg, hg⟩
              have R1 := Lib.hid hreg
              have G1 := Lib.hid hg
              have Q1 := Lib.hid (RQ.out.kept HNE.out RR.out G1.out)
              have O1 := Lib.hid (OO.out.kept RR.out G1.out)
              have B1 := Lib.hid (BB.out.grown G1.out BB.out.size (fun kk hkk => by cases hkk; exact hbrW))
              obtain ⟨x, hx⟩ : ∃ x, answerF L k = x := ⟨_, rfl⟩
              have HX := Lib.hid hx
              rw [hx]
              clear hreg hg C1 hx RR RQ OO BB
              clear g0 g1 g2 g3 g4 g5 g6
              obtain ⟨gx, _, _⟩ := O1.out.at L1.out k hk1
              simp only [EC.out, Cd.cells] at gx
              have g0 : w1.cell? ⟨gi, k * 7, none⟩ = some (.string nm) := gx 0 _ rfl
              have g1 : w1.cell? ⟨gi, k * 7 + 1, none⟩ = some (.string fm) := gx 1 _ rfl
              have g2 : w1.cell? ⟨gi, k * 7 + 2, none⟩ = some (.int .u8 lv) := gx 2 _ rfl
              have g3 : w1.cell? ⟨gi, k * 7 + 3, none⟩ = some (.slice am ss.length cm) := gx 3 _ rfl
              have g4 : w1.cell? ⟨gi, k * 7 + 4, none⟩ = some (.int .i8 sco) := gx 4 _ rfl
              have g5 : w1.cell? ⟨gi, k * 7 + 5, none⟩ = some (.string qm) := gx 5 _ rfl
              have g6 : w1.cell? ⟨gi, k * 7 + 6, none⟩ = some (.int .i16 en) := gx 6 _ rfl
              clear gx
              rcases FZ.out with ⟨rfl, rfl, hfr⟩ | ⟨rfl, hma, hfr⟩
              · as_aux_lemma => --ok
                  have HFR := Lib.hid hfr
                  clear hfr
                  have C2 := Lib.hid (enter_step bq W.heap.size lv sco en nm fm qm ss (.slice am ss.length cm) L m2 hkL (by omega) HC.out w1 Q1.out B1.out.size HFw.out HOk.out (TX.out _ O1.out))
                  rw [HX.out] at C2
                  go_wp2_with fail
                  refine C2.out.mono ?_
                  rintro er w2 ⟨rfl, hreg, hg⟩
                  have Q2 := Lib.hid hreg
                  have G2 := Lib.hid hg
                  have R2 := Lib.hid (R1.out.kept HNE.out.symm Q1.out G2.out)
                  have O2 := Lib.hid (O1.out.kept Q1.out G2.out)
                  have B2 := Lib.hid (B1.out.grown G2.out B1.out.size (fun kk hkk => by cases hkk; exact hbqW))
                  clear hreg hg C2 R1 Q1 O1 B1
                  clear g0 g1 g2 g3 g4 g5 g6
                  rcases AT.out with ⟨a1, a2, a3⟩ | ⟨a1, a2, a3⟩ | ⟨a1, a2, a3⟩
                  · obtain rfl : x = _ := HX.out.symm.trans a1
                    have A2 := Lib.hid a2
                    have A3 := Lib.hid a3
                    clear a1 a2 a3
                    go_wp2_with fail
                    refine (frozen_any bq W.heap.size _ _ _ w2 Q2.out).mono ?_
                    rintro er w5 ⟨rfl, rfl⟩
                    go_wp2_with fail
                    refine (frozen_any bq W.heap.size _ _ _ w5 Q2.out).mono ?_
                    rintro er w6 ⟨rfl, rfl⟩
                    go_wp2_with fail
                    go_roundg (n - (m2 + 1))
                    case measure => rw [HR.out]; omega
                    case rel => exact ⟨m2 + 1, m2 + 1, false, by omega, rfl, by first | rfl | simp, by rw [A2.out] <;> first | rfl | simp, by rw [A3.out] <;> first | rfl | simp, Lib.hid ⟨R2.out, Q2.out, .inl ⟨rfl, rfl, by have := HFR.out; omega⟩, O2.out, B2.out⟩⟩
                  · obtain rfl : x = _ := HX.out.symm.trans a1
                    have A2 := Lib.hid a2
                    have A3 := Lib.hid a3
                    clear a1 a2 a3
                    go_wp2_with fail
                    refine (frozen_any bq W.heap.size _ _ _ w2 Q2.out).mono ?_
                    rintro er w5 ⟨rfl, rfl⟩
                    go_wp2_with fail
                    refine (frozen_any bq W.heap.size _ _ _ w5 Q2.out).mono ?_
                    rintro er w6 ⟨rfl, rfl⟩
                    go_wp2_with fail
                    go_roundg (n - (m2 + 1))
                    case measure => rw [HR.out]; omega
                    case rel => exact ⟨m2 + 1, m2 + 1, false, by omega, rfl, by first | rfl | simp, by rw [A2.out] <;> first | rfl | simp, by rw [A3.out] <;> first | rfl | simp, Lib.hid ⟨R2.out, Q2.out, .inl ⟨rfl, rfl, by have := HFR.out; omega⟩, O2.out, B2.out⟩⟩
                  · obtain rfl : x = _ := HX.out.symm.trans a1
                    have A2 := Lib.hid a2
                    have A3 := Lib.hid a3
                    clear a1 a2 a3
                    go_wp2_with fail
                    refine (frozen_any bq W.heap.size _ _ _ w2 Q2.out).mono ?_
                    rintro er w5 ⟨rfl, rfl⟩
                    go_wp2_with fail
                    refine (frozen_any bq W.heap.size _ _ _ w5 Q2.out).mono ?_
                    rintro er w6 ⟨rfl, rfl⟩
                    go_wp2_with fail
                    go_roundg (n - (m2 + 1))
                    case measure => rw [HR.out]; omega
                    case rel => exact ⟨m2 + 1, m2 + 1, false, by omega, rfl, by first | rfl | simp, by rw [A2.out] <;> first | rfl | simp, by rw [A3.out] <;> first | rfl | simp, Lib.hid ⟨R2.out, Q2.out, .inl ⟨rfl, rfl, by have := HFR.out; omega⟩, O2.out, B2.out⟩⟩
              · as_aux_lemma => --ok
                  have HFR := Lib.hid hfr
                  have HMA := Lib.hid hma
                  clear hfr hma
                  have C2 := Lib.hid (enter_frozen bq W.heap.size _ _ nm fm qm lv sco en (.slice am ss.length cm) w1 Q1.out)
                  go_wp2_with fail
                  refine C2.out.mono ?_
                  rintro er w2 ⟨rfl, hreg, hg⟩
                  have Q2 := Lib.hid hreg
                  have G2 := Lib.hid hg
                  have R2 := Lib.hid (R1.out.kept HNE.out.symm Q1.out G2.out)
                  have O2 := Lib.hid (O1.out.kept Q1.out G2.out)
                  have B2 := Lib.hid (B1.out.grown G2.out B1.out.size (fun kk hkk => by cases hkk; exact hbqW))
                  clear hreg hg C2 R1 Q1 O1 B1
                  clear g0 g1 g2 g3 g4 g5 g6
                  rcases AT.out with ⟨a1, a2, a3⟩ | ⟨a1, a2, a3⟩ | ⟨a1, a2, a3⟩
                  · obtain rfl : x = _ := HX.out.symm.trans a1
                    have A2 := Lib.hid a2
                    have A3 := Lib.hid a3
                    clear a1 a2 a3
                    go_wp2_with fail
                    refine (frozen_any bq W.heap.size _ _ _ w2 Q2.out).mono ?_
                    rintro er w5 ⟨rfl, rfl⟩
                    go_wp2_with fail
                    refine (frozen_any bq W.heap.size _ _ _ w5 Q2.out).mono ?_
                    rintro er w6 ⟨rfl, rfl⟩
                    go_wp2_with fail
                    go_roundg (n - (k + 1))
                    case measure => rw [HR.out]; omega
                    case rel => exact ⟨k + 1, m2, true, by omega, rfl, by first | rfl | simp, by rw [A2.out] <;> first | rfl | simp, by rw [A3.out] <;> first | rfl | simp, Lib.hid ⟨R2.out, Q2.out, .inr ⟨rfl, HMA.out, by have := HFR.out; omega⟩, O2.out, B2.out⟩⟩
                  · obtain rfl : x = _ := HX.out.symm.trans a1
                    have A2 := Lib.hid a2
                    have A3 := Lib.hid a3
                    clear a1 a2 a3
                    go_wp2_with fail
                    refine (frozen_any bq W.heap.size _ _ _ w2 Q2.out).mono ?_
                    rintro er w5 ⟨rfl, rfl⟩
                    go_wp2_with fail
                    refine (frozen_any bq W.heap.size _ _ _ w5 Q2.out).mono ?_
                    rintro er w6 ⟨rfl, rfl⟩
                    go_wp2_with fail
                    go_roundg (n - (k + 1))
                    case measure => rw [HR.out]; omega
                    case rel => exact ⟨k + 1, m2, true, by omega, rfl, by first | rfl | simp, by rw [A2.out] <;> first | rfl | simp, by rw [A3.out] <;> first | rfl | simp, Lib.hid ⟨R2.out, Q2.out, .inr ⟨rfl, HMA.out, by have := HFR.out; omega⟩, O2.out, B2.out⟩⟩
                  · obtain rfl : x = _ := HX.out.symm.trans a1
                    have A2 := Lib.hid a2
                    have A3 := Lib.hid a3
                    clear a1 a2 a3
                    go_wp2_with fail
                    refine (frozen_any bq W.heap.size _ _ _ w2 Q2.out).mono ?_
                    rintro er w5 ⟨rfl, rfl⟩
                    go_wp2_with fail
                    refine (frozen_any bq W.heap.size _ _ _ w5 Q2.out).mono ?_
                    rintro er w6 ⟨rfl, rfl⟩
                    go_wp2_with fail
                    go_roundg (n - (k + 1))
                    case measure => rw [HR.out]; omega
                    case rel => exact ⟨k + 1, m2, true, by omega, rfl, by first | rfl | simp, by rw [A2.out] <;> first | rfl | simp, by rw [A3.out] <;> first | rfl | simp, Lib.hid ⟨R2.out, Q2.out, .inr ⟨rfl, HMA.out, by have := HFR.out; omega⟩, O2.out, B2.out⟩⟩
          · obtain rfl : k = n := by omega
            go_wp2_with fail
            go_meet
            exact ⟨m, fz, rfl, rfl, Lib.hid ⟨RR.out, RQ.out, FZ.out, OO.out, BB.out⟩⟩
      case rest =>
        obtain ⟨m, fz, rfl, rfl, hq⟩ := hcut
        obtain ⟨wd, rfl⟩ : ∃ wd : World, wd = wc := ⟨_, rfl⟩
        have RR := Lib.hid hq.out.1
        have RQ := Lib.hid hq.out.2.1
        have FZ := Lib.hid hq.out.2.2.1
        have OO := Lib.hid hq.out.2.2.2.1
        have BB := Lib.hid hq.out.2.2.2.2
        clear hq RR0 RQ0 O3 B3
        have CL : Hid (CardsAt wd (.slice ai n ci) L) := Lib.hid (by
          have := OO.out.cards F1.out (by have := L1.out; unfold maxLen; omega)
          rwa [HL.out] at this)
        have HMS : Hid (∀ c ∈ standsF L n, c.comp.length ≤ 8796093022208) := Lib.hid (stands_of (P := fun c => c.comp.length ≤ 8796093022208) HFw.out n (by rw [LL.out]; exact Nat.le_refl _))
        have HMO : Hid (∀ c ∈ standsF L n, c.ok) := Lib.hid (stands_of (P := fun c => c.ok) HOk.out n (by rw [LL.out]; exact Nat.le_refl _))
        have HMR : Hid (∀ c ∈ refusedF L n, c.comp.length ≤ 8796093022208) := Lib.hid (refused_of (P := fun c => c.comp.length ≤ 8796093022208) HFw.out n (by rw [LL.out]; exact Nat.le_refl _))
        have HMm : Hid (m ≤ n → ∀ c ∈ standsF L m, c.comp.length ≤ 8796093022208) := Lib.hid (fun hm => stands_of (P := fun c => c.comp.length ≤ 8796093022208) HFw.out m (by rw [LL.out]; exact hm))
        obtain ⟨G, hG⟩ : ∃ G, standsF L n = G := ⟨_, rfl⟩
        obtain ⟨Rf, hRf⟩ : ∃ R, refusedF L n = R := ⟨_, rfl⟩
        have HG0 : Hid (checkE G = 0) := Lib.hid (by rw [← hG]; exact stands_check L (by omega))
        have HGn : Hid (greedF L G n = G.length) := Lib.hid (by rw [← hG]; exact greed_all L n)
        have HAll : Hid (checkE L = 0 ∧ G.length = n ∧ Rf.length = 0 ∨ checkE L = 70) := Lib.hid (by
          by_cases he : checkE L = 0
          · obtain ⟨e1, e2⟩ := stands_all he n (by rw [LL.out]; exact Nat.le_refl _)
            refine .inl ⟨he, ?_, ?_⟩
            · rw [← hG, e1, List.length_take, LL.out]; omega
            · rw [← hRf, e2]; rfl
          · refine .inr ?_
            unfold checkE at he ⊢
            split
            · rfl
            · rename_i hh
              rw [hh] at he
              exact absurd rfl he)
        have hS60 : G.length ≤ n := by rw [← hG]; exact stands_len L n
        have hR60 : Rf.length ≤ n := by rw [← hRf]; exact refused_len L n
        rw [hG] at RR HMS HMO
        rw [hRf] at RR HMR
        rw [hG, hRf]
        clear hG hRf
        obtain ⟨S, hS⟩ : ∃ S, G.length = S := ⟨_, rfl⟩
        obtain ⟨R, hR⟩ : ∃ R, Rf.length = R := ⟨_, rfl⟩
        rw [hS] at HGn HAll hS60
        rw [hR] at HAll hR60
        rw [hS, hR]
        have HS := Lib.hid hS
        have HRR := Lib.hid hR
        clear hS hR
        go_wp2_with fail
        refine (check_any (.slice ai n ci) L wd CL.out HOk.out).mono ?_
        rintro er w1 ⟨rfl, hb⟩
        have B1 := Lib.hid hb
        have RR1 := Lib.hid (RR.out.below hb)
        clear hb
        obtain ⟨I1, hI1⟩ : ∃ x, checkI L = x := ⟨_, rfl⟩
        rw [hI1]
        obtain ⟨E1, hE1⟩ : ∃ x, checkE L = x := ⟨_, rfl⟩
        rw [hE1]
        rw [hE1] at HAll
        clear hI1 hE1
        go_wp2_with fail
        refine (cards_any br W.heap.size G Rf false w1 RR1.out (fun i h => HMS.out _ (List.getElem_mem h))).mono ?_
        rintro er w2 ⟨vo, lg, rfl, hlg, hown, hrows, hb⟩
        have B2 := Lib.hid (B1.out.trans (hb.mono B1.out.size))
        have RR2 := Lib.hid (RR1.out.below hb)
        have hlS : lg.length = S := by rw [← HS.out, ← hlg, List.length_map]
        obtain ⟨ao, co, rfl⟩ := own_slice hown
        rw [hlS] at hown
        rw [hlS]
        have CG : Hid (CardsAt w2 (.slice ao S co) G) := Lib.hid (by
          have := cards_rows (by rw [hlS]; exact hown) hrows (by unfold maxLen; omega) (fun r hr => by
            have : r.1 ∈ G := by rw [← hlg]; exact List.mem_map.2 ⟨r, hr, rfl⟩
            have := HMS.out _ this
            unfold maxLen
            omega)
          rwa [hlg] at this)
        clear hown hrows hb hlg hlS RR1 B1 lg
        go_wp2_with fail
        refine (check_any (.slice ao S co) G w2 CG.out (fun i hi => by rw [nthC_eq hi]; exact HMO.out _ (List.getElem_mem hi))).mono ?_
        rintro er w3 ⟨rfl, hb⟩
        have B3 := Lib.hid (B2.out.trans (hb.mono B2.out.size))
        have RR3 := Lib.hid (RR2.out.below hb)
        have CG3 := Lib.hid (CG.out.below hb)
        clear hb B2 RR2 CG
        rw [HG0.out]
        obtain ⟨I2, hI2⟩ : ∃ x, checkI G = x := ⟨_, rfl⟩
        rw [hI2]
        clear hI2
        go_upto_region 35 with fail
        go_cut [176] (fun t wx => t = .bool false ∧ Hid (Below wd.heap.size wd wx ∧ CardsAt wx (.slice ao S co) G))
        case first => as_aux_lemma => --ok
          rcases HAll.out with ⟨rfl, rfl, rfl⟩ | rfl
          · go_wp2_with fail
            refine (refused_any br W.heap.size G Rf false w3 RR3.out (fun i h => HMR.out _ (List.getElem_mem h))).mono ?_
            rintro er w4 ⟨vo, lr, rfl, hlr, hown, hrows, hb⟩
            have B4 := Lib.hid (B3.out.trans (hb.mono B3.out.size))
            have CG4 := Lib.hid (CG3.out.below hb)
            obtain ⟨a2, c2, rfl⟩ := own_slice hown
            rw [show lr.length = 0 by rw [← HRR.out, ← hlr, List.length_map]]
            clear hown hrows hb hlr
            go_wp2_with fail
            go_meet
            exact ⟨by first | rfl | simp, Lib.hid ⟨B4.out, CG4.out⟩⟩
          · go_wp2_with fail
            refine (refused_any br W.heap.size G Rf false w3 RR3.out (fun i h => HMR.out _ (List.getElem_mem h))).mono ?_
            rintro er w4 ⟨vo, lr, rfl, hlr, hown, hrows, hb⟩
            have B4 := Lib.hid (B3.out.trans (hb.mono B3.out.size))
            have CG4 := Lib.hid (CG3.out.below hb)
            obtain ⟨a2, c2, rfl⟩ := own_slice hown
            rw [show lr.length = R by rw [← HRR.out, ← hlr, List.length_map]]
            clear hown hrows hb hlr
            go_wp2_with fail
            go_meet
            exact ⟨by first | rfl | simp, Lib.hid ⟨B4.out, CG4.out⟩⟩
        case rest =>
          obtain ⟨rfl, hcut⟩ := hcut
          have BF := Lib.hid hcut.out.1
          have CG := Lib.hid hcut.out.2
          clear hcut
          obtain ⟨wf, rfl⟩ : ∃ wf : World, wf = wc := ⟨_, rfl⟩
          have CF := Lib.hid (CL.out.below BF.out)
          have RF := Lib.hid (RQ.out.below BF.out)
          have BW := Lib.hid (BB.out.trans (BF.out.mono BB.out.size))
          clear BF CL RQ RR OO BB CG3 RR3 B3 HAll F1
          go_upto_block 4 with fail
          go_cut [22] (fun vk wx => vk = .int .i64 S ∧ Hid (Below wf.heap.size wf wx))
          case first => as_aux_lemma => --ok
            go_wp2_with fail
            go_loopg [22, 23] n (fun r vk vi wr => ∃ i k : Nat, i ≤ n ∧ r = n - i ∧ vi = .int .i64 i ∧ vk = .int .i64 k ∧ k ≤ S ∧ Hid (k = greedF L G i ∧ Below wf.heap.size wf wr))
            case atStart => exact ⟨0, 0, by omega, by omega, rfl, rfl, by omega, Lib.hid ⟨rfl, Below.refl _ _⟩⟩
            case round =>
              obtain ⟨i, k, hi, hr, rfl, rfl, hkS, hq⟩ := hrel
              have HR := Lib.hid hr
              have HK2 := Lib.hid hq.out.1
              have B := Lib.hid hq.out.2
              clear hr hq
              by_cases hgo : i < n ∧ k < S
              · as_aux_lemma =>
                obtain ⟨hlt, hlk⟩ := hgo
                have hc1 := CF.out.below B.out
                have hc2 := CG.out.below B.out
                obtain ⟨hx, b, off, sl, hp, g, hst⟩ := hc1.at i hlt
                obtain ⟨hx', b', off', sl', hp', g', hst'⟩ := hc2.at k hlk
                clear hx hx'
                clear hc1 hc2
                subst hp hp'
                have HST := Lib.hid hst
                have HST' := Lib.hid hst'
                obtain ⟨c, hc⟩ : ∃ c, nthC L i = c := ⟨_, rfl⟩
                obtain ⟨d, hd⟩ : ∃ c, nthC G k = c := ⟨_, rfl⟩
                rw [hc] at g HST
                rw [hd] at g' HST'
                have HC := Lib.hid hc
                have HD := Lib.hid hd
                obtain ⟨n1, f, l, ss, sc, q, en⟩ := c
                obtain ⟨n', f', l', ss', sc', q', en'⟩ := d
                have g0 : wr.cell? ⟨b, off + i * 7, none⟩ = some (.string n1) := g 0 _ rfl
                have g1 : wr.cell? ⟨b, off + i * 7 + 1, none⟩ = some (.string f) := g 1 _ rfl
                have g2 : wr.cell? ⟨b, off + i * 7 + 2, none⟩ = some (.int .u8 l) := g 2 _ rfl
                have g3 : wr.cell? ⟨b, off + i * 7 + 3, none⟩ = some (sl) := g 3 _ rfl
                have g4 : wr.cell? ⟨b, off + i * 7 + 4, none⟩ = some (.int .i8 sc) := g 4 _ rfl
                have g5 : wr.cell? ⟨b, off + i * 7 + 5, none⟩ = some (.string q) := g 5 _ rfl
                have g6 : wr.cell? ⟨b, off + i * 7 + 6, none⟩ = some (.int .i16 en) := g 6 _ rfl
                have g0' : wr.cell? ⟨b', off' + k * 7, none⟩ = some (.string n') := g' 0 _ rfl
                have g1' : wr.cell? ⟨b', off' + k * 7 + 1, none⟩ = some (.string f') := g' 1 _ rfl
                have g2' : wr.cell? ⟨b', off' + k * 7 + 2, none⟩ = some (.int .u8 l') := g' 2 _ rfl
                have g3' : wr.cell? ⟨b', off' + k * 7 + 3, none⟩ = some (sl') := g' 3 _ rfl
                have g4' : wr.cell? ⟨b', off' + k * 7 + 4, none⟩ = some (.int .i8 sc') := g' 4 _ rfl
                have g5' : wr.cell? ⟨b', off' + k * 7 + 5, none⟩ = some (.string q') := g' 5 _ rfl
                have g6' : wr.cell? ⟨b', off' + k * 7 + 6, none⟩ = some (.int .i16 en') := g' 6 _ rfl
                clear hst hst' hc hd g g'
                have hkc1 : (0 : Int) ≤ (i : Int) := by omega
                have hkc2 : (i : Int) < (n : Int) := by omega
                have hkc3 : (0 : Int) ≤ (k : Int) := by omega
                have hkc4 : (k : Int) < (S : Int) := by omega
                obtain ⟨mm, hsame⟩ : ∃ mm, sameB ⟨n1, f, l, ss, sc, q, en⟩ ⟨n', f', l', ss', sc', q', en'⟩ = mm := ⟨_, rfl⟩
                have CM := fun (w' : World) (hb : Below wr.heap.size wr w') => same_walk n1 f q n' f' q' l sc en l' sc' en' ss ss' sl sl' w' (HST.out.below hb) (HST'.out.below hb)
                rw [hsame] at CM
                have CM := Lib.hid CM
                have HMY := Lib.hid hsame
                clear hsame
                cases mm with
                | false =>
                  have HN : Hid (k = greedF L G (i + 1)) := Lib.hid (by rw [greed_no (by rw [← HK2.out, HC.out, HD.out]; exact HMY.out)]; exact HK2.out)
                  go_wp2_with fail
                  refine wp_region_any (by kernel_rfl) ?_
                  refine wpAny_take (i := 0) (v := ?_) rfl (by kernel_rfl) (by kernel_rfl) (by kernel_rfl) (fun _ _ _ h => h) (Or.inl ⟨by kernel_rfl, ?_⟩) ?_
                  rotate_left
                  · intro w
                    go_simp
                    try with_reducible rfl
                  simp only [Act.put, List.getElem_toArray, List.getElem_cons_zero, List.getElem_cons_succ, List.setIfInBounds_toArray, List.set_cons_zero, List.set_cons_succ]
                  refine wpAny_take (i := 1) (v := ?_) rfl (by kernel_rfl) (by kernel_rfl) (by kernel_rfl) (fun _ _ _ h => h) (Or.inl ⟨by kernel_rfl, ?_⟩) ?_
                  rotate_left
                  · intro w
                    go_simp
                    try with_reducible rfl
                  simp only [Act.put, List.getElem_toArray, List.getElem_cons_zero, List.getElem_cons_succ, List.setIfInBounds_toArray, List.set_cons_zero, List.set_cons_succ]
                  refine wpAny_take (i := 2) (v := ?_) rfl (by kernel_rfl) (by kernel_rfl) (by kernel_rfl) (fun _ _ _ h => h) (Or.inl ⟨by kernel_rfl, ?_⟩) ?_
                  rotate_left
                  · intro w
                    go_simp
                    try with_reducible rfl
                  simp only [Act.put, List.getElem_toArray, List.getElem_cons_zero, List.getElem_cons_succ, List.setIfInBounds_toArray, List.set_cons_zero, List.set_cons_succ]
                  refine wpAny_take (i := 4) (v := ?_) rfl (by kernel_rfl) (by kernel_rfl) (by kernel_rfl) (fun _ _ _ h => h) (Or.inl ⟨by kernel_rfl, ?_⟩) ?_
                  rotate_left
                  · intro w
                    go_simp
                    try with_reducible rfl
                  simp only [Act.put, List.getElem_toArray, List.getElem_cons_zero, List.getElem_cons_succ, List.setIfInBounds_toArray, List.set_cons_zero, List.set_cons_succ]
                  refine wpAny_take (i := 5) (v := ?_) rfl (by kernel_rfl) (by kernel_rfl) (by kernel_rfl) (fun _ _ _ h => h) (Or.inl ⟨by kernel_rfl, ?_⟩) ?_
                  rotate_left
                  · intro w
                    go_simp
                    try with_reducible rfl
                  simp only [Act.put, List.getElem_toArray, List.getElem_cons_zero, List.getElem_cons_succ, List.setIfInBounds_toArray, List.set_cons_zero, List.set_cons_succ]
                  refine wpAny_take (i := 6) (v := ?_) rfl (by kernel_rfl) (by kernel_rfl) (by kernel_rfl) (fun _ _ _ h => h) (Or.inl ⟨by kernel_rfl, ?_⟩) ?_
                  rotate_left
                  · intro w
                    go_simp
                    try with_reducible rfl
                  simp only [Act.put, List.getElem_toArray, List.getElem_cons_zero, List.getElem_cons_succ, List.setIfInBounds_toArray, List.set_cons_zero, List.set_cons_succ]
                  refine wpAny_ready (rs := [3, 7]) (by kernel_rfl) (by simp) (AllReady.cons rfl (fun K hK => ?_) (AllReady.cons rfl (fun K hK => ?_) AllReady.nil))
                  · skip
                    go_simp
                    refine hK _ _ ?_
                    clear hK K
                    try simp only [Act.put, List.setIfInBounds_toArray, List.set_cons_zero, List.set_cons_succ]
                    refine wpAny_ready (rs := [7]) (by kernel_rfl) (by simp) (AllReady.cons rfl (fun K hK => ?_) AllReady.nil)
                    go_simp
                    refine hK _ _ ?_
                    clear hK K
                    try simp only [Act.put, List.setIfInBounds_toArray, List.set_cons_zero, List.set_cons_succ]
                    refine wpAny_ready (rs := [8]) (by kernel_rfl) (by simp) (AllReady.cons rfl (fun K hK => ?_) AllReady.nil)
                    go_simp
                    refine (CM.out _ ((Below.refl _ _).drew)).mono ?_
                    rintro er w2 ⟨rfl, hb2⟩
                    have B2 := Lib.hid ((B.out.drew).trans (hb2.mono B.out.size))
                    clear hb2
                    go_simp
                    refine hK _ _ ?_
                    clear hK K
                    try simp only [Act.put, List.setIfInBounds_toArray, List.set_cons_zero, List.set_cons_succ]
                    refine wpAny_done (by kernel_rfl) ?_ _
                    go_wp2_with fail
                    go_roundg (n - (i + 1))
                    case measure => rw [HR.out]; omega
                    case rel => exact ⟨i + 1, k, by omega, rfl, by first | rfl | simp, by first | rfl | simp, by omega, Lib.hid ⟨HN.out, B2.out⟩⟩
                  · skip
                    go_simp
                    refine hK _ _ ?_
                    clear hK K
                    try simp only [Act.put, List.setIfInBounds_toArray, List.set_cons_zero, List.set_cons_succ]
                    refine wpAny_ready (rs := [3]) (by kernel_rfl) (by simp) (AllReady.cons rfl (fun K hK => ?_) AllReady.nil)
                    go_simp
                    refine hK _ _ ?_
                    clear hK K
                    try simp only [Act.put, List.setIfInBounds_toArray, List.set_cons_zero, List.set_cons_succ]
                    refine wpAny_ready (rs := [8]) (by kernel_rfl) (by simp) (AllReady.cons rfl (fun K hK => ?_) AllReady.nil)
                    go_simp
                    refine (CM.out _ ((Below.refl _ _).drew)).mono ?_
                    rintro er w2 ⟨rfl, hb2⟩
                    have B2 := Lib.hid ((B.out.drew).trans (hb2.mono B.out.size))
                    clear hb2
                    go_simp
                    refine hK _ _ ?_
                    clear hK K
                    try simp only [Act.put, List.setIfInBounds_toArray, List.set_cons_zero, List.set_cons_succ]
                    refine wpAny_done (by kernel_rfl) ?_ _
                    go_wp2_with fail
                    go_roundg (n - (i + 1))
                    case measure => rw [HR.out]; omega
                    case rel => exact ⟨i + 1, k, by omega, rfl, by first | rfl | simp, by first | rfl | simp, by omega, Lib.hid ⟨HN.out, B2.out⟩⟩
                | true =>
                  have HN : Hid (k + 1 = greedF L G (i + 1)) := Lib.hid (by rw [greed_yes (by rw [← HK2.out, HS.out]; exact hlk) (by rw [← HK2.out, HC.out, HD.out]; exact HMY.out), ← HK2.out])
                  go_wp2_with fail
                  refine wp_region_any (by kernel_rfl) ?_
                  refine wpAny_take (i := 0) (v := ?_) rfl (by kernel_rfl) (by kernel_rfl) (by kernel_rfl) (fun _ _ _ h => h) (Or.inl ⟨by kernel_rfl, ?_⟩) ?_
                  rotate_left
                  · intro w
                    go_simp
                    try with_reducible rfl
                  simp only [Act.put, List.getElem_toArray, List.getElem_cons_zero, List.getElem_cons_succ, List.setIfInBounds_toArray, List.set_cons_zero, List.set_cons_succ]
                  refine wpAny_take (i := 1) (v := ?_) rfl (by kernel_rfl) (by kernel_rfl) (by kernel_rfl) (fun _ _ _ h => h) (Or.inl ⟨by kernel_rfl, ?_⟩) ?_
                  rotate_left
                  · intro w
                    go_simp
                    try with_reducible rfl
                  simp only [Act.put, List.getElem_toArray, List.getElem_cons_zero, List.getElem_cons_succ, List.setIfInBounds_toArray, List.set_cons_zero, List.set_cons_succ]
                  refine wpAny_take (i := 2) (v := ?_) rfl (by kernel_rfl) (by kernel_rfl) (by kernel_rfl) (fun _ _ _ h => h) (Or.inl ⟨by kernel_rfl, ?_⟩) ?_
                  rotate_left
                  · intro w
                    go_simp
                    try with_reducible rfl
                  simp only [Act.put, List.getElem_toArray, List.getElem_cons_zero, List.getElem_cons_succ, List.setIfInBounds_toArray, List.set_cons_zero, List.set_cons_succ]
                  refine wpAny_take (i := 4) (v := ?_) rfl (by kernel_rfl) (by kernel_rfl) (by kernel_rfl) (fun _ _ _ h => h) (Or.inl ⟨by kernel_rfl, ?_⟩) ?_
                  rotate_left
                  · intro w
                    go_simp
                    try with_reducible rfl
                  simp only [Act.put, List.getElem_toArray, List.getElem_cons_zero, List.getElem_cons_succ, List.setIfInBounds_toArray, List.set_cons_zero, List.set_cons_succ]
                  refine wpAny_take (i := 5) (v := ?_) rfl (by kernel_rfl) (by kernel_rfl) (by kernel_rfl) (fun _ _ _ h => h) (Or.inl ⟨by kernel_rfl, ?_⟩) ?_
                  rotate_left
                  · intro w
                    go_simp
                    try with_reducible rfl
                  simp only [Act.put, List.getElem_toArray, List.getElem_cons_zero, List.getElem_cons_succ, List.setIfInBounds_toArray, List.set_cons_zero, List.set_cons_succ]
                  refine wpAny_take (i := 6) (v := ?_) rfl (by kernel_rfl) (by kernel_rfl) (by kernel_rfl) (fun _ _ _ h => h) (Or.inl ⟨by kernel_rfl, ?_⟩) ?_
                  rotate_left
                  · intro w
                    go_simp
                    try with_reducible rfl
                  simp only [Act.put, List.getElem_toArray, List.getElem_cons_zero, List.getElem_cons_succ, List.setIfInBounds_toArray, List.set_cons_zero, List.set_cons_succ]
                  refine wpAny_ready (rs := [3, 7]) (by kernel_rfl) (by simp) (AllReady.cons rfl (fun K hK => ?_) (AllReady.cons rfl (fun K hK => ?_) AllReady.nil))
                  · skip
                    go_simp
                    refine hK _ _ ?_
                    clear hK K
                    try simp only [Act.put, List.setIfInBounds_toArray, List.set_cons_zero, List.set_cons_succ]
                    refine wpAny_ready (rs := [7]) (by kernel_rfl) (by simp) (AllReady.cons rfl (fun K hK => ?_) AllReady.nil)
                    go_simp
                    refine hK _ _ ?_
                    clear hK K
                    try simp only [Act.put, List.setIfInBounds_toArray, List.set_cons_zero, List.set_cons_succ]
                    refine wpAny_ready (rs := [8]) (by kernel_rfl) (by simp) (AllReady.cons rfl (fun K hK => ?_) AllReady.nil)
                    go_simp
                    refine (CM.out _ ((Below.refl _ _).drew)).mono ?_
                    rintro er w2 ⟨rfl, hb2⟩
                    have B2 := Lib.hid ((B.out.drew).trans (hb2.mono B.out.size))
                    clear hb2
                    go_simp
                    refine hK _ _ ?_
                    clear hK K
                    try simp only [Act.put, List.setIfInBounds_toArray, List.set_cons_zero, List.set_cons_succ]
                    refine wpAny_done (by kernel_rfl) ?_ _
                    go_wp2_with fail
                    go_roundg (n - (i + 1))
                    case measure => rw [HR.out]; omega
                    case rel => exact ⟨i + 1, k + 1, by omega, rfl, by first | rfl | simp, by first | rfl | simp, by omega, Lib.hid ⟨HN.out, B2.out⟩⟩
                  · skip
                    go_simp
                    refine hK _ _ ?_
                    clear hK K
                    try simp only [Act.put, List.setIfInBounds_toArray, List.set_cons_zero, List.set_cons_succ]
                    refine wpAny_ready (rs := [3]) (by kernel_rfl) (by simp) (AllReady.cons rfl (fun K hK => ?_) AllReady.nil)
                    go_simp
                    refine hK _ _ ?_
                    clear hK K
                    try simp only [Act.put, List.setIfInBounds_toArray, List.set_cons_zero, List.set_cons_succ]
                    refine wpAny_ready (rs := [8]) (by kernel_rfl) (by simp) (AllReady.cons rfl (fun K hK => ?_) AllReady.nil)
                    go_simp
                    refine (CM.out _ ((Below.refl _ _).drew)).mono ?_
                    rintro er w2 ⟨rfl, hb2⟩
                    have B2 := Lib.hid ((B.out.drew).trans (hb2.mono B.out.size))
                    clear hb2
                    go_simp
                    refine hK _ _ ?_
                    clear hK K
                    try simp only [Act.put, List.setIfInBounds_toArray, List.set_cons_zero, List.set_cons_succ]
                    refine wpAny_done (by kernel_rfl) ?_ _
                    go_wp2_with fail
                    go_roundg (n - (i + 1))
                    case measure => rw [HR.out]; omega
                    case rel => exact ⟨i + 1, k + 1, by omega, rfl, by first | rfl | simp, by first | rfl | simp, by omega, Lib.hid ⟨HN.out, B2.out⟩⟩
              · by_cases hlt : i < n
                · have hkS2 : k = S := by omega
                  have HE : Hid (greedF L G n = S) := Lib.hid (by
                    have := greed_full (l := L) (got := G) (i := i) (by rw [← HK2.out, HS.out]; exact hkS2) (n - i)
                    rw [show i + (n - i) = n by omega, HS.out] at this
                    exact this)
                  subst hkS2
                  go_wp2_with fail
                  go_meet
                  exact ⟨rfl, B⟩
                · obtain rfl : i = n := by omega
                  have hkS2 : k = S := by rw [HK2.out, HGn.out]
                  subst hkS2
                  go_wp2_with fail
                  go_meet
                  exact ⟨rfl, B⟩
          case rest =>
            obtain ⟨rfl, hB⟩ := hcut
            have BZ := Lib.hid (BW.out.trans (hB.out.mono BW.out.size))
            have RZ := Lib.hid (RF.out.below hB.out)
            clear hB BW RF CF CG
            rcases FZ.out with ⟨_, _, h3 | h3⟩ | ⟨rfl, rfl, h3⟩
            · go_wp2_with fail
              go_ret
              exact ⟨by simp, BZ.out⟩
            · go_wp2_with fail
              go_ret
              exact ⟨by simp, BZ.out⟩
            · have hmn : m < n := by omega
              have CC := Lib.hid (cards_any bq W.heap.size (standsF L m) (refusedF L m) true wc RZ.out (fun i h => HMm.out (by omega) _ (List.getElem_mem h)))
              have hTm : (standsF L m).length ≤ m := stands_len L m
              have HTM := Lib.hid hTm
              obtain ⟨Z, hZ⟩ : ∃ Z, standsF L m = Z := ⟨_, rfl⟩
              rw [hZ] at CC HTM
              clear hZ hTm
              go_wp2_with fail
              refine CC.out.mono ?_
              rintro er w9 ⟨vo, lz, rfl, hlz, hown, hrows, hb⟩
              obtain ⟨a2, c2, rfl⟩ := own_slice hown
              have hlen : lz.length ≤ m := by rw [← List.length_map (f := (·.1)), hlz]; exact HTM.out
              have hlen2 : (lz.length : Int) ≤ (m : Int) := by omega
              have B9 := Lib.hid (BZ.out.trans (hb.mono BZ.out.size))
              clear hown hrows hb hlz
              go_wp2_with fail
              go_ret
              exact ⟨by simp, B9.out⟩
end Go.Proofs.Ytpafbnmncioppaa
