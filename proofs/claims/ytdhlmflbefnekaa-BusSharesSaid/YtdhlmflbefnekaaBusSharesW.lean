/- The walk of BusShares. -/
import Derived.Test.YtdhlmflbefnekaaRTurnC
import Derived.Test.YtdhlmflbefnekaaCopyC
import Derived.OpenShut
namespace Go.Proofs.Ytdhlmflbefnekaa
open Go.RowKit Go.ChangeShapes Go.WideShapes
open Cp (In wpList_copy same64_eq sameI_eq ints_of_own own_drew)
/-- What the weights are turned to. -/
def halved (z : Int) (k : Nat) : Int := z.tdiv 2 + ((k % 3 : Nat) : Int)
def halves (zs : List Int) : List Int := (List.range zs.length).map fun k => halved (nth zs k) k
theorem halves_len (zs : List Int) : (halves zs).length = zs.length := by simp [halves]
theorem halves_at (zs : List Int) (k : Nat) (h : k < zs.length) : nth (halves zs) k = halved (nth zs k) k := by simp [halves, nth, List.getD, h]
theorem resS_len (T : Int) (zs : List Int) (h : zs.length ≤ 17592186044416) : (Sh.resS T zs).length ≤ maxLen := by
  unfold Sh.resS maxLen
  split
  · rw [Sh.shs_len]; omega
  · simp
theorem resT_len (zs : List Int) (n : Int) : (resT zs n).length ≤ maxLen := by
  unfold resT maxLen
  split
  · rename_i h
    obtain ⟨_, _, h3, _⟩ := okT_parts h
    rw [turnsV_len]; omega
  · simp
set_option maxHeartbeats 8000000 in
set_option maxRecDepth 100000 in
theorem busShares_walk {H : Type} {enc : TypeId × Value → H} (T : Int) (v : Value) (d : DataW H) (ps : List MemPlace) (n : Int) (W : World) (_ : (Lit.int .i64 T).wf = true)
    (h : DataW.Trod enc Try.prog W 0 (fun _ => true) true 22 v d ps) {base : Nat} (hok : Value.okWide Try.prog W .any base 22 v) (hw : ∀ n ∈ DataW.weights Try.prog 22 d, n ≤ reachBytes) (_ : (Lit.int .i64 n).wf = true) (_ : W.ShapedOpen Try.prog) :
    Calls Try.prog 3 #[.int .i64 T, v, .int .i64 n] W fun e w' => e = .returned (.bool true) ∧ Below W.heap.size W w' := by
  obtain ⟨zs, hv, hsz, hwf⟩ := ints_arg (bytes := 8) Try.underlying22 Try.underlying2 (by kernel_rfl) (by kernel_rfl) hok h hw
  have hlen : zs.length ≤ 17592186044416 := by unfold reachBytes at hsz; omega
  have HV := Lib.hid hv
  have HWF : Hid (∀ k, k < zs.length → -9223372036854775808 ≤ nth zs k ∧ nth zs k ≤ 9223372036854775807) := Lib.hid (fun k hk => by
    have h1 := hwf _ (nth_mem hk)
    simp [Lit.wf] at h1
    have e1 : IntKind.i64.min = -9223372036854775808 := rfl
    have e2 : IntKind.i64.max = 9223372036854775807 := rfl
    omega)
  obtain ⟨iw, hi, hz0, hz1, hz2⟩ := info_parts infoI64
  have o0 : Hid ((W.alloc (.cells #[] 2)).ownsRow W.heap.size 2 1 (.slice (some ⟨W.heap.size, 0, none⟩) 0 0) 0 (rc [])) := Lib.hid (World.ownsRow_lit (w := W) #[] 0 (Nat.le_refl _) (by simp) rfl)
  have HV1 := Lib.hid (Cp.Ints.below hv ((Below.refl W.heap.size W).alloc (Nat.le_refl _) (.cells #[] 2)))
  have hmx : zs.length ≤ maxLen := by unfold maxLen; omega
  have hsa : W.heap.size ≤ (W.alloc (.cells #[] 2)).heap.size := ((Below.refl W.heap.size W).alloc (Nat.le_refl _) _).size
  clear hv h hok hw hsz hwf
  go_enter Try.func3, Try.ntmps3
  go_wp2_with (refine wpList_copy (by rfl) (.tmp 24) (.tmp 25) 22 (by rfl) W.heap.size 2 iw Try.underlying22 hi hz0 hz1 hz2 (.slice (some ⟨W.heap.size, 0, none⟩) 0 0) (by rfl) o0.out v zs (by rfl) HV1.out hlen hsa ?_)
  intro vi w1 hown hgrow
  have I1 := Lib.hid hown
  have HW1 : Hid (W.heap.size ≤ w1.heap.size) := Lib.hid (Nat.le_trans hsa hgrow.size)
  have LI : Hid (In vi 0 w1.heap.size) := Lib.hid (fun g hg => ⟨Nat.zero_le _, (hown.lt g hg).2⟩)
  have B1 := Lib.hid (((Below.refl W.heap.size W).alloc (Nat.le_refl _) (.cells #[] 2)).grown hgrow hsa (fun k hk => by simp [Value.ownBlock] at hk; omega))
  clear hown hgrow o0 HV1 hsa
  go_wp2_with fail
  refine (shares_any vi zs T w1 (ints_of_own I1.out rfl hmx) hlen).mono ?_
  rintro e w2 ⟨ua, rfl, hua, hb⟩
  have A2 := Lib.hid hua
  have LA := Lib.hid (In.of hua)
  have B2 := Lib.hid (B1.out.trans (hb.mono B1.out.size))
  have I2 := Lib.hid (own_below I1.out hb)
  have s1 : w1.heap.size ≤ w2.heap.size := hb.size
  clear hua hb I1
  go_wp2_with fail
  refine (shares_any vi zs T w2 (ints_of_own I2.out rfl hmx) hlen).mono ?_
  rintro e w3 ⟨ub, rfl, hub, hb⟩
  have U3 := Lib.hid hub
  have LU := Lib.hid (In.of hub)
  have A3 := Lib.hid (own_below A2.out hb)
  have B3 := Lib.hid (B2.out.trans (hb.mono B2.out.size))
  have I3 := Lib.hid (own_below I2.out hb)
  have s2 : w2.heap.size ≤ w3.heap.size := hb.size
  clear hub hb A2 I2
  go_wp2_with fail
  refine (rshares_any v zs T w3 (Cp.Ints.below HV.out B3.out)).mono ?_
  rintro e w4 ⟨uw, rfl, huw, hb⟩
  have W4 := Lib.hid huw
  have LW := Lib.hid (In.of huw)
  have U4 := Lib.hid (own_below U3.out hb)
  have A4 := Lib.hid (own_below A3.out hb)
  have B4 := Lib.hid (B3.out.trans (hb.mono B3.out.size))
  have I4 := Lib.hid (own_below I3.out hb)
  have s3 : w3.heap.size ≤ w4.heap.size := hb.size
  clear huw hb U3 A3 I3
  have hmr : (Sh.resS T zs).length ≤ maxLen := resS_len T zs hlen
  obtain ⟨E, hE⟩ : ∃ E, Sh.errS T zs = E := ⟨_, rfl⟩
  rw [hE]
  clear hE
  obtain ⟨R, hRR⟩ : ∃ R, Sh.resS T zs = R := ⟨_, rfl⟩
  rw [hRR] at hmr W4 U4 A4
  clear hRR
  go_wp2_with fail
  refine (turnsT_any vi zs n w4 (ints_of_own I4.out rfl hmx) hlen).mono ?_
  rintro e w5 ⟨uc, rfl, huc, hb⟩
  have C5 := Lib.hid huc
  have LC := Lib.hid (In.of huc)
  have W5 := Lib.hid (own_below W4.out hb)
  have U5 := Lib.hid (own_below U4.out hb)
  have A5 := Lib.hid (own_below A4.out hb)
  have B5 := Lib.hid (B4.out.trans (hb.mono B4.out.size))
  have I5 := Lib.hid (own_below I4.out hb)
  have s4 : w4.heap.size ≤ w5.heap.size := hb.size
  clear huc hb W4 U4 A4 I4
  go_wp2_with fail
  refine (turnsT_any vi zs n w5 (ints_of_own I5.out rfl hmx) hlen).mono ?_
  rintro e w6 ⟨ud, rfl, hud, hb⟩
  have D6 := Lib.hid hud
  have LD := Lib.hid (In.of hud)
  have C6 := Lib.hid (own_below C5.out hb)
  have W6 := Lib.hid (own_below W5.out hb)
  have U6 := Lib.hid (own_below U5.out hb)
  have A6 := Lib.hid (own_below A5.out hb)
  have B6 := Lib.hid (B5.out.trans (hb.mono B5.out.size))
  have I6 := Lib.hid (own_below I5.out hb)
  have s5 : w5.heap.size ≤ w6.heap.size := hb.size
  clear hud hb C5 W5 U5 A5 I5
  go_wp2_with fail
  refine (rturns_any v zs n w6 (Cp.Ints.below HV.out B6.out)).mono ?_
  rintro e w7 ⟨ut, rfl, hut, hb⟩
  have T7 := Lib.hid hut
  have LT := Lib.hid (In.of hut)
  have D7 := Lib.hid (own_below D6.out hb)
  have C7 := Lib.hid (own_below C6.out hb)
  have W7 := Lib.hid (own_below W6.out hb)
  have U7 := Lib.hid (own_below U6.out hb)
  have A7 := Lib.hid (own_below A6.out hb)
  have B7 := Lib.hid (B6.out.trans (hb.mono B6.out.size))
  have I7 := Lib.hid (own_below I6.out hb)
  have s6 : w6.heap.size ≤ w7.heap.size := hb.size
  clear hut hb D6 C6 W6 U6 A6 I6 B1 B2 B3 B4 B5 B6
  have hmt : (resT zs n).length ≤ maxLen := resT_len zs n
  obtain ⟨F, hF⟩ : ∃ F, errT zs n = F := ⟨_, rfl⟩
  rw [hF]
  clear hF
  obtain ⟨Q, hQQ⟩ : ∃ Q, resT zs n = Q := ⟨_, rfl⟩
  rw [hQQ] at hmt T7 D7 C7
  clear hQQ
  have hmr2 : R.length ≤ 9223372036854775807 := by unfold maxLen at hmr; omega
  have hmt2 : Q.length ≤ 9223372036854775807 := by unfold maxLen at hmt; omega
  go_wp2_with fail
  refine (same64_eq ua uw R w7 (ints_of_own A7.out rfl hmr) (ints_of_own W7.out rfl hmr)).mono ?_
  rintro e w' ⟨rfl, n1, rfl⟩
  go_wp2_with fail
  refine (sameI_eq uc ut Q _ (ints_of_own (own_drew C7.out n1) rfl hmt) (ints_of_own (own_drew T7.out n1) rfl hmt)).mono ?_
  rintro e w' ⟨rfl, n2, rfl⟩
  go_wp2_with fail
  refine (same64_eq vi v zs _ (ints_of_own (own_drew I7.out (n1 + n2)) rfl hmx) (Cp.Ints.below HV.out (below_drewN B7.out (n1 + n2)))).mono ?_
  rintro e w' ⟨rfl, n3, rfl⟩
  have I8 := Lib.hid (own_drew I7.out (n1 + n2 + n3))
  have A8 := Lib.hid (own_drew A7.out (n1 + n2 + n3))
  have U8 := Lib.hid (own_drew U7.out (n1 + n2 + n3))
  have W8 := Lib.hid (own_drew W7.out (n1 + n2 + n3))
  have C8 := Lib.hid (own_drew C7.out (n1 + n2 + n3))
  have D8 := Lib.hid (own_drew D7.out (n1 + n2 + n3))
  have T8 := Lib.hid (own_drew T7.out (n1 + n2 + n3))
  have B8 := Lib.hid (below_drewN B7.out (n1 + n2 + n3))
  clear I7 A7 U7 W7 C7 D7 T7 B7
  have K7 : Hid (w1.heap.size ≤ w2.heap.size ∧ w2.heap.size ≤ w3.heap.size ∧ w3.heap.size ≤ w4.heap.size ∧ w4.heap.size ≤ w5.heap.size ∧ w5.heap.size ≤ w6.heap.size) := Lib.hid ⟨s1, s2, s3, s4, s5⟩
  clear s1 s2 s3 s4 s5 s6
  obtain ⟨au, ac, rfl⟩ := own_slice A8.out
  go_wp2_with fail
  go_loopg [20] R.length (fun r vk wr => ∃ (k : Nat) (xs : List Int), k ≤ R.length ∧ r = R.length - k ∧ vk = .int .i64 k ∧ xs.length = R.length ∧ Hid (wr.ownsRow w1.heap.size 2 1 (.slice au R.length ac) R.length (rc xs) ∧ wr.ownsRow W.heap.size 2 1 vi zs.length (rc zs) ∧ wr.ownsRow w2.heap.size 2 1 ub R.length (rc R) ∧ wr.ownsRow w3.heap.size 2 1 uw R.length (rc R) ∧ wr.ownsRow w4.heap.size 3 1 uc Q.length (rc Q) ∧ wr.ownsRow w5.heap.size 3 1 ud Q.length (rc Q) ∧ wr.ownsRow w6.heap.size 3 1 ut Q.length (rc Q) ∧ Below W.heap.size W wr))
  case atStart => exact ⟨0, R, by omega, by omega, rfl, rfl, Lib.hid ⟨A8.out, I8.out, U8.out, W8.out, C8.out, D8.out, T8.out, B8.out⟩⟩
  case round =>
    clear A8 I8 U8 W8 C8 D8 T8 B8
    obtain ⟨k, xs, hk, hr, rfl, hxs, hq⟩ := hrel
    have HR := Lib.hid hr
    obtain ⟨q1, q2, q3, q4, q5, q6, q7, q8⟩ := hq.out
    have A := Lib.hid q1
    have I := Lib.hid q2
    have U := Lib.hid q3
    have X := Lib.hid q4
    have C := Lib.hid q5
    have D := Lib.hid q6
    have Z := Lib.hid q7
    have B := Lib.hid q8
    clear hr hq q1 q2 q3 q4 q5 q6 q7 q8
    by_cases hlt : k < R.length
    · obtain ⟨ga, ac', hform, _, _⟩ := A.out.form (by omega)
      obtain ⟨rfl, rfl⟩ : au = some ⟨ga, 0, none⟩ ∧ ac = ac' := by
        simp only [Value.slice.injEq] at hform
        exact ⟨hform.1, hform.2.2⟩
      have hga := LA.out ga rfl
      have hKK := K7.out
      have c1 : wr.cell? ⟨ga, k, none⟩ = some (.int .i64 (nth xs k)) := rc_at A.out hxs k hlt
      have f1 : wr.frozen? ⟨ga, k, none⟩ = false := A.out.frozenAt k
      have S1 : Hid ((wr.setCell ⟨ga, k, none⟩ (.int .i64 (-5))).ownsRow w1.heap.size 2 1 (.slice (some ⟨ga, 0, none⟩) R.length ac) R.length (rc (xs.set k (-5)))) := Lib.hid (by
        have := (A.out.stored k (.int .i64 (-5))).1
        rwa [rc_set] at this)
      have S2 := Lib.hid (ownsRow_setCell_other I.out (a := ⟨ga, k, none⟩) (LI.out.ne (.inr (by show w1.heap.size ≤ ga; omega))) (.int .i64 (-5)))
      have S3 := Lib.hid (ownsRow_setCell_other U.out (a := ⟨ga, k, none⟩) (LU.out.ne (.inl (by show ga < w2.heap.size; omega))) (.int .i64 (-5)))
      have S4 := Lib.hid (ownsRow_setCell_other X.out (a := ⟨ga, k, none⟩) (LW.out.ne (.inl (by show ga < w3.heap.size; omega))) (.int .i64 (-5)))
      have S5 := Lib.hid (ownsRow_setCell_other C.out (a := ⟨ga, k, none⟩) (LC.out.ne (.inl (by show ga < w4.heap.size; omega))) (.int .i64 (-5)))
      have S6 := Lib.hid (ownsRow_setCell_other D.out (a := ⟨ga, k, none⟩) (LD.out.ne (.inl (by show ga < w5.heap.size; omega))) (.int .i64 (-5)))
      have S7 := Lib.hid (ownsRow_setCell_other Z.out (a := ⟨ga, k, none⟩) (LT.out.ne (.inl (by show ga < w6.heap.size; omega))) (.int .i64 (-5)))
      have S8 := Lib.hid (B.out.setCell (p := ⟨ga, k, none⟩) (by have h1 := HW1.out; show W.heap.size ≤ ga; omega) (.int .i64 (-5)))
      clear A I U X C D Z B hform hKK
      go_wp2_with fail
      go_roundg (R.length - (k + 1))
      case measure => rw [HR.out]; omega
      case rel => exact ⟨k + 1, xs.set k (-5), by omega, rfl, by first | rfl | simp, by rw [List.length_set]; exact hxs, Lib.hid ⟨S1.out, S2.out, S3.out, S4.out, S5.out, S6.out, S7.out, S8.out⟩⟩
    · obtain rfl : k = R.length := by omega
      clear A HR LA
      obtain ⟨cu, cc, rfl⟩ := own_slice C.out
      go_wp2_with fail
      go_loopg [21] Q.length (fun r vk wr => ∃ (k : Nat) (xs : List Int), k ≤ Q.length ∧ r = Q.length - k ∧ vk = .int .i64 k ∧ xs.length = Q.length ∧ Hid (wr.ownsRow w4.heap.size 3 1 (.slice cu Q.length cc) Q.length (rc xs) ∧ wr.ownsRow W.heap.size 2 1 vi zs.length (rc zs) ∧ wr.ownsRow w2.heap.size 2 1 ub R.length (rc R) ∧ wr.ownsRow w3.heap.size 2 1 uw R.length (rc R) ∧ wr.ownsRow w5.heap.size 3 1 ud Q.length (rc Q) ∧ wr.ownsRow w6.heap.size 3 1 ut Q.length (rc Q) ∧ Below W.heap.size W wr))
      case atStart => exact ⟨0, Q, by omega, by omega, rfl, rfl, Lib.hid ⟨C.out, I.out, U.out, X.out, D.out, Z.out, B.out⟩⟩
      case round =>
        clear C I U X D Z B
        obtain ⟨k, xs, hk, hr, rfl, hxs, hq⟩ := hrel
        have HR := Lib.hid hr
        obtain ⟨q1, q2, q3, q4, q6, q7, q8⟩ := hq.out
        have C := Lib.hid q1
        have I := Lib.hid q2
        have U := Lib.hid q3
        have X := Lib.hid q4
        have D := Lib.hid q6
        have Z := Lib.hid q7
        have B := Lib.hid q8
        clear hr hq q1 q2 q3 q4 q6 q7 q8
        by_cases hlt : k < Q.length
        · obtain ⟨ga, ac', hform, _, _⟩ := C.out.form (by omega)
          obtain ⟨rfl, rfl⟩ : cu = some ⟨ga, 0, none⟩ ∧ cc = ac' := by
            simp only [Value.slice.injEq] at hform
            exact ⟨hform.1, hform.2.2⟩
          have hga := LC.out ga rfl
          have hKK := K7.out
          have hUh : ub.ownBlock ≠ some ga := by
            rcases own_ne U.out C.out (by decide) with h | h
            · rw [h]; simp
            · exact h
          have hXh : uw.ownBlock ≠ some ga := by
            rcases own_ne X.out C.out (by decide) with h | h
            · rw [h]; simp
            · exact h
          have hIh : vi.ownBlock ≠ some ga := by
            rcases own_ne I.out C.out (by decide) with h | h
            · rw [h]; simp
            · exact h
          have c1 : wr.cell? ⟨ga, k, none⟩ = some (.int .i64 (nth xs k)) := rc_at C.out hxs k hlt
          have f1 : wr.frozen? ⟨ga, k, none⟩ = false := C.out.frozenAt k
          have S1 : Hid ((wr.setCell ⟨ga, k, none⟩ (.int .i64 (-5))).ownsRow w4.heap.size 3 1 (.slice (some ⟨ga, 0, none⟩) Q.length cc) Q.length (rc (xs.set k (-5)))) := Lib.hid (by
            have := (C.out.stored k (.int .i64 (-5))).1
            rwa [rc_set] at this)
          have S2 := Lib.hid (ownsRow_setCell_other I.out (a := ⟨ga, k, none⟩) hIh (.int .i64 (-5)))
          have S3 := Lib.hid (ownsRow_setCell_other U.out (a := ⟨ga, k, none⟩) hUh (.int .i64 (-5)))
          have S4 := Lib.hid (ownsRow_setCell_other X.out (a := ⟨ga, k, none⟩) hXh (.int .i64 (-5)))
          have S6 := Lib.hid (ownsRow_setCell_other D.out (a := ⟨ga, k, none⟩) (LD.out.ne (.inl (by show ga < w5.heap.size; omega))) (.int .i64 (-5)))
          have S7 := Lib.hid (ownsRow_setCell_other Z.out (a := ⟨ga, k, none⟩) (LT.out.ne (.inl (by show ga < w6.heap.size; omega))) (.int .i64 (-5)))
          have S8 := Lib.hid (B.out.setCell (p := ⟨ga, k, none⟩) (by have h1 := HW1.out; show W.heap.size ≤ ga; omega) (.int .i64 (-5)))
          clear C I U X D Z B hform hKK hUh hXh hIh
          go_wp2_with fail
          go_roundg (Q.length - (k + 1))
          case measure => rw [HR.out]; omega
          case rel => exact ⟨k + 1, xs.set k (-5), by omega, rfl, by first | rfl | simp, by rw [List.length_set]; exact hxs, Lib.hid ⟨S1.out, S2.out, S3.out, S4.out, S6.out, S7.out, S8.out⟩⟩
        · obtain rfl : k = Q.length := by omega
          clear C HR
          go_wp2_with fail
          refine (same64_eq ub uw R wr (ints_of_own U.out rfl hmr) (ints_of_own X.out rfl hmr)).mono ?_
          rintro e w' ⟨rfl, n4, rfl⟩
          go_wp2_with fail
          refine (sameI_eq ud ut Q _ (ints_of_own (own_drew D.out n4) rfl hmt) (ints_of_own (own_drew Z.out n4) rfl hmt)).mono ?_
          rintro e w' ⟨rfl, n5, rfl⟩
          have I9 := Lib.hid (own_drew I.out (n4 + n5))
          have B9 := Lib.hid (below_drewN B.out (n4 + n5))
          clear I U X D Z B LU LW LC LD LT K7
          obtain ⟨ai, ci, rfl⟩ := own_slice I9.out
          have HTL := Lib.hid (halves_len zs)
          have HTA := Lib.hid (halves_at zs)
          obtain ⟨G, hG⟩ : ∃ G, G = halves zs := ⟨_, rfl⟩
          rw [← hG] at HTL HTA
          clear hG
          go_wp2_with fail
          generalize wr.drewN (n4 + n5) = w9 at *
          go_loopg [22] zs.length (fun r vk wr => ∃ (k : Nat), k ≤ zs.length ∧ r = zs.length - k ∧ vk = .int .i64 k ∧ Hid (wr.ownsRow W.heap.size 2 1 (.slice ai zs.length ci) zs.length (rc (mix zs G k)) ∧ Below W.heap.size W wr))
          case atStart => exact ⟨0, by omega, by omega, rfl, Lib.hid ⟨by rw [mix_zero]; exact I9.out, B9.out⟩⟩
          case round =>
            clear I9 B9
            obtain ⟨k, hk, hr, rfl, hq⟩ := hrel
            have HR := Lib.hid hr
            have I := Lib.hid hq.out.1
            have B := Lib.hid hq.out.2
            clear hr hq
            by_cases hlt : k < zs.length
            · obtain ⟨gi, ci', hform, hgi, _⟩ := I.out.form (by omega)
              obtain ⟨rfl, rfl⟩ : ai = some ⟨gi, 0, none⟩ ∧ ci = ci' := by
                simp only [Value.slice.injEq] at hform
                exact ⟨hform.1, hform.2.2⟩
              have c1 : wr.cell? ⟨gi, k, none⟩ = some (.int .i64 (nth zs k)) := by
                have := rc_at I.out (by rw [mix_len _ _ HTL.out k hk]) k hlt
                rwa [mix_at _ _ HTL.out k k hk, if_neg (by omega)] at this
              have f1 : wr.frozen? ⟨gi, k, none⟩ = false := I.out.frozenAt k
              obtain ⟨t, ht⟩ : ∃ t, t = nth G k := ⟨_, rfl⟩
              have S1 : Hid ((wr.setCell ⟨gi, k, none⟩ (.int .i64 t)).ownsRow W.heap.size 2 1 (.slice (some ⟨gi, 0, none⟩) zs.length ci) zs.length (rc (mix zs G (k + 1)))) := Lib.hid (by
                have := (I.out.stored k (.int .i64 t)).1
                rw [rc_set, ht, mix_set _ _ HTL.out k hlt] at this
                rw [ht]; exact this)
              have S5 := Lib.hid (B.out.setCell (p := ⟨gi, k, none⟩) hgi (.int .i64 t))
              rw [HTA.out k hlt] at ht
              have zb := HWF.out k hlt
              generalize nth zs k = z at *
              unfold halved at ht
              obtain ⟨hz, hhz⟩ : ∃ hz, z.tdiv 2 = hz := ⟨_, rfl⟩
              have hzb : -4611686018427387904 ≤ hz ∧ hz ≤ 4611686018427387904 := by
                rw [← hhz]
                rcases Int.le_total 0 z with c | c
                · rw [Int.tdiv_eq_ediv_of_nonneg c]; omega
                · have e : z.tdiv 2 = -((-z).tdiv 2) := by rw [Int.neg_tdiv]; simp
                  rw [e, Int.tdiv_eq_ediv_of_nonneg (by omega)]; omega
              rw [hhz] at ht
              obtain ⟨m3, hm3⟩ : ∃ m3, k % 3 = m3 := ⟨_, rfl⟩
              have hm3b : m3 < 3 := by omega
              rw [hm3] at ht
              have e3 : (k : Int) % 3 = (m3 : Int) := by omega
              have ht2 : hz + (m3 : Int) = t := ht.symm
              clear ht hm3 I B hform
              go_wp2_with fail
              go_roundg (zs.length - (k + 1))
              case measure => rw [HR.out]; omega
              case rel => exact ⟨k + 1, by omega, rfl, by first | rfl | simp, Lib.hid ⟨S1.out, S5.out⟩⟩
            · obtain rfl : k = zs.length := by omega
              have I' : Hid (wr.ownsRow W.heap.size 2 1 (.slice ai zs.length ci) G.length (rc G)) := Lib.hid (by
                have := I.out
                rw [mix_all _ _ HTL.out] at this
                rwa [HTL.out])
              have hTm : G.length ≤ maxLen := by rw [HTL.out]; exact hmx
              have hTl : G.length ≤ 17592186044416 := by rw [HTL.out]; exact hlen
              obtain ⟨wq, hwq⟩ : ∃ wq, wq = wr := ⟨_, rfl⟩
              subst hwq
              have o0 : Hid ((wq.alloc (.cells #[] 2)).ownsRow wq.heap.size 2 1 (.slice (some ⟨wq.heap.size, 0, none⟩) 0 0) 0 (rc [])) := Lib.hid (World.ownsRow_lit (w := wq) #[] 0 (Nat.le_refl _) (by simp) rfl)
              have IV := Lib.hid (Cp.Ints.below (ints_of_own I'.out rfl hTm) ((Below.refl wq.heap.size wq).alloc (Nat.le_refl _) (.cells #[] 2)))
              have hsa : wq.heap.size ≤ (wq.alloc (.cells #[] 2)).heap.size := ((Below.refl wq.heap.size wq).alloc (Nat.le_refl _) _).size
              clear I HTA HWF
              go_wp2_with (refine wpList_copy (by rfl) (.tmp 139) (.tmp 140) 22 (by rfl) wq.heap.size 2 iw Try.underlying22 hi hz0 hz1 hz2 (.slice (some ⟨wq.heap.size, 0, none⟩) 0 0) (by rfl) o0.out (.slice ai zs.length ci) G (by rfl) IV.out hTl hsa ?_)
              intro vc x7 hown hgrow
              have C7 := Lib.hid hown
              have hb7 : Below wq.heap.size wq x7 := ((Below.refl wq.heap.size wq).alloc (Nat.le_refl _) (.cells #[] 2)).grown hgrow hsa (fun k hk => by simp [Value.ownBlock] at hk; omega)
              have B7 := Lib.hid (B.out.trans (hb7.mono B.out.size))
              have I7 := Lib.hid (own_below I'.out hb7)
              clear hown hgrow o0 IV I' B hb7 hsa
              go_wp2_with fail
              refine (rshares_any vc G T x7 (ints_of_own C7.out rfl hTm)).mono ?_
              rintro e x8 ⟨ux, rfl, hux, hb⟩
              have X8 := Lib.hid hux
              have B8 := Lib.hid (B7.out.trans (hb.mono B7.out.size))
              have I8 := Lib.hid (own_below I7.out hb)
              have C8 := Lib.hid (own_below C7.out hb)
              clear hux hb C7 B7 I7
              go_wp2_with fail
              refine (rturns_any vc G n x8 (ints_of_own C8.out rfl hTm)).mono ?_
              rintro e x9 ⟨uy, rfl, huy, hb⟩
              have Y9 := Lib.hid huy
              have X9 := Lib.hid (own_below X8.out hb)
              have B9 := Lib.hid (B8.out.trans (hb.mono B8.out.size))
              have I9 := Lib.hid (own_below I8.out hb)
              clear huy hb C8 B8 I8 X8
              go_wp2_with fail
              refine (shares_any (.slice ai zs.length ci) G T x9 (ints_of_own I9.out rfl hTm) hTl).mono ?_
              rintro e x10 ⟨up, rfl, hup, hb⟩
              have P1 := Lib.hid hup
              have Y1 := Lib.hid (own_below Y9.out hb)
              have X1 := Lib.hid (own_below X9.out hb)
              have B1 := Lib.hid (B9.out.trans (hb.mono B9.out.size))
              have I1 := Lib.hid (own_below I9.out hb)
              clear hup hb Y9 B9 I9 X9
              go_wp2_with fail
              refine (turnsT_any (.slice ai zs.length ci) G n x10 (ints_of_own I1.out rfl hTm) hTl).mono ?_
              rintro e x11 ⟨uq, rfl, huq, hb⟩
              have O2 := Lib.hid huq
              have P2 := Lib.hid (own_below P1.out hb)
              have Y2 := Lib.hid (own_below Y1.out hb)
              have X2 := Lib.hid (own_below X1.out hb)
              have B2 := Lib.hid (B1.out.trans (hb.mono B1.out.size))
              clear huq hb Y1 B1 I1 X1 P1
              have hmr' : (Sh.resS T G).length ≤ maxLen := resS_len T G hTl
              have hmt' : (resT G n).length ≤ maxLen := resT_len G n
              obtain ⟨E2, hE2⟩ : ∃ E, Sh.errS T G = E := ⟨_, rfl⟩
              obtain ⟨F2, hF2⟩ : ∃ E, errT G n = E := ⟨_, rfl⟩
              rw [hE2, hF2]
              clear hE2 hF2
              obtain ⟨R2, hR2⟩ : ∃ R, Sh.resS T G = R := ⟨_, rfl⟩
              rw [hR2] at hmr' X2 P2
              obtain ⟨Q2, hQ2⟩ : ∃ R, resT G n = R := ⟨_, rfl⟩
              rw [hQ2] at hmt' Y2 O2
              clear hR2 hQ2
              go_wp2_with fail
              refine (same64_eq up ux R2 x11 (ints_of_own P2.out rfl hmr') (ints_of_own X2.out rfl hmr')).mono ?_
              rintro e w' ⟨rfl, n6, rfl⟩
              go_wp2_with fail
              refine (sameI_eq uq uy Q2 _ (ints_of_own (own_drew O2.out n6) rfl hmt') (ints_of_own (own_drew Y2.out n6) rfl hmt')).mono ?_
              rintro e w' ⟨rfl, n7, rfl⟩
              go_wp2_with fail
              go_ret
              exact ⟨rfl, below_drewN B2.out _⟩
end Go.Proofs.Ytdhlmflbefnekaa
