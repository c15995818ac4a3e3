/- The walk of BusParts. -/
import Derived.Test.YtdhlmflbefnekaaDoorFitC
import Derived.Test.YtdhlmflbefnekaaDoorCopyC
import Derived.Test.YtdhlmflbefnekaaDoorWorksC
import Derived.OpenShut
import Derived.Laws.BitsLemmas
namespace Go.Proofs.YtdhlmflbefnekaaDoor
open Go.RowKit Go.ChangeShapes Go.WideShapes
open Cp (wpList_copy ints_of_own own_drew)
theorem Vars.mk {W : World} (h0 : Lib.TabIs Tryd.prog W "reveille/bus.table" .i64 busL) : ∀ x ∈ wkRun.tabs, Ev.HoldsAt W x.1 x.2 ∧ x.1 < Tryd.prog.globals.size := wkRun.stood_tabs h0
theorem i64_and61 (n : Int) : bits .and .i64 n 2305843009213693951 = n % 2305843009213693952 := by
  have h127 : (BitVec.ofInt 64 2305843009213693951).toNat = 2 ^ 61 - 1 := by decide
  have key : (BitVec.ofInt 64 n &&& BitVec.ofInt 64 2305843009213693951).toNat = (n % ((2 ^ 64 : Nat) : Int)).toNat % 2 ^ 61 := by
    rw [BitVec.toNat_and, BitVec.toNat_ofInt, h127, Nat.and_two_pow_sub_one_eq_mod]
  show IntKind.i64.wrap ((BitVec.ofInt 64 n &&& BitVec.ofInt 64 2305843009213693951).toNat : Nat) = n % 2305843009213693952
  rw [key, IntKind.wrap_i64]
  omega
theorem sumTo_bd (L : List Int) (b : Nat) (h : ∀ i, i < L.length → 0 ≤ nth L i ∧ nth L i ≤ b) : ∀ k, k ≤ L.length → 0 ≤ sumTo L k ∧ sumTo L k ≤ ((k * b : Nat) : Int)
  | 0, _ => by simp [sumTo]
  | k + 1, hk => by
    have := sumTo_bd L b h k (by omega)
    have h1 := h k (by omega)
    rw [sumTo_succ L k (by omega), Nat.add_mul, Nat.one_mul]
    omega
theorem sumTo_le_all (L : List Int) (h : ∀ i, i < L.length → 0 ≤ nth L i) : ∀ m k, k + m = L.length → sumTo L k ≤ L.sum
  | 0, k, hk => by
    have : k = L.length := by omega
    rw [this, sumTo_all]
    exact Int.le_refl _
  | m + 1, k, hk => by
    have h1 := sumTo_le_all L h m (k + 1) (by omega)
    rw [sumTo_succ L k (by omega)] at h1
    have := h k (by omega)
    omega
set_option maxHeartbeats 8000000 in
set_option maxRecDepth 100000 in
theorem busParts_walk {H : Type} {enc : TypeId × Value → H} (T : Int) (v : Value) (d : DataW H) (ps : List MemPlace) (W : World) (_ : (Lit.int .i64 T).wf = true)
    (h : DataW.Trod enc Tryd.prog W 0 (fun _ => true) true 24 v d ps) {base : Nat} (hok : Value.okWide Tryd.prog W .any base 24 v) (hw : ∀ n ∈ DataW.weights Tryd.prog 24 d, n ≤ reachBytes) (hsh : W.ShapedOpen Tryd.prog) (hT : ∀ x ∈ wkRun.tabs, Ev.HoldsAt W x.1 x.2 ∧ x.1 < Tryd.prog.globals.size) :
    Calls Tryd.prog 6 #[.int .i64 T, v] W fun e w' => e = .returned (.bool true) ∧ Below W.heap.size W w' := by
  obtain ⟨zs, hv, hsz, _⟩ := ints_arg (bytes := 8) Tryd.underlying24 Tryd.underlying2 (by kernel_rfl) (by kernel_rfl) hok h hw
  have HW := Lib.hid (wkRun.works_any ⟨hsh, hT⟩ W (Below.refl _ _))
  have hlen : zs.length ≤ 17592186044416 := by unfold reachBytes at hsz; omega
  have HV := Lib.hid hv
  obtain ⟨t, ht⟩ : ∃ t : Nat, T % 2305843009213693952 = t := ⟨(T % 2305843009213693952).toNat, by omega⟩
  have htb : t < 2305843009213693952 := by omega
  have eT : bits .and .i64 T 2305843009213693951 = (t : Int) := by rw [i64_and61, ht]
  obtain ⟨f1, f2, f3, f4, f5⟩ := Sh.fitV_ok zs
  have hFB := Sh.fitV_bd zs
  obtain ⟨L, hL⟩ : ∃ L, L = Sh.fitV zs := ⟨_, rfl⟩
  have HF := Lib.hid (fun w hv => hL ▸ fit_any v zs w hv hlen)
  rw [← hL] at f1 f2 f3 f4 f5 hFB
  obtain ⟨A, hA⟩ : ∃ A : Nat, A = L.sum.toNat := ⟨_, rfl⟩
  have hA1 : 0 < A := by omega
  have hA2 : A ≤ 70368744177664 := by omega
  have HA : Hid (L.sum = (A : Int)) := Lib.hid (by omega)
  have HAN := Lib.hid hA
  have HFB := Lib.hid hFB
  have HOK := Lib.hid f5
  have hLm : L.length ≤ maxLen := by unfold maxLen; omega
  have hLl : L.length ≤ 17592186044416 := by omega
  obtain ⟨iw, hi, hz0, hz1, hz2⟩ := info_parts infoI64
  clear hv h hok hw hsz hsh hT ht f3 f4 f5 hFB hA hL
  go_enter Tryd.func6, Tryd.ntmps6
  go_wp2_with fail
  refine HW.out.mono ?_
  rintro e w1 ⟨rfl, hb⟩
  have B1 := Lib.hid hb
  clear hb HW
  go_wp2_with fail
  refine (HF.out w1 (Cp.Ints.below HV.out B1.out)).mono ?_
  rintro e w2 ⟨ul, rfl, hul, hb⟩
  have L2 := Lib.hid hul
  have B2 := Lib.hid (B1.out.trans (hb.mono B1.out.size))
  have hs2 : W.heap.size ≤ w2.heap.size := B2.out.size
  obtain ⟨gl, cl, e2, hl1, hl2⟩ := hul.form f2
  subst e2
  clear hul hb B1 HF
  go_wp2_with fail
  have CL := Lib.hid (fun i hi => rc_at L2.out rfl i hi)
  go_loopg [6, 7] L.length (fun r va vi wr => ∃ k : Nat, k ≤ L.length ∧ r = L.length - k ∧ vi = .int .i64 k ∧ va = .int .i64 (sumTo L k) ∧ wr = w2)
  case atStart => exact ⟨0, by omega, by omega, rfl, by simp [sumTo], rfl⟩
  case round =>
    obtain ⟨k, hk, hr, rfl, rfl, rfl⟩ := hrel
    have HR := Lib.hid hr
    clear hr
    by_cases hlt : k < L.length
    · have c1 := CL.out k hlt
      have hb1 := HFB.out k hlt
      have hs := sumTo_bd L 1099511627776 (fun i hi => by have := HFB.out i hi; omega) k hk
      have hS := Lib.hid (sumTo_succ L k hlt)
      obtain ⟨S, hSS⟩ : ∃ S, sumTo L k = S := ⟨_, rfl⟩
      rw [hSS] at hs hS ⊢
      clear hSS
      generalize nth L k = z at *
      have hk64 : k * 1099511627776 ≤ 64 * 1099511627776 := Nat.mul_le_mul_right _ (by omega)
      go_wp2_with fail
      go_roundg (L.length - (k + 1))
      case measure => rw [HR.out]; omega
      case rel => exact ⟨k + 1, by omega, rfl, by first | rfl | simp, by rw [hS.out], rfl⟩
    · obtain rfl : k = L.length := by omega
      rw [sumTo_all, HA.out]
      clear HR CL
      have o0 : Hid ((wr.alloc (.cells #[] 2)).ownsRow wr.heap.size 2 1 (.slice (some ⟨wr.heap.size, 0, none⟩) 0 0) 0 (rc [])) := Lib.hid (World.ownsRow_lit (w := wr) #[] 0 (Nat.le_refl _) (by simp) rfl)
      have HV1 := Lib.hid (Cp.Ints.below (ints_of_own L2.out rfl hLm) ((Below.refl wr.heap.size wr).alloc (Nat.le_refl _) (.cells #[] 2)))
      have hsa : wr.heap.size ≤ (wr.alloc (.cells #[] 2)).heap.size := ((Below.refl wr.heap.size wr).alloc (Nat.le_refl _) _).size
      go_wp2_with (refine wpList_copy (by rfl) (.tmp 36) (.tmp 37) 24 (by rfl) wr.heap.size 2 iw Tryd.underlying24 hi hz0 hz1 hz2 (.slice (some ⟨wr.heap.size, 0, none⟩) 0 0) (by rfl) o0.out (.slice (some ⟨gl, 0, none⟩) L.length cl) L (by rfl) HV1.out hLl hsa ?_)
      intro vi w3 hown hgrow
      have I3 := Lib.hid hown
      have hb3 : Below wr.heap.size wr w3 := ((Below.refl wr.heap.size wr).alloc (Nat.le_refl _) (.cells #[] 2)).grown hgrow hsa (fun k hk => by simp [Value.ownBlock] at hk; omega)
      have B3 := Lib.hid (B2.out.trans (hb3.mono B2.out.size))
      have L3 := Lib.hid (own_below L2.out hb3)
      clear hown hgrow hb3 o0 HV1 hsa L2 B2
      have hS := shares_any vi L (t : Int) w3 (ints_of_own I3.out rfl hLm) hLl
      have hokS : Sh.okS (t : Int) L = true := by
        unfold Sh.okS
        simp only [Bool.and_eq_true, decide_eq_true_eq]
        exact ⟨⟨⟨by omega, by omega⟩, by omega⟩, HOK.out⟩
      have e1 : Sh.resS (t : Int) L = Sh.shs (Sh.qN t L) (Sh.rN t L) L.length (Sh.lackN t L) := by
        unfold Sh.resS
        rw [if_pos hokS]
        simp
      have e2 : Sh.errS (t : Int) L = 0 := by unfold Sh.errS; rw [if_pos hokS]
      rw [e1, e2, Sh.shs_len] at hS
      have PA := Lib.hid (fun i hi => Sh.parts_at t L HOK.out i hi)
      have PS := Lib.hid (Sh.parts_all t L HOK.out)
      have PL : Hid ((Sh.shs (Sh.qN t L) (Sh.rN t L) L.length (Sh.lackN t L)).length = L.length) := Lib.hid (Sh.shs_len _ _ _ _)
      obtain ⟨R, hR⟩ : ∃ R, Sh.shs (Sh.qN t L) (Sh.rN t L) L.length (Sh.lackN t L) = R := ⟨_, rfl⟩
      rw [hR] at hS PA PS PL
      have HS := Lib.hid hS
      clear hS e1 e2 hR hokS
      go_wp2_with fail
      refine HS.out.mono ?_
      rintro e w4 ⟨ua, rfl, hua, hb⟩
      have A4 := Lib.hid hua
      have B4 := Lib.hid (B3.out.trans (hb.mono B3.out.size))
      have L4 := Lib.hid (own_below L3.out hb)
      obtain ⟨ga, ca, e3, hg1, hg2⟩ := hua.form f2
      subst e3
      clear hua hb HS I3 B3 L3
      obtain ⟨wk, hwk⟩ : ∃ wk, wk = w4 := ⟨_, rfl⟩
      subst hwk
      have CA : Hid (∀ i, i < L.length → wk.cell? ⟨ga, i, none⟩ = some (.int .i64 (nth R i))) := Lib.hid (fun i hi => rc_at A4.out PL.out i hi)
      have CL : Hid (∀ i, i < L.length → wk.cell? ⟨gl, i, none⟩ = some (.int .i64 (nth L i))) := Lib.hid (fun i hi => rc_at L4.out rfl i hi)
      obtain ⟨D, hD⟩ : ∃ D, t / A = D := ⟨_, rfl⟩
      have x1 : (t : Int).tdiv (A : Int) = (D : Int) := by rw [← hD]; exact Int.ofNat_tdiv t A
      have x2 : (t : Int) / (A : Int) = (D : Int) := by rw [← hD]; rfl
      have x3 : ((A : Int) == 0) = false := beq_eq_false_iff_ne.2 (by omega)
      have x4 : IntKind.i64.wrap (D : Int) = (D : Int) := by
        have := Nat.div_le_self t A
        rw [IntKind.wrap_i64]; omega
      have HD := Lib.hid hD
      clear hD
      go_wp2_with fail
      go_loopg [10, 11] L.length (fun r vs vi wr => ∃ (i dd : Nat), i ≤ L.length ∧ r = L.length - i ∧ vi = .int .i64 i ∧ vs = .int .i64 (sumTo R i) ∧ wr = wk.drewN dd)
      case atStart => exact ⟨0, 0, by omega, by omega, rfl, by simp [sumTo], rfl⟩
      case round =>
        obtain ⟨i, dd, hi', hr, rfl, rfl, rfl⟩ := hrel
        have HR2 := Lib.hid hr
        clear hr
        by_cases hlt2 : i < L.length
        · have c1 := CA.out i hlt2
          have c2 := CL.out i hlt2
          obtain ⟨p1, p2, p3, p4, p5⟩ := PA.out i hlt2
          have hw1 := HFB.out i hlt2
          have hW : Hid (nth L i = (Sh.wN L i : Nat)) := Lib.hid (by unfold Sh.wN; omega)
          have hSm := Lib.hid (sumTo_succ R i (by rw [PL.out]; exact hlt2))
          have hSb := sumTo_bd R (t + 1) (fun j hj => by
            have := PA.out j (by rw [← PL.out]; exact hj)
            obtain ⟨_, _, _, q4, q5⟩ := this
            exact ⟨q4, by omega⟩) i (by rw [PL.out]; omega)
          have hib : i * (t + 1) ≤ 64 * 2305843009213693952 := Nat.mul_le_mul (by omega) (by omega)
          have hSc := sumTo_le_all R (fun j hj => by
            obtain ⟨_, _, _, q4, q5⟩ := PA.out j (by rw [← PL.out]; exact hj)
            exact q4) (L.length - i) i (by rw [PL.out]; omega)
          rw [PS.out] at hSc
          have hSd := sumTo_le_all R (fun j hj => by
            obtain ⟨_, _, _, q4, q5⟩ := PA.out j (by rw [← PL.out]; exact hj)
            exact q4) (L.length - (i + 1)) (i + 1) (by rw [PL.out]; omega)
          rw [PS.out, hSm.out] at hSd
          obtain ⟨wi, hwi⟩ : ∃ wi, Sh.wN L i = wi := ⟨_, rfl⟩
          rw [hwi] at p1 p2 p3 hW
          rw [← HAN.out, HD.out] at p1 p3
          rw [hW.out] at c2 hw1
          obtain ⟨S, hSS⟩ : ∃ S, sumTo R i = S := ⟨_, rfl⟩
          rw [hSS] at hSb hSc hSd hSm ⊢
          obtain ⟨s, hss⟩ : ∃ s, nth R i = s := ⟨_, rfl⟩
          rw [hss] at c1 p1 p2 p3 p4 p5 hSm hSd
          obtain ⟨P, hP⟩ : ∃ P, D * wi = P := ⟨_, rfl⟩
          rw [hP] at p1 p3
          have y1 : IntKind.i64.wrap ((D : Int) * (wi : Int)) = (P : Int) := by
            rw [← Int.natCast_mul, hP, IntKind.wrap_i64]; omega
          have y2 : (D : Int) * (wi : Int) = (P : Int) := by rw [← Int.natCast_mul, hP]
          have y3 : decide (s < (P : Int)) = false := decide_eq_false (by omega)
          have y4 : IntKind.i64.wrap (s - (P : Int)) = s - (P : Int) := by rw [IntKind.wrap_i64]; omega
          have y5 : IntKind.i64.wrap ((wi : Int) + 1) = (wi : Int) + 1 := by rw [IntKind.wrap_i64]; omega
          have y6 : decide (s - (P : Int) > (wi : Int) + 1) = false := decide_eq_false (by omega)
          have ww6 : IntKind.i64.wrap (i : Int) = (i : Int) := by rw [IntKind.wrap_i64]; omega
          have y8 : ¬ s < (P : Int) := by omega
          have y9 : ¬ s - (P : Int) > (wi : Int) + 1 := by omega
          have hS0 := hSb.1
          clear hSS hss hP hwi hSb hib
          by_cases h0 : wi = 0
          · have z1 : ((wi : Int) == 0) = true := by simp [h0]
            have z2 : (s != 0) = false := by rw [p2 h0]; rfl
            go_wp2_with fail
            go_quiet (fail)
            go_wp2_with fail
            go_quiet (fail)
            go_wp2_with fail
            go_roundg (L.length - (i + 1))
            case measure => rw [HR2.out]; omega
            case rel => exact ⟨i + 1, _, by omega, rfl, by first | rfl | simp, by rw [hSm.out]; first | rfl | simp [p2 h0], by first | rfl | simp only [World.drewN_drewN]⟩
          · have z1 : ((wi : Int) == 0) = false := beq_eq_false_iff_ne.2 (by omega)
            go_wp2_with fail
            go_quiet (fail)
            go_wp2_with fail
            go_quiet (fail)
            go_wp2_with fail
            go_roundg (L.length - (i + 1))
            case measure => rw [HR2.out]; omega
            case rel => exact ⟨i + 1, _, by omega, rfl, by first | rfl | simp, by rw [hSm.out], by first | rfl | simp only [World.drewN_drewN]⟩
        · obtain rfl : i = L.length := by omega
          rw [← PL.out, sumTo_all, PS.out, PL.out]
          have M4 := Lib.hid (own_drew L4.out dd)
          have MB := Lib.hid (below_drewN B4.out dd)
          clear CA CL PA PL PS A4 L4 B4 x1 x2 x4 HD HR2
          generalize wk.drewN dd = wq at *
          obtain ⟨kk, hkk⟩ : ∃ kk, t % 1000 = kk := ⟨_, rfl⟩
          have hkk2 : kk ≤ 999 := by omega
          have e1 : (t : Int) % 1000 = (kk : Int) := by omega
          have e1' : (t : Int).tmod 1000 = (kk : Int) := by rw [Int.tmod_eq_emod_of_nonneg (by omega)]; omega
          obtain ⟨KA, hKA⟩ : ∃ KA, kk * A = KA := ⟨_, rfl⟩
          have hKA2 : KA ≤ 70298375433486336 := by rw [← hKA]; exact Nat.mul_le_mul hkk2 hA2
          have e2 : (kk : Int) * (A : Int) = (KA : Int) := by rw [← Int.natCast_mul, hKA]
          have o0 : Hid ((wq.alloc (.cells #[] 2)).ownsRow wq.heap.size 2 1 (.slice (some ⟨wq.heap.size, 0, none⟩) 0 0) 0 (rc [])) := Lib.hid (World.ownsRow_lit (w := wq) #[] 0 (Nat.le_refl _) (by simp) rfl)
          have HV1 := Lib.hid (Cp.Ints.below (ints_of_own M4.out rfl hLm) ((Below.refl wq.heap.size wq).alloc (Nat.le_refl _) (.cells #[] 2)))
          have hsa : wq.heap.size ≤ (wq.alloc (.cells #[] 2)).heap.size := ((Below.refl wq.heap.size wq).alloc (Nat.le_refl _) _).size
          have HKA := Lib.hid hKA
          clear hKA
          go_wp2_with (refine wpList_copy (by rfl) (.tmp 111) (.tmp 112) 24 (by rfl) wq.heap.size 2 iw Tryd.underlying24 hi hz0 hz1 hz2 (.slice (some ⟨wq.heap.size, 0, none⟩) 0 0) (by rfl) o0.out (.slice (some ⟨gl, 0, none⟩) L.length cl) L (by rfl) HV1.out hLl hsa ?_)
          intro vi2 w5 hown hgrow
          have I3 := Lib.hid hown
          have hb3 : Below wq.heap.size wq w5 := ((Below.refl wq.heap.size wq).alloc (Nat.le_refl _) (.cells #[] 2)).grown hgrow hsa (fun k hk => by simp [Value.ownBlock] at hk; omega)
          have B3 := Lib.hid (MB.out.trans (hb3.mono MB.out.size))
          have L3 := Lib.hid (own_below M4.out hb3)
          clear hown hgrow hb3 o0 HV1 hsa M4 MB
          have hS := shares_any vi2 L (KA : Int) w5 (ints_of_own I3.out rfl hLm) hLl
          have hokS : Sh.okS (KA : Int) L = true := by
            unfold Sh.okS
            simp only [Bool.and_eq_true, decide_eq_true_eq]
            exact ⟨⟨⟨by omega, by omega⟩, by omega⟩, HOK.out⟩
          have r1 : Sh.resS (KA : Int) L = Sh.shs (Sh.qN KA L) (Sh.rN KA L) L.length (Sh.lackN KA L) := by
            unfold Sh.resS
            rw [if_pos hokS]
            simp
          have r2 : Sh.errS (KA : Int) L = 0 := by unfold Sh.errS; rw [if_pos hokS]
          rw [r1, r2, Sh.shs_len] at hS
          have PE : Hid (∀ i, i < L.length → nth (Sh.shs (Sh.qN KA L) (Sh.rN KA L) L.length (Sh.lackN KA L)) i = ((kk * Sh.wN L i : Nat) : Int)) := Lib.hid (fun i hi => by
            have := Sh.parts_even kk L HOK.out i hi
            rw [← HAN.out, HKA.out] at this
            exact this)
          have PL : Hid ((Sh.shs (Sh.qN KA L) (Sh.rN KA L) L.length (Sh.lackN KA L)).length = L.length) := Lib.hid (Sh.shs_len _ _ _ _)
          obtain ⟨R2, hR2⟩ : ∃ R, Sh.shs (Sh.qN KA L) (Sh.rN KA L) L.length (Sh.lackN KA L) = R := ⟨_, rfl⟩
          rw [hR2] at hS PE PL
          have HS := Lib.hid hS
          clear hS r1 r2 hR2 hokS HKA
          go_wp2_with fail
          refine HS.out.mono ?_
          rintro e w6 ⟨um, rfl, hum, hb⟩
          have A6 := Lib.hid hum
          have B6 := Lib.hid (B3.out.trans (hb.mono B3.out.size))
          have L6 := Lib.hid (own_below L3.out hb)
          obtain ⟨gm, cm, e3, hm1, hm2⟩ := hum.form f2
          subst e3
          clear hum hb HS I3 B3 L3
          obtain ⟨wj, hwj⟩ : ∃ wk, wk = w6 := ⟨_, rfl⟩
          subst hwj
          have CM : Hid (∀ i, i < L.length → wj.cell? ⟨gm, i, none⟩ = some (.int .i64 (nth R2 i))) := Lib.hid (fun i hi => rc_at A6.out PL.out i hi)
          have CL : Hid (∀ i, i < L.length → wj.cell? ⟨gl, i, none⟩ = some (.int .i64 (nth L i))) := Lib.hid (fun i hi => rc_at L6.out rfl i hi)
          go_wp2_with fail
          go_loopg [15] L.length (fun r vi wr => ∃ (i dd : Nat), i ≤ L.length ∧ r = L.length - i ∧ vi = .int .i64 i ∧ wr = wj.drewN dd)
          case atStart => exact ⟨0, 0, by omega, by omega, rfl, rfl⟩
          case round =>
            obtain ⟨i, dd, hi', hr, rfl, rfl⟩ := hrel
            have HR2 := Lib.hid hr
            clear hr
            by_cases hlt2 : i < L.length
            · have c1 := CM.out i hlt2
              have c2 := CL.out i hlt2
              have hw1 := HFB.out i hlt2
              have hW : Hid (nth L i = (Sh.wN L i : Nat)) := Lib.hid (by unfold Sh.wN; omega)
              rw [PE.out i hlt2] at c1
              obtain ⟨wi, hwi⟩ : ∃ wi, Sh.wN L i = wi := ⟨_, rfl⟩
              rw [hwi] at c1 hW
              rw [hW.out] at c2 hw1
              obtain ⟨P, hP⟩ : ∃ P, kk * wi = P := ⟨_, rfl⟩
              rw [hP] at c1
              have hPb : P ≤ 999 * 1099511627776 := by rw [← hP]; exact Nat.mul_le_mul hkk2 (by omega)
              have y1 : IntKind.i64.wrap ((kk : Int) * (wi : Int)) = (P : Int) := by
                rw [← Int.natCast_mul, hP, IntKind.wrap_i64]; omega
              have y2 : (kk : Int) * (wi : Int) = (P : Int) := by rw [← Int.natCast_mul, hP]
              have ww6 : IntKind.i64.wrap (i : Int) = (i : Int) := by rw [IntKind.wrap_i64]; omega
              clear hP hwi e2
              go_wp2_with fail
              go_quiet (fail)
              go_wp2_with fail
              go_roundg (L.length - (i + 1))
              case measure => rw [HR2.out]; omega
              case rel => exact ⟨i + 1, dd + nq, by omega, rfl, by first | rfl | simp, by first | rfl | exact World.drewN_drewN _ _ _⟩
            · obtain rfl : i = L.length := by omega
              go_wp2_with fail
              go_ret
              exact ⟨rfl, below_drewN B6.out _⟩
end Go.Proofs.YtdhlmflbefnekaaDoor
