/- The walk of CardLinear. -/
import Derived.Test.YtpafbnmncioppaaLinC
import Derived.Test.YtpafbnmncioppaaEntryC
import Derived.Test.YtpafbnmncioppaaWorksC
import Derived.Outline
import Derived.OpenShut
namespace Go.Proofs.Ytpafbnmncioppaa
open Go.RowKit Go.ChangeShapes Go.WideShapes
theorem tcells_set : ∀ (l : List (Int × Value × List Int)) (k : Nat) (hk : k < l.length) (x : Int), (tcells l).set (k * 2) (.int .i64 x) = tcells (l.set k (x, l[k].2))
  | [], k, hk, _ => by simp at hk
  | r :: l, 0, _, x => by simp [tcells]
  | r :: l, k + 1, hk, x => by
    have := tcells_set l k (by simpa using hk) x
    simp only [show (k + 1) * 2 = k * 2 + 1 + 1 by omega, tcells, List.set_cons_succ, List.getElem_cons_succ, this]
def gone (c : Int) (r : Int × Value × List Int) : Int × Value × List Int := (wrap64 (r.1 * c), r.2)
def gm (c : Int) (l : List (Int × Value × List Int)) (k : Nat) : List (Int × Value × List Int) := (l.take k).map (gone c) ++ l.drop k
theorem gm_len (c : Int) (l : List (Int × Value × List Int)) (k : Nat) (hk : k ≤ l.length) : (gm c l k).length = l.length := by simp [gm]; omega
theorem gm_at (c : Int) (l : List (Int × Value × List Int)) (k : Nat) (hk : k < l.length) : (gm c l k)[k]'(by rw [gm_len _ _ _ (by omega)]; exact hk) = l[k] := by
  have : (gm c l k)[k]? = some l[k] := by
    unfold gm
    rw [List.getElem?_append_right (by simp; omega), List.length_map, List.length_take, Nat.min_eq_left (by omega), Nat.sub_self, List.drop_eq_getElem_cons hk]
    rfl
  exact (List.getElem?_eq_some_iff.1 this).2
theorem gm_set (c : Int) (l : List (Int × Value × List Int)) (k : Nat) (hk : k < l.length) : (gm c l k).set k (gone c l[k]) = gm c l (k + 1) := by
  unfold gm
  rw [List.set_append_right _ _ (by simp; omega), List.length_map, List.length_take, Nat.min_eq_left (by omega), Nat.sub_self, List.drop_eq_getElem_cons hk, List.set_cons_zero, List.take_succ_eq_append_getElem hk, List.map_append, List.append_assoc]
  rfl
theorem gm_snd (c : Int) (l : List (Int × Value × List Int)) (k : Nat) : ((gm c l k).map fun r => r.2) = l.map fun r => r.2 := by
  unfold gm
  rw [List.map_append, List.map_map, show ((fun r : Int × Value × List Int => r.2) ∘ gone c) = fun r => r.2 from rfl, ← List.map_append, List.take_append_drop]
theorem gm_all (c : Int) (l : List (Int × Value × List Int)) : said (gm c l l.length) = times c (said l) := by
  unfold gm
  rw [List.take_length, List.drop_length, List.append_nil]
  simp [said, times, gone]
set_option maxHeartbeats 16000000 in
set_option maxRecDepth 100000 in
theorem cardLinear_walk {H : Type} {enc : TypeId × Value → H} (i base step other : Int) (v : Value) (d : DataW H) (ps : List MemPlace) (W : World)
    (hwi : (Lit.int .i64 i).wf = true) (hwb : (Lit.int .i64 base).wf = true) (_ : (Lit.int .i64 step).wf = true) (_ : (Lit.int .i64 other).wf = true)
    (h : DataW.Trod enc Try.prog W 0 (fun _ => true) true 22 v d ps) {base1 : Nat} (hok : Value.okWide Try.prog W .any base1 22 v) (hw : ∀ n ∈ DataW.weights Try.prog 22 d, n ≤ reachBytes) (hsh : W.ShapedOpen Try.prog) :
    Calls Try.prog 5 #[.int .i64 i, .int .i64 base, .int .i64 step, .int .i64 other, v] W fun e w' => e = .returned (.bool true) ∧ Below W.heap.size W w' := by
  obtain ⟨rs, hv, hsz, hR⟩ := tabs_arg Try.underlying22 Try.underlying31 (by kernel_rfl) rfl rfl (by kernel_rfl) (by kernel_rfl) rfl rfl Try.underlying2 Try.underlying23 (by kernel_rfl) (by kernel_rfl) (by kernel_rfl) hok h hw
  have hr1 : rs.length ≤ 4398046511000 := by unfold reachBytes at hsz; omega
  have hO : ∀ k, k < rs.length → (rO rs k).length ≤ 17592186044416 := fun k hk => by have := (hR k hk).2.1; unfold reachBytes at this; omega
  have hi1 : i ≤ 9223372036854775807 := by
    have : -9223372036854775808 ≤ i ∧ i ≤ 9223372036854775807 := by simpa [Lit.wf, IntKind.min, IntKind.max, IntKind.bits, IntKind.signed] using hwi
    omega
  have HV := Lib.hid hv
  have HO := Lib.hid hO
  have HI1 := Lib.hid hi1
  obtain ⟨av, cv, rfl, _, _, hcv⟩ := hv
  obtain ⟨hcap, hcm⟩ := cap_of Try.underlying22 h rfl
  have HC := Lib.hid hcv
  have HWB := Lib.hid (wrap_id hwb)
  have HWI := Lib.hid (wrap_id hwi)
  unfold maxLen at hcm
  clear h hok hw hsz hR hwi hwb hO hi1 hcv
  go_enter Try.func5, Try.ntmps5
  go_wp2_with fail
  refine (wkRun.works_any hsh W (Below.refl _ _)).mono ?_
  rintro e w0 ⟨rfl, hb⟩
  have B0 := Lib.hid hb
  clear hb
  by_cases hneg : i < 0
  · go_wp2_with fail
    refine (given_tabs _ rs w0 (HV.out.below B0.out) hr1 HO.out).mono ?_
    rintro e w1 ⟨vi, rfl, hT, hb⟩
    have T1 := Lib.hid hT
    have B1 := Lib.hid (B0.out.trans (hb.mono B0.out.size))
    clear hT hb
    go_wp2_with fail
    refine (entry_any vi rs i base step w1 T1.out HI1.out HO.out).mono ?_
    rintro e w2 ⟨rfl, hb⟩
    have B2 := Lib.hid (B1.out.trans (hb.mono B1.out.size))
    have E : entV i base step rs = 0 := by unfold entV; rw [if_pos hneg]
    rw [E]
    clear hb
    go_wp2_with fail
    go_ret
    exact ⟨rfl, B2.out⟩
  · obtain ⟨I, rfl⟩ : ∃ I : Nat, i = I := ⟨i.toNat, by omega⟩
    have HEN : Hid (∀ b s l, entV I b s l = entP I b s l) := Lib.hid (fun b s l => by unfold entV; rw [if_neg hneg]; rfl)
    have E1 : Hid (entV I base 0 [] = base) := Lib.hid (by rw [HEN.out, ent_val]; simp [parts, HWB.out])
    have E3 : Hid (entV I 0 1 [] = (I : Int)) := Lib.hid (by rw [HEN.out, ent_val]; simp [parts, HWI.out])
    go_wp2_with fail
    refine (given_tabs _ rs w0 (HV.out.below B0.out) hr1 HO.out).mono ?_
    rintro e w1 ⟨vi, rfl, hT, hb⟩
    have T1 := Lib.hid hT
    have B1 := Lib.hid (B0.out.trans (hb.mono B0.out.size))
    clear hT hb
    go_wp2_with fail
    refine (entry_any vi rs I base step w1 T1.out HI1.out HO.out).mono ?_
    rintro e w2 ⟨rfl, hb⟩
    have B2 := Lib.hid (B1.out.trans (hb.mono B1.out.size))
    obtain ⟨all, hall⟩ : ∃ a, entV I base step rs = a := ⟨_, rfl⟩
    rw [hall]
    have HALL := Lib.hid hall
    clear hb hall T1 B0 B1
    go_wp2_with fail
    refine (entry_any (.slice none 0 0) [] I base 0 w2 (tabs_nil w2) HI1.out (fun k hk => by simp at hk)).mono ?_
    rintro e w3 ⟨rfl, hb⟩
    have B3 := Lib.hid (B2.out.trans (hb.mono B2.out.size))
    clear hb
    rw [E1.out]
    go_wp2_with fail
    refine (entry_any (.slice none 0 0) [] I 0 step w3 (tabs_nil w3) HI1.out (fun k hk => by simp at hk)).mono ?_
    rintro e w4 ⟨rfl, hb⟩
    have B4 := Lib.hid (B3.out.trans (hb.mono B3.out.size))
    clear hb
    obtain ⟨t1, ht1⟩ : ∃ a, entV I 0 step [] = a := ⟨_, rfl⟩
    rw [ht1]
    have HT1 := Lib.hid ht1
    obtain ⟨s0, hs0⟩ : ∃ a, wrap64 (base + t1) = a := ⟨_, rfl⟩
    have HS0 : Hid (s0 = wrap64 (base + step * I + parts I [])) := Lib.hid (by
      rw [← hs0, ← HT1.out, HEN.out, ent_val, wrap_addr]
      simp [parts])
    clear ht1 B2 B3
    go_wp2_with fail
    refine (entry_any (.slice none 0 0) [] I base 0 w4 (tabs_nil w4) HI1.out (fun k hk => by simp at hk)).mono ?_
    rintro e w5 ⟨rfl, hb⟩
    have B5 := Lib.hid (B4.out.trans (hb.mono B4.out.size))
    clear hb
    rw [E1.out]
    go_wp2_with fail
    refine (entry_any (.slice none 0 0) [] I 0 1 w5 (tabs_nil w5) HI1.out (fun k hk => by simp at hk)).mono ?_
    rintro e w6 ⟨rfl, hb⟩
    have B6 := Lib.hid (B5.out.trans (hb.mono B5.out.size))
    clear hb
    rw [E3.out]
    clear B4 B5 hs0
    go_wp2_with fail
    go_loopg [12, 13] rs.length (fun r vs vk wr => ∃ (k : Nat) (S : Int), k ≤ rs.length ∧ r = rs.length - k ∧ vk = .int .i64 k ∧ vs = .int .i64 S ∧ Hid (S = wrap64 (base + step * I + parts I (rs.take k)) ∧ Below W.heap.size W wr))
    case atStart => exact ⟨0, s0, by omega, by omega, rfl, rfl, Lib.hid ⟨by rw [HS0.out]; simp, B6.out⟩⟩
    case round =>
      obtain ⟨k, S, hk, hr, rfl, rfl, hh⟩ := hrel
      have HR := Lib.hid hr
      have HS := Lib.hid hh.out.1
      have B := Lib.hid hh.out.2
      clear hr hh
      by_cases hlt : k < rs.length
      · obtain ⟨b, off, u0, hp, _⟩ := HC.out k hlt
        subst hp
        have hkc : k < cv := by omega
        go_wp2_with fail
        refine (given_tabs _ [(rF rs k, rO rs k)] wr (tabs_one (HV.out.below B.out) hlt) (by simp) (fun q hq => by
          obtain rfl : q = 0 := by simpa using hq
          simpa [rO] using HO.out k hlt)).mono ?_
        rintro e w7 ⟨vj, rfl, hT, hb⟩
        have T7 := Lib.hid hT
        have B7 := Lib.hid (B.out.trans (hb.mono B.out.size))
        clear hT hb
        go_wp2_with fail
        refine (entry_any vj [(rF rs k, rO rs k)] I 0 0 w7 T7.out HI1.out (fun q hq => by
          obtain rfl : q = 0 := by simpa using hq
          simpa [rO] using HO.out k hlt)).mono ?_
        rintro e w8 ⟨rfl, hb⟩
        have B8 := Lib.hid (B7.out.trans (hb.mono B7.out.size))
        obtain ⟨p, hp⟩ : ∃ p, entV I 0 0 [(rF rs k, rO rs k)] = p := ⟨_, rfl⟩
        rw [hp]
        obtain ⟨S2, hS2⟩ : ∃ a, wrap64 (S + p) = a := ⟨_, rfl⟩
        have HN : Hid (S2 = wrap64 (base + step * I + parts I (rs.take (k + 1)))) := Lib.hid (by
          rw [← hS2, ← hp, HEN.out, ent_one, HS.out, wrap_add, List.take_succ_eq_append_getElem hlt, parts_snoc, r_at hlt, Int.add_assoc])
        clear hb hp T7 B7 B
        go_wp2_with fail
        go_roundg (rs.length - (k + 1))
        case measure => rw [HR.out]; omega
        case rel => exact ⟨k + 1, S2, by omega, rfl, by first | rfl | simp, by first | rfl | rw [hS2], Lib.hid ⟨HN.out, B8.out⟩⟩
      · obtain rfl : k = rs.length := by omega
        have HSA : Hid (S = all) := Lib.hid (by rw [HS.out, ← HALL.out, HEN.out, ent_val, List.take_length])
        go_wp2_with fail
        refine (given_any _ rs wr (HV.out.below B.out) hr1 HO.out).mono ?_
        rintro e w7 ⟨vi, L, rfl, hsaid, hown, hfam, hb⟩
        have hLl : L.length = rs.length := by rw [← hsaid, said_len]
        have A0 := Lib.hid hown
        have F0 := Lib.hid hfam
        have B7 := Lib.hid (B.out.trans (hb.mono B.out.size))
        have HLl := Lib.hid hLl
        obtain ⟨ai, ci, rfl⟩ := own_slice hown
        have s7 : W.heap.size ≤ wr.heap.size := B.out.size
        obtain ⟨n, hn⟩ : ∃ n, L.length = n := ⟨_, rfl⟩
        have hnm : n ≤ 4398046511000 := by omega
        have HN := Lib.hid hn
        rw [hn] at A0
        rw [hn]
        clear hown hfam hb hLl hn B
        go_wp2_with fail
        go_loopg [15] n (fun r vk wq => ∃ (k : Nat), k ≤ n ∧ r = n - k ∧ vk = .int .i64 k ∧ Hid (wq.ownsRow wr.heap.size 30 2 (.slice ai n ci) n (tcells (gm other L k)) ∧ Fam wq wr.heap.size 2 (L.map fun r => r.2) ∧ Below W.heap.size W wq))
        case atStart => exact ⟨0, by omega, by omega, rfl, Lib.hid ⟨by simpa [gm] using A0.out, F0.out, B7.out⟩⟩
        case round =>
          clear A0 F0 B7
          obtain ⟨k, hk, hr, rfl, hq⟩ := hrel
          have A := Lib.hid hq.out.1
          have F := Lib.hid hq.out.2.1
          have B := Lib.hid hq.out.2.2
          have HR := Lib.hid hr
          clear hr hq
          by_cases hlt : k < n
          · obtain ⟨gi, ci', hform, hgi, hgi2⟩ := A.out.form (by omega)
            obtain ⟨rfl, rfl⟩ : ai = some ⟨gi, 0, none⟩ ∧ ci = ci' := by
              simp only [Value.slice.injEq] at hform
              exact ⟨hform.1, hform.2.2⟩
            clear hform
            have hkL : k < L.length := by rw [HN.out]; exact hlt
            have hkG : k < (gm other L k).length := by rw [gm_len _ _ _ (by omega)]; exact hkL
            have e0 := (A.out.cellAt (k * 2) (by omega)).trans ((tcells_at (gm other L k) k hkG).1.trans (by rw [gm_at _ _ _ hkL]))
            have f0 := A.out.frozenAt (k * 2)
            obtain ⟨m, hm⟩ : ∃ m, wrap64 (L[k].1 * other) = m := ⟨_, rfl⟩
            have hgo : Hid (gone other L[k] = (m, (gm other L k)[k].2)) := Lib.hid (by rw [gm_at _ _ _ hkL, ← hm]; rfl)
            have S1 := Lib.hid (A.out.stored (k * 2) (.int .i64 m)).1
            rw [tcells_set _ _ hkG, ← hgo.out, gm_set _ _ _ hkL] at S1
            have S2 := Lib.hid (F.out.to (w' := _) fun v n xs hv h => ownsRow_setCell_other h (a := ⟨gi, k * 2, none⟩) (fun e => by have := own_ne A.out h (by decide); rw [e] at this; simp [Value.ownBlock] at this) (.int .i64 m))
            have S3 := Lib.hid (B.out.setCell (p := ⟨gi, k * 2, none⟩) (Nat.le_trans s7 hgi) (.int .i64 m))
            generalize L[k].1 = x at *
            clear A F B hgo
            go_wp2_with fail
            go_roundg (n - (k + 1))
            case measure => rw [HR.out]; omega
            case rel =>
              try rw [hm]
              exact ⟨k + 1, by omega, rfl, by first | rfl | simp, Lib.hid ⟨S1.out, S2.out, S3.out⟩⟩
          · have hkn : k = n := by omega
            subst hkn
            have HG : Hid ((gm other L k).length = k) := Lib.hid (by rw [gm_len _ _ _ (by rw [HN.out]; exact Nat.le_refl _), HN.out])
            have HTO : Hid (said (gm other L k) = times other rs) := Lib.hid (by rw [← hsaid, ← gm_all, HN.out])
            have HOL : Hid (∀ r ∈ gm other L k, r.2.2.length ≤ 17592186044416) := Lib.hid (fun r hr => by
              have h1 : r.2 ∈ (gm other L k).map fun r => r.2 := List.mem_map.2 ⟨r, hr, rfl⟩
              rw [gm_snd] at h1
              obtain ⟨q, hq, e⟩ := List.mem_map.1 h1
              obtain ⟨j, hj, rfl⟩ := List.getElem_of_mem hq
              have := HO.out j (by rw [← HLl.out]; exact hj)
              rw [← hsaid, said_o hj] at this
              rw [← e]
              exact this)
            have T : Hid (Tabs wr (.slice ai k ci) (times other rs)) := Lib.hid (by
              rw [← HTO.out]
              exact tabs_own (e := 2) (by rw [HG.out]; exact A.out) (by rw [gm_snd]; exact F.out) (by rw [HG.out]; unfold maxLen; omega) (fun r hr => by have := HOL.out r hr; unfold maxLen; omega))
            have HO2 : Hid (∀ q, q < (times other rs).length → (rO (times other rs) q).length ≤ 17592186044416) := Lib.hid (fun q hq => by
              rw [← HTO.out] at hq ⊢
              rw [said_len] at hq
              rw [said_o hq]
              exact HOL.out _ (List.getElem_mem hq))
            obtain ⟨b2, hb2⟩ : ∃ a, wrap64 (base * other) = a := ⟨_, rfl⟩
            obtain ⟨s2, hs2⟩ : ∃ a, wrap64 (step * other) = a := ⟨_, rfl⟩
            obtain ⟨a2, ha2⟩ : ∃ a, wrap64 (all * other) = a := ⟨_, rfl⟩
            have HE : Hid (entV I b2 s2 (times other rs) = a2) := Lib.hid (by
              rw [HEN.out, ← hb2, ← hs2, ← ha2, ent_times, ← HEN.out, HALL.out])
            obtain rfl := HSA.out
            clear hsaid A F
            go_wp2_with fail
            refine (entry_any (.slice ai k ci) (times other rs) I b2 s2 wr T.out HI1.out HO2.out).mono ?_
            rintro e w9 ⟨rfl, hb⟩
            have B9 := Lib.hid (B.out.trans (hb.mono B.out.size))
            rw [HE.out]
            clear hb
            go_wp2_with fail
            go_ret
            exact ⟨rfl, B9.out⟩
end Go.Proofs.Ytpafbnmncioppaa
