/- The walk of CardChecks. (Printed by tools/gencc.py.) -/
import Derived.Test.YtpafbnmncioppaaOwnL
import Derived.Test.YtpafbnmncioppaaSameAllC
import Derived.Test.YtpafbnmncioppaaLevelC
import Derived.Test.YtpafbnmncioppaaCardCheckC
import Derived.Outline
import Derived.OpenShut
import Derived.Deep.RegionHeld3
namespace Go.Proofs.Ytpafbnmncioppaa
open Go.RowKit Go.ChangeShapes Go.WideShapes
theorem agg_cells {xs : Array Value} {cs : List Value} (h : (Value.agg xs).cells.toList = cs) : xs = cs.toArray := by
  rw [← h]
  simp [Value.cells]
def TwinX (n f : ByteArray) (l : Int) (ss : List ByteArray) (s : Int) (q : ByteArray) (e : Int) (w : World) (er : Ending) (w' : World) : Prop := ∃ g cap, er = .returned (.agg #[.string n, .string f, .int .u8 l, .slice (some ⟨g, 0, none⟩) ss.length cap, .int .i8 s, .string q, .int .i16 e]) ∧ Strs w' (.slice (some ⟨g, 0, none⟩) ss.length cap) ss ∧ Below w.heap.size w w'
theorem twin_x (n f q : ByteArray) (l s e : Int) (ss : List ByteArray) (sl : Value) (w : World) (hs : Strs w sl ss) (hn : ss.length ≤ 8796093022208) :
    Calls Try.prog 21 #[.agg #[.string n, .string f, .int .u8 l, sl, .int .i8 s, .string q, .int .i16 e]] w (TwinX n f l ss s q e w) := by
  refine (twin_walk n f q l s e ss sl w hs hn).mono ?_
  rintro er w' ⟨g, cap, rfl, ho, hb⟩
  exact ⟨g, cap, rfl, strs_own ho (by unfold maxLen; omega), hb⟩
theorem boxes2 {W w' : World} {n f q n' f' q' : ByteArray} {l s e l' s' e' : Int} {sl sm : Value} (h : Below (W.heap.size + 1 + 1) ((W.alloc (.cells #[.string n, .string f, .int .u8 l, sl, .int .i8 s, .string q, .int .i16 e] 38)).alloc (.cells #[.string n', .string f', .int .u8 l', sm, .int .i8 s', .string q', .int .i16 e'] 38)) w') : w'.cell? ⟨W.heap.size, 0, none⟩ = some (.string n) ∧ w'.cell? ⟨W.heap.size, 1, none⟩ = some (.string f) ∧ w'.cell? ⟨W.heap.size, 2, none⟩ = some (.int .u8 l) ∧ w'.cell? ⟨W.heap.size, 3, none⟩ = some (sl) ∧ w'.cell? ⟨W.heap.size, 4, none⟩ = some (.int .i8 s) ∧ w'.cell? ⟨W.heap.size, 5, none⟩ = some (.string q) ∧ w'.cell? ⟨W.heap.size, 6, none⟩ = some (.int .i16 e) ∧ w'.cell? ⟨W.heap.size + 1, 0, none⟩ = some (.string n') ∧ w'.cell? ⟨W.heap.size + 1, 1, none⟩ = some (.string f') ∧ w'.cell? ⟨W.heap.size + 1, 2, none⟩ = some (.int .u8 l') ∧ w'.cell? ⟨W.heap.size + 1, 3, none⟩ = some (sm) ∧ w'.cell? ⟨W.heap.size + 1, 4, none⟩ = some (.int .i8 s') ∧ w'.cell? ⟨W.heap.size + 1, 5, none⟩ = some (.string q') ∧ w'.cell? ⟨W.heap.size + 1, 6, none⟩ = some (.int .i16 e') := by
  have h1 : Below (W.heap.size + 1) (W.alloc (.cells #[.string n, .string f, .int .u8 l, sl, .int .i8 s, .string q, .int .i16 e] 38)) w' := ((Below.refl _ _).alloc (by simp) _).trans (h.mono (by omega))
  obtain ⟨a0, a1, a2, a3, a4, a5, a6⟩ := box_cells h1
  have hz : (W.alloc (.cells #[.string n, .string f, .int .u8 l, sl, .int .i8 s, .string q, .int .i16 e] 38)).heap.size = W.heap.size + 1 := by simp
  have h2 := box_cells (w := W.alloc (.cells #[.string n, .string f, .int .u8 l, sl, .int .i8 s, .string q, .int .i16 e] 38)) (w' := w') (by rw [hz]; exact h)
  rw [hz] at h2
  obtain ⟨b0, b1, b2, b3, b4, b5, b6⟩ := h2
  exact ⟨a0, a1, a2, a3, a4, a5, a6, b0, b1, b2, b3, b4, b5, b6⟩
def Named (l : List (Cd × Value)) (k : Nat) : Prop := ∀ i (h : i < l.length), l[i].1.name.size ≤ 140737488355328 + k
theorem Named.name {l : List (Cd × Value)} {k j : Nat} (h : Named l k) (hj : j < l.length) (x : ByteArray) (hx : x.size ≤ 140737488355328 + (k + 1)) : Named (l.set j ({ l[j].1 with name := x }, l[j].2)) (k + 1) := by
  intro i hi
  rw [List.length_set] at hi
  rw [List.getElem_set]
  split
  · exact hx
  · have := h i hi; omega
theorem Named.text {l : List (Cd × Value)} {k j : Nat} (h : Named l k) (hj : j < l.length) (ss : List ByteArray) : Named (l.set j ({ l[j].1 with comp := ss }, l[j].2)) k := by
  intro i hi
  rw [List.length_set] at hi
  rw [List.getElem_set]
  split
  · exact h j hj
  · exact h i hi
set_option maxHeartbeats 16000000 in
set_option maxRecDepth 100000 in
theorem cardChecks_walk {H : Type} {enc : TypeId × Value → H} (v : Value) (d : DataW H) (ps : List MemPlace) (v1 : Value) (d1 : DataW H) (ps1 : List MemPlace) (v2 : Value) (d2 : DataW H) (ps2 : List MemPlace) (lv : Int) (W : World)
    (h : DataW.Trod enc Try.prog W 0 (fun _ => true) true 33 v d ps) {base0 : Nat} (hok : Value.okWide Try.prog W .any base0 33 v) (hw : ∀ n ∈ DataW.weights Try.prog 33 d, n ≤ reachBytes)
    (h1 : DataW.Trod enc Try.prog W 0 (fun _ => true) true 38 v1 d1 ps1) {base1 : Nat} (hok1 : Value.okWide Try.prog W .any base1 38 v1) (hw1 : ∀ n ∈ DataW.weights Try.prog 38 d1, n ≤ reachBytes)
    (h2 : DataW.Trod enc Try.prog W 0 (fun _ => true) true 38 v2 d2 ps2) {base2 : Nat} (hok2 : Value.okWide Try.prog W .any base2 38 v2) (hw2 : ∀ n ∈ DataW.weights Try.prog 38 d2, n ≤ reachBytes)
    (hlv : (Lit.int .u8 lv).wf = true) (_ : W.ShapedOpen Try.prog) :
    Calls Try.prog 4 #[v, v1, v2, .int .u8 lv] W fun e w' => e = .returned (.bool true) ∧ Below W.heap.size W w' := by
  obtain ⟨cs, hv, hsz, hC⟩ := cards_arg hok h hw
  obtain ⟨ca, sl, hca, hsa, hna, hoa, _⟩ := card_arg hok1 h1 hw1
  obtain ⟨cb, sm, hcb, hsb, hnb, hob, _⟩ := card_arg hok2 h2 hw2
  obtain ⟨xa, rfl, _⟩ := okWide_struct Try.underlying38 hok1
  obtain ⟨xb, rfl, _⟩ := okWide_struct Try.underlying38 hok2
  obtain rfl := agg_cells hca
  obtain rfl := agg_cells hcb
  have h0l : 0 ≤ lv := by
    have : 0 ≤ lv ∧ lv ≤ 255 := by simpa [Lit.wf, IntKind.min, IntKind.max, IntKind.bits, IntKind.signed] using hlv
    omega
  have hr1 : cs.length * 96 ≤ 140737488355328 := by unfold reachBytes at hsz; omega
  have hO : ∀ k, k < cs.length → (nthC cs k).comp.length ≤ 8796093022208 := fun k hk => by have := (hC k hk).1; rw [nthC_eq hk]; unfold reachBytes at this; omega
  have hK : ∀ k, k < cs.length → (nthC cs k).ok := fun k hk => by rw [nthC_eq hk]; exact (hC k hk).2.1
  have hN : ∀ k, k < cs.length → (nthC cs k).name.size ≤ 140737488355328 := fun k hk => by have := (hC k hk).2.2; rw [nthC_eq hk]; unfold reachBytes at this; omega
  have hna : ca.comp.length ≤ 8796093022208 := by unfold reachBytes at hna; omega
  obtain ⟨n, f, l, ss, s, q, e⟩ := ca
  obtain ⟨n', f', l', tt, s', q', e'⟩ := cb
  simp only [Cd.cells]
  simp only at hsa hsb hna
  have HV := Lib.hid hv
  have HSA := Lib.hid hsa
  have HSB := Lib.hid hsb
  have HO := Lib.hid hO
  have HK := Lib.hid hK
  have HN := Lib.hid hN
  have HNA := Lib.hid hna
  have HL0 := Lib.hid h0l
  have HR1 := Lib.hid hr1
  have b0 : Below W.heap.size W ((W.alloc (.cells #[.string n, .string f, .int .u8 l, sl, .int .i8 s, .string q, .int .i16 e] 38)).alloc (.cells #[.string n', .string f', .int .u8 l', sm, .int .i8 s', .string q', .int .i16 e'] 38)) := ((Below.refl _ W).alloc (Nat.le_refl _) _).alloc (by simp) _
  have B0 := Lib.hid b0
  have hz : ((W.alloc (.cells #[.string n, .string f, .int .u8 l, sl, .int .i8 s, .string q, .int .i16 e] 38)).alloc (.cells #[.string n', .string f', .int .u8 l', sm, .int .i8 s', .string q', .int .i16 e'] 38)).heap.size = W.heap.size + 1 + 1 := by simp
  have HZ := Lib.hid hz
  clear h hok hw h1 hok1 hw1 h2 hok2 hw2 hlv hsz hC hca hcb hsa hsb hna hnb hoa hob hv hO hK hN h0l hr1 b0 hz
  go_enter Try.func4, Try.ntmps4
  go_wp2_with fail
  refine (twins_any v cs _ (HV.out.below B0.out) HR1.out HO.out).mono ?_
  rintro er w1 ⟨vi, li, rfl, hli, hown, hb⟩
  subst hli
  rw [HZ.out] at hown hb
  have O1 := Lib.hid hown
  have B1 := Lib.hid hb
  clear hown hb
  have HLm : Hid (li.length * 96 ≤ 140737488355328) := Lib.hid (by have := HR1.out; rwa [List.length_map] at this)
  have HLx : Hid (li.length ≤ maxLen) := Lib.hid (by have := HLm.out; unfold maxLen; omega)
  have HF : Hid (Fine li) := Lib.hid (fun i hi => by
    have h1 := HK.out i (by simpa using hi)
    have h2 := HO.out i (by simpa using hi)
    rw [nthC_eq (by simpa using hi), List.getElem_map] at h1 h2
    exact ⟨h1, h2⟩)
  have HNm : Hid (Named li 0) := Lib.hid (fun i hi => by
    have h1 := HN.out i (by simpa using hi)
    rw [nthC_eq (by simpa using hi), List.getElem_map] at h1
    omega)
  have s1 : Hid (W.heap.size + 1 + 1 ≤ w1.heap.size) := Lib.hid (by have := B1.out.size; rwa [HZ.out] at this)
  go_wp2_with fail
  refine (check_any vi _ w1 (O1.out.cards HF.out HLx.out) HK.out).mono ?_
  rintro er w2 ⟨rfl, hb⟩
  have B2 := Lib.hid (B1.out.trans (hb.mono s1.out))
  have O2 := Lib.hid (O1.out.below hb)
  have s2 : Hid (W.heap.size + 1 + 1 ≤ w2.heap.size) := Lib.hid (Nat.le_trans s1.out hb.size)
  have HV2 := Lib.hid (HV.out.below (B0.out.trans (B2.out.mono (by omega))))
  clear hb O1 B1
  go_wp2_with fail
  refine (rcheck_any v _ w2 HV2.out HK.out).mono ?_
  rintro er w3 ⟨rfl, hb⟩
  have B3 := Lib.hid (B2.out.trans (hb.mono s2.out))
  have O3 := Lib.hid (O2.out.below hb)
  have s3 : Hid (W.heap.size + 1 + 1 ≤ w3.heap.size) := Lib.hid (Nat.le_trans s2.out hb.size)
  clear hb O2 B2
  generalize checkI (li.map (·.1)) = I1
  generalize checkE (li.map (·.1)) = E1
  go_wp2_with fail
  refine (level_any lv w3 HL0.out).mono ?_
  rintro er w4 ⟨rfl, hb⟩
  have B4 := Lib.hid (B3.out.trans (hb.mono s3.out))
  have O4 := Lib.hid (O3.out.below hb)
  have s4 : Hid (W.heap.size + 1 + 1 ≤ w4.heap.size) := Lib.hid (Nat.le_trans s3.out hb.size)
  clear hb O3 B3
  go_wp2_with fail
  refine (rlevel_any lv w4 HL0.out).mono ?_
  rintro er w5 ⟨rfl, hb⟩
  have B5 := Lib.hid (B4.out.trans (hb.mono s4.out))
  have O5 := Lib.hid (O4.out.below hb)
  have s5 : Hid (W.heap.size + 1 + 1 ≤ w5.heap.size) := Lib.hid (Nat.le_trans s4.out hb.size)
  clear hb O4 B4
  generalize levelS lv = S1
  generalize levelE lv = E2
  obtain ⟨m, hm⟩ : ∃ m, sameB ⟨n, f, l, ss, s, q, e⟩ ⟨n', f', l', tt, s', q', e'⟩ = m := ⟨_, rfl⟩
  have HM := Lib.hid hm
  have C1 := Lib.hid (fun (w' : World) (hb : Below w5.heap.size w5 w') => sameCards_any vi v _ _ w' ((O5.out.below hb).cards HF.out HLx.out) (HV.out.below (B0.out.trans ((B5.out.trans (hb.mono s5.out)).mono (by omega)))))
  have HSS : Hid (sameAllB (li.map (·.1)) (li.map (·.1)) = true) := Lib.hid (sameAll_self _)
  have BX : Hid (Below (W.heap.size + 1 + 1) ((W.alloc (.cells #[.string n, .string f, .int .u8 l, sl, .int .i8 s, .string q, .int .i16 e] 38)).alloc (.cells #[.string n', .string f', .int .u8 l', sm, .int .i8 s', .string q', .int .i16 e'] 38)) w5) := B5
  have SX := s5
  have K := boxes2 BX.out
  have BM : Hid (∀ w', Below (W.heap.size + 1 + 1) ((W.alloc (.cells #[.string n, .string f, .int .u8 l, sl, .int .i8 s, .string q, .int .i16 e] 38)).alloc (.cells #[.string n', .string f', .int .u8 l', sm, .int .i8 s', .string q', .int .i16 e'] 38)) w' → Below W.heap.size W w') := Lib.hid (fun w' h => B0.out.trans (h.mono (by omega)))
  clear hm
  have EQ1 : decide (I1 = I1) = true := by simp
  have EQ2 : decide (E1 = E1) = true := by simp
  have EQ3 : decide (E2 = E2) = true := by simp
  have EQ4 : (S1.toList == S1.toList) = true := by simp
  go_wp2_with fail
  go_region_held3 (fun w' => w'.cell? ⟨W.heap.size, 0, none⟩ = some (.string n) ∧ w'.cell? ⟨W.heap.size, 1, none⟩ = some (.string f) ∧ w'.cell? ⟨W.heap.size, 2, none⟩ = some (.int .u8 l) ∧ w'.cell? ⟨W.heap.size, 3, none⟩ = some (sl) ∧ w'.cell? ⟨W.heap.size, 4, none⟩ = some (.int .i8 s) ∧ w'.cell? ⟨W.heap.size, 5, none⟩ = some (.string q) ∧ w'.cell? ⟨W.heap.size, 6, none⟩ = some (.int .i16 e) ∧ w'.cell? ⟨W.heap.size + 1, 0, none⟩ = some (.string n') ∧ w'.cell? ⟨W.heap.size + 1, 1, none⟩ = some (.string f') ∧ w'.cell? ⟨W.heap.size + 1, 2, none⟩ = some (.int .u8 l') ∧ w'.cell? ⟨W.heap.size + 1, 3, none⟩ = some (sm) ∧ w'.cell? ⟨W.heap.size + 1, 4, none⟩ = some (.int .i8 s') ∧ w'.cell? ⟨W.heap.size + 1, 5, none⟩ = some (.string q') ∧ w'.cell? ⟨W.heap.size + 1, 6, none⟩ = some (.int .i16 e'))
    (first | exact K | go_keep)
    (first
      | (go_at_call 19; refine (C1.out _ ((Below.refl _ _).drew)).mono ?_; rintro er w6 ⟨rfl, hb⟩; rw [HSS.out]; have SX : Hid (W.heap.size + 1 + 1 ≤ w6.heap.size) := Lib.hid (Nat.le_trans SX.out hb.size); have BX : Hid (Below (W.heap.size + 1 + 1) ((W.alloc (.cells #[.string n, .string f, .int .u8 l, sl, .int .i8 s, .string q, .int .i16 e] 38)).alloc (.cells #[.string n', .string f', .int .u8 l', sm, .int .i8 s', .string q', .int .i16 e'] 38)) w6) := Lib.hid (BX.out.drew.trans (hb.mono s5.out)); have O5 := Lib.hid ((O5.out.below ((Below.refl _ _).drew)).below hb); have K := boxes2 BX.out)
      | (go_at_call 21; refine (twin_x n f q l s e ss sl _ (HSA.out.below (BM.out _ BX.out)) HNA.out).mono ?_; rintro er w7 ⟨g, cap, rfl, hst, hb⟩; have HTW := Lib.hid hst; have BX : Hid (Below (W.heap.size + 1 + 1) ((W.alloc (.cells #[.string n, .string f, .int .u8 l, sl, .int .i8 s, .string q, .int .i16 e] 38)).alloc (.cells #[.string n', .string f', .int .u8 l', sm, .int .i8 s', .string q', .int .i16 e'] 38)) w7) := Lib.hid (BX.out.trans (hb.mono SX.out)); have O5 := Lib.hid (O5.out.below hb); have SX : Hid (W.heap.size + 1 + 1 ≤ w7.heap.size) := Lib.hid (Nat.le_trans SX.out hb.size); have K := boxes2 BX.out)
      | (go_at_call_of 20 (Value.agg #[.string n', .string f', .int .u8 l', sm, .int .i8 s', .string q', .int .i16 e']); refine (same_walk n f q n' f' q' l s e l' s' e' ss tt _ _ _ HTW.out (HSB.out.below (BM.out _ BX.out))).mono ?_; rintro er w8 ⟨rfl, hb⟩; rw [HM.out]; have BX : Hid (Below (W.heap.size + 1 + 1) ((W.alloc (.cells #[.string n, .string f, .int .u8 l, sl, .int .i8 s, .string q, .int .i16 e] 38)).alloc (.cells #[.string n', .string f', .int .u8 l', sm, .int .i8 s', .string q', .int .i16 e'] 38)) w8) := Lib.hid (BX.out.trans (hb.mono SX.out)); have O5 := Lib.hid (O5.out.below hb); have SX : Hid (W.heap.size + 1 + 1 ≤ w8.heap.size) := Lib.hid (Nat.le_trans SX.out hb.size); have K := boxes2 BX.out)
      | (go_at_call 22; refine (rsame_walk n f q n' f' q' l s e l' s' e' ss tt _ _ _ (HSA.out.below (BM.out _ BX.out)) (HSB.out.below (BM.out _ BX.out))).mono ?_; rintro er w9 ⟨rfl, hb⟩; rw [HM.out]; have BX : Hid (Below (W.heap.size + 1 + 1) ((W.alloc (.cells #[.string n, .string f, .int .u8 l, sl, .int .i8 s, .string q, .int .i16 e] 38)).alloc (.cells #[.string n', .string f', .int .u8 l', sm, .int .i8 s', .string q', .int .i16 e'] 38)) w9) := Lib.hid (BX.out.trans (hb.mono SX.out)); have O5 := Lib.hid (O5.out.below hb); have SX : Hid (W.heap.size + 1 + 1 ≤ w9.heap.size) := Lib.hid (Nat.le_trans SX.out hb.size); have K := boxes2 BX.out)
      | (go_at_call_of 20 (Value.agg #[.string n, .string f, .int .u8 l, sl, .int .i8 s, .string q, .int .i16 e]); refine (same_walk n f q n f q l s e l s e ss ss _ _ _ (HSA.out.below (BM.out _ BX.out)) HTW.out).mono ?_; rintro er w10 ⟨rfl, hb⟩; rw [sameB_self]; have BX : Hid (Below (W.heap.size + 1 + 1) ((W.alloc (.cells #[.string n, .string f, .int .u8 l, sl, .int .i8 s, .string q, .int .i16 e] 38)).alloc (.cells #[.string n', .string f', .int .u8 l', sm, .int .i8 s', .string q', .int .i16 e'] 38)) w10) := Lib.hid (BX.out.trans (hb.mono SX.out)); have O5 := Lib.hid (O5.out.below hb); have SX : Hid (W.heap.size + 1 + 1 ≤ w10.heap.size) := Lib.hid (Nat.le_trans SX.out hb.size); have K := boxes2 BX.out))
  clear K EQ1 EQ2 EQ3 EQ4
  have hlm : li.length ≤ 9223372036854775807 := by have := HLx.out; unfold maxLen at this; exact this
  obtain ⟨ai, ci, rfl⟩ := own_slice O5.out.1
  go_wp2_with fail
  go_loopg [18] li.length (fun r vk wr => ∃ (k : Nat) (l2 : List (Cd × Value)), k ≤ li.length ∧ r = li.length - k ∧ vk = .int .i64 k ∧ Hid (l2.length = li.length ∧ Own wr (W.heap.size + 1 + 1) (.slice ai li.length ci) l2 ∧ Fine l2 ∧ Named l2 k ∧ Below (W.heap.size + 1 + 1) ((W.alloc (.cells #[.string n, .string f, .int .u8 l, sl, .int .i8 s, .string q, .int .i16 e] 38)).alloc (.cells #[.string n', .string f', .int .u8 l', sm, .int .i8 s', .string q', .int .i16 e'] 38)) wr))
  case atStart => exact ⟨0, li, by omega, by omega, rfl, Lib.hid ⟨rfl, O5.out, HF.out, HNm.out, BX.out⟩⟩
  case round =>
    obtain ⟨k, l2, hk, hr, rfl, hq⟩ := hrel
    have L2 := Lib.hid hq.out.1
    have O2 := Lib.hid hq.out.2.1
    have F2 := Lib.hid hq.out.2.2.1
    have N2 := Lib.hid hq.out.2.2.2.1
    have B2 := Lib.hid hq.out.2.2.2.2
    have HR := Lib.hid hr
    clear hr hq
    by_cases hlt : k < li.length
    · have hlt2 : k < l2.length := by rw [L2.out]; exact hlt
      obtain ⟨gi, cap', hform, hgi, hgi2⟩ := O2.out.1.form (by omega)
      simp only [Value.slice.injEq] at hform
      obtain ⟨rfl, hx, rfl⟩ := hform
      clear hx
      obtain ⟨k0, f0, _, _⟩ := Own.at O2.out L2.out k hlt2
      have hns := N2.out k hlt2
      obtain ⟨nm, hnm⟩ : ∃ nm, l2[k].1.name = nm := ⟨_, rfl⟩
      rw [hnm] at k0 hns
      have hkc1 : (0 : Int) ≤ (k : Int) := by omega
      have hkc2 : (k : Int) < (li.length : Int) := by omega
      have hcat : ¬ (9223372036854775807 : Int) < (nm.size : Int) + 1 := by have := HLm.out; omega
      obtain ⟨l3, hl3⟩ : ∃ l3, l3 = l2.set k ({ l2[k].1 with name := nm ++ ⟨#[98]⟩ }, l2[k].2) := ⟨_, rfl⟩
      have L3 : Hid (l3.length = li.length) := Lib.hid (by rw [hl3, List.length_set]; exact L2.out)
      have O3 : Hid (Own (wr.setCell ⟨gi, k * 7, none⟩ (.string (nm ++ ⟨#[98]⟩))) (W.heap.size + 1 + 1) (.slice (some ⟨gi, 0, none⟩) li.length ci) l3) := Lib.hid (by rw [hl3]; exact Own.name O2.out L2.out k hlt2 _)
      have F3 : Hid (Fine l3) := Lib.hid (by rw [hl3]; exact F2.out.name k hlt2 _)
      have N3 : Hid (Named l3 (k + 1)) := Lib.hid (by rw [hl3]; exact N2.out.name hlt2 _ (by have e : (nm ++ ⟨#[98]⟩ : ByteArray).size = nm.size + 1 := by simp [ByteArray.size_append] <;> rfl
                                                                                             omega))
      have B3 : Hid (Below (W.heap.size + 1 + 1) ((W.alloc (.cells #[.string n, .string f, .int .u8 l, sl, .int .i8 s, .string q, .int .i16 e] 38)).alloc (.cells #[.string n', .string f', .int .u8 l', sm, .int .i8 s', .string q', .int .i16 e'] 38)) (wr.setCell ⟨gi, k * 7, none⟩ (.string (nm ++ ⟨#[98]⟩)))) := Lib.hid (Below.setCell B2.out (p := ⟨gi, k * 7, none⟩) hgi _)
      obtain ⟨m2, hm2⟩ : ∃ m2, l2[k].1.comp.length = m2 := ⟨_, rfl⟩
      have M3 : Hid (∀ h : k < l3.length, l3[k].1.comp.length = m2) := Lib.hid (fun h => by subst hl3; simp [hm2])
      have HGI := Lib.hid hgi
      have HM2 : Hid (m2 ≤ 8796093022208) := Lib.hid (by rw [← hm2]; exact (F2.out k hlt2).2)
      have hm2x : m2 ≤ 9223372036854775807 := by have := HM2.out; omega
      obtain ⟨_, _, k3, q3, c3, hq3, _, _, _, _, _⟩ := Own.at O3.out L3.out k (by rw [L3.out]; exact hlt)
      clear hl3 hnm hm2 hns hgi k3 hq3
      go_wp2_with fail
      go_loopg [19] m2 (fun r vj wq => ∃ (j : Nat) (l4 : List (Cd × Value)), j ≤ m2 ∧ r = m2 - j ∧ vj = .int .i64 j ∧ Hid (l4.length = li.length ∧ Own wq (W.heap.size + 1 + 1) (.slice (some ⟨gi, 0, none⟩) li.length ci) l4 ∧ Fine l4 ∧ Named l4 (k + 1) ∧ (∀ h : k < l4.length, l4[k].1.comp.length = m2) ∧ Below (W.heap.size + 1 + 1) ((W.alloc (.cells #[.string n, .string f, .int .u8 l, sl, .int .i8 s, .string q, .int .i16 e] 38)).alloc (.cells #[.string n', .string f', .int .u8 l', sm, .int .i8 s', .string q', .int .i16 e'] 38)) wq))
      case atStart => exact ⟨0, l3, by omega, by omega, rfl, Lib.hid ⟨L3.out, O3.out, F3.out, N3.out, M3.out, B3.out⟩⟩
      case round =>
        clear k0 f0 hcat
        obtain ⟨j, l4, hj, hr, rfl, hq⟩ := hrel
        have L4 := Lib.hid hq.out.1
        have O4 := Lib.hid hq.out.2.1
        have F4 := Lib.hid hq.out.2.2.1
        have N4 := Lib.hid hq.out.2.2.2.1
        have M4 := Lib.hid hq.out.2.2.2.2.1
        have B4 := Lib.hid hq.out.2.2.2.2.2
        have HR2 := Lib.hid hr
        clear hr hq
        have hlt4 : k < l4.length := by rw [L4.out]; exact hlt
        obtain ⟨_, _, k3, q3, c3, hq3, hB3, _, hmc, fz, hcell⟩ := Own.at O4.out L4.out k hlt4
        have hm4 := M4.out hlt4
        rw [hm4] at hcell hmc
        have HQ3 := Lib.hid hq3
        rw [hq3, hm4] at k3
        by_cases hlj : j < m2
        · have e0 := hcell j hlj
          have fj := fz j
          obtain ⟨z, hz⟩ : ∃ z, nthS l4[k].1.comp j = z := ⟨_, rfl⟩
          rw [hz] at e0
          have hjc1 : (0 : Int) ≤ (j : Int) := by omega
          have hjc2 : (j : Int) < (m2 : Int) := by omega
          have T5 := Lib.hid (Own.text O4.out L4.out k hlt4 HQ3.out j ⟨#[120]⟩)
          have B5 : Hid (Below (W.heap.size + 1 + 1) ((W.alloc (.cells #[.string n, .string f, .int .u8 l, sl, .int .i8 s, .string q, .int .i16 e] 38)).alloc (.cells #[.string n', .string f', .int .u8 l', sm, .int .i8 s', .string q', .int .i16 e'] 38)) ((‹World› : World).setCell ⟨q3, j, none⟩ (.string ⟨#[120]⟩))) := Lib.hid (Below.setCell B4.out (p := ⟨q3, j, none⟩) hB3 _)
          have L5 : Hid ((l4.set k ({ l4[k].1 with comp := l4[k].1.comp.set j ⟨#[120]⟩ }, l4[k].2)).length = li.length) := Lib.hid (by rw [List.length_set]; exact L4.out)
          have F5 := Lib.hid (F4.out.text k hlt4 j ⟨#[120]⟩)
          have N5 := Lib.hid (N4.out.text hlt4 (l4[k].1.comp.set j ⟨#[120]⟩))
          have M5 : Hid (∀ h : k < (l4.set k ({ l4[k].1 with comp := l4[k].1.comp.set j ⟨#[120]⟩ }, l4[k].2)).length, (l4.set k ({ l4[k].1 with comp := l4[k].1.comp.set j ⟨#[120]⟩ }, l4[k].2))[k].1.comp.length = m2) := Lib.hid (fun h => by simp [hm4])
          clear hz hq3 hm4 hcell fz hB3 hmc
          go_wp2_with fail
          go_roundg (m2 - (j + 1))
          case measure => rw [HR2.out]; omega
          case rel => exact ⟨j + 1, _, by omega, rfl, by first | rfl | simp, Lib.hid ⟨L5.out, T5.out, F5.out, N5.out, M5.out, B5.out⟩⟩
        · obtain rfl : j = m2 := by omega
          clear hq3 hm4 hcell fz hB3 hmc
          go_wp2_with fail
          go_roundg (li.length - (k + 1))
          case measure => rw [HR.out]; omega
          case rel => exact ⟨k + 1, l4, by omega, rfl, by first | rfl | simp, Lib.hid ⟨L4.out, O4.out, F4.out, N4.out, B4.out⟩⟩
    · obtain rfl : k = li.length := by omega
      have C0 := Lib.hid (O2.out.cards F2.out (by rw [L2.out]; exact HLx.out))
      have hl96 : Hid ((l2.map (·.1)).length * 96 ≤ 140737488355328) := Lib.hid (by rw [List.length_map, L2.out]; exact HLm.out)
      have s6 : Hid (W.heap.size + 1 + 1 ≤ wr.heap.size) := Lib.hid (by have := B2.out.size; rwa [HZ.out] at this)
      go_wp2_with fail
      refine (check_any _ _ wr C0.out F2.out.ok).mono ?_
      rintro er w11 ⟨rfl, hb⟩
      have B6 := Lib.hid (B2.out.trans (hb.mono s6.out))
      have C6 := Lib.hid (C0.out.below hb)
      have s7 : Hid (W.heap.size + 1 + 1 ≤ w11.heap.size) := Lib.hid (Nat.le_trans s6.out hb.size)
      clear hb
      go_wp2_with fail
      refine (twins_any _ _ w11 C6.out hl96.out F2.out.few).mono ?_
      rintro er w12 ⟨vo, lo, rfl, hlo, hown, hb⟩
      have B7 := Lib.hid (B6.out.trans (hb.mono s7.out))
      have s8 : Hid (W.heap.size + 1 + 1 ≤ w12.heap.size) := Lib.hid (Nat.le_trans s7.out hb.size)
      have C7 : Hid (CardsAt w12 vo (l2.map (·.1))) := Lib.hid (by
        have hll : lo.length = l2.length := by simpa using congrArg List.length hlo
        rw [← hlo]
        refine hown.cards (fun i hi => ?_) (by rw [hll, L2.out]; exact HLx.out)
        have h1 := F2.out i (by omega)
        have h2 : lo[i].1 = (l2[i]'(by omega)).1 := by
          have := congrArg (fun x => x[i]?) hlo
          simpa [hi, show i < l2.length by omega] using this
        rw [h2]
        exact h1)
      clear hb hown hlo
      go_wp2_with fail
      refine (rcheck_any vo _ w12 C7.out F2.out.ok).mono ?_
      rintro er w13 ⟨rfl, hb⟩
      have B8 := Lib.hid (B7.out.trans (hb.mono s8.out))
      clear hb
      generalize checkI (l2.map (·.1)) = I2
      generalize checkE (l2.map (·.1)) = E3
      go_wp2_with fail
      go_ret
      exact ⟨by simp, BM.out _ B8.out⟩
end Go.Proofs.Ytpafbnmncioppaa
