/- ProbeGives answers true. -/
import Derived.Test.YtnajbogmhhlpcaaGivesV
import Derived.Test.YtnajbogmhhlpcaaWorksC
import Derived.Outline
import Derived.OpenShut
import Derived.Deep.CutRange
namespace Go.Proofs.Ytnajbogmhhlpcaa
open Go.RowKit Go.ChangeShapes Go.WideShapes
theorem agg_cells22 {xs : Array Value} {cs : List Value} (h : (Value.agg xs).cells.toList = cs) : xs = cs.toArray := by
  rw [← h]
  simp [Value.cells]
def TwinX (n f : ByteArray) (l : Int) (ss : List ByteArray) (s : Int) (q : ByteArray) (e : Int) (w : World) (er : Ending) (w' : World) : Prop := ∃ g cap, er = .returned (.agg #[.string n, .string f, .int .u8 l, .slice (some ⟨g, 0, none⟩) ss.length cap, .int .i8 s, .string q, .int .i16 e]) ∧ w'.ownsRow w.heap.size 9 1 (.slice (some ⟨g, 0, none⟩) ss.length cap) ss.length (sc ss) ∧ Below w.heap.size w w'
theorem twin_x (n f q : ByteArray) (l s e : Int) (ss : List ByteArray) (sl : Value) (w : World) (hs : Strs w sl ss) (hn : ss.length ≤ 8796093022208) :
    Calls Try.prog 16 #[.agg #[.string n, .string f, .int .u8 l, sl, .int .i8 s, .string q, .int .i16 e]] w (TwinX n f l ss s q e w) := by
  refine (twin_walk n f q l s e ss sl w hs hn).mono ?_
  rintro er w' ⟨g, cap, rfl, ho, hb⟩
  exact ⟨g, cap, rfl, ho, hb⟩
theorem stexts_yes {w : World} {v u : Value} {ss : List ByteArray} (hv : Strs w v ss) (hu : Strs w u ss) (a : Nat) : Calls Try.prog 10 #[v, u] (w.drewN a) fun e w' => e = .returned (.bool true) ∧ ∃ m, w' = (w.drewN a).drewN m := by
  have hb : Below w.heap.size w (w.drewN a) := below_drewN (Below.refl _ _) a
  have h := stexts_any v u ss ss (w.drewN a) (hv.below hb) (hu.below hb)
  have e : decide (ss = ss) = true := decide_eq_true rfl
  rw [e] at h
  exact h
theorem strs_at {w : World} {a : Option Addr} {n c : Nat} {ss : List ByteArray} (h : Strs w (.slice a n c) ss) (i : Nat) (hi : i < n) : ∃ b off, a = some ⟨b, off, none⟩ ∧ w.cell? ⟨b, off + i, none⟩ = some (.string (nthS ss i)) := by
  obtain ⟨a', cap', he, _, _, _, g⟩ := h
  injection he with e1 e2 _
  subst e1
  exact g i (by omega)
theorem nthS_some {ss : List ByteArray} {i : Nat} {x : ByteArray} (h : ss[i]? = some x) : nthS ss i = x := by
  obtain ⟨hi, e⟩ := List.getElem?_eq_some_iff.1 h
  rw [nthS_eq hi, e]
theorem some_nthS {ss : List ByteArray} {i : Nat} (h : i < ss.length) : ss[i]? = some (nthS ss i) := by rw [nthS_eq h, List.getElem?_eq_getElem h]
theorem gs_name {F : List Ft} {names : List ByteArray} {R : List Rs} {m nn i kn : Nat} (hR : R = (resT F 0 (names.take m)).reverse) (hn : names.length = nn) (hm : m ≤ nn) (hi : i < R.length) (hk : kn + i + 1 = m) : nthS names kn = R[i].name := by
  have h1 : R.map (·.name) = (names.take m).reverse := by rw [hR, List.map_reverse, resT_names]
  have h2 : (R.map (·.name))[i]? = some R[i].name := by rw [List.getElem?_map, List.getElem?_eq_getElem hi]; rfl
  have hl : (names.take m).length = m := by rw [List.length_take]; omega
  rw [h1, List.getElem?_reverse (by omega), hl, List.getElem?_take, if_pos (by omega), show m - 1 - i = kn by omega] at h2
  exact nthS_some h2
theorem gs_nodup {F : List Ft} {names : List ByteArray} {R : List Rs} {m : Nat} (hR : R = (resT F 0 (names.take m)).reverse) (hn : names.Nodup) : (R.map (·.name)).Nodup := by
  rw [hR, List.map_reverse, resT_names]
  exact (List.reverse_perm _).symm.nodup (hn.sublist (List.take_sublist _ _))
theorem wrap_pred {m : Nat} (h : m ≤ 4) : wrap64 ((m : Int) - 1) = (m : Int) - 1 := IntWalk.wrap64_in _ (by omega)
theorem wrap_inc {m : Nat} (h : m ≤ 4) : wrap64 ((m : Int) + 1) = ((m + 1 : Nat) : Int) := by rw [IntWalk.wrap64_in _ (by omega)]; omega
theorem wrap_dec {m i : Nat} (h : i ≤ 4) (h2 : m ≤ 4) : wrap64 ((m : Int) - 1 - (i : Int) - 1) = (m : Int) - 1 - ((i + 1 : Nat) : Int) := by rw [IntWalk.wrap64_in _ (by omega)]; omega
theorem ng_le {a b m : Nat} (h : a + b = m) (h2 : m ≤ 4) : a ≤ 4 ∧ b ≤ 4 := by omega
theorem int_eq {a b : Int} (h : a = b) : Value.int .i64 a = .int .i64 b := by rw [h]
theorem drew_on {w wr : World} {n : Nat} (h : wr = w.drewN n) (m : Nat) : ∃ q, wr.drewN m = w.drewN q := ⟨n + m, by rw [h, World.drewN_drewN]⟩
theorem drew_on2 {w wr : World} {n : Nat} (h : wr = w.drewN n) (m k : Nat) : ∃ q, (wr.drewN m).drewN k = w.drewN q := ⟨n + (m + k), by rw [h, World.drewN_drewN, World.drewN_drewN]⟩
theorem FatesAt.at {w : World} {a : Option Addr} {n c : Nat} {fs : List Ft} (h : FatesAt w (.slice a n c) fs) (i : Nat) (hi : i < fs.length) : ∃ b off, a = some ⟨b, off, none⟩ ∧ ∀ j u, (fs[i].cells)[j]? = some u → w.cell? ⟨b, off + i * 3 + j, none⟩ = some u := by
  obtain ⟨a', cap', he, _, g⟩ := h
  injection he with e1 _ _
  subst e1
  exact g i hi
theorem wrap_sum {a b c : Nat} (h : a + b = c) (hc : c ≤ 4) : wrap64 ((a : Int) + (b : Int)) = (c : Int) ∧ IntKind.i64.wrap ((a : Int) + (b : Int)) = (c : Int) := ⟨by rw [IntWalk.wrap64_in _ (by omega)]; omega, by rw [IntKind.wrap_i64]; omega⟩
theorem meas_lt {r n k : Nat} (h : r = n - k) (h2 : k < n) : n - (k + 1) < r := by omega
set_option maxHeartbeats 32000000 in
set_option maxRecDepth 100000 in
theorem probeGives_walk {H : Type} {enc : TypeId × Value → H} (v1 : Value) (d1 : DataW H) (ps1 : List MemPlace) (v : Value) (d : DataW H) (ps : List MemPlace) (W : World)
    (h1 : DataW.Trod enc Try.prog W 0 (fun _ => true) true 50 v1 d1 ps1) {base1 : Nat} (hok1 : Value.okWide Try.prog W .any base1 50 v1) (hw1 : ∀ n ∈ DataW.weights Try.prog 50 d1, n ≤ reachBytes)
    (h : DataW.Trod enc Try.prog W 0 (fun _ => true) true 51 v d ps) {base : Nat} (hok : Value.okWide Try.prog W .any base 51 v) (hw : ∀ n ∈ DataW.weights Try.prog 51 d, n ≤ reachBytes) (hsh : W.ShapedOpen Try.prog) :
    Calls Try.prog 5 #[v1, v] W fun e w' => e = .returned (.bool true) ∧ Below W.heap.size W w' := by
  obtain ⟨fs0, hv, hsz, hF⟩ := fates_arg hok h hw
  obtain ⟨c, sl, hc, hs, hnn, ho, hz0⟩ := card_arg hok1 h1 hw1
  obtain ⟨xa, rfl, hz1⟩ := okWide_struct Try.underlying50 hok1
  obtain rfl := agg_cells22 hc
  have hn : c.comp.length ≤ 8796093022208 := by unfold reachBytes at hnn; omega
  clear hz0 hz1 hnn
  obtain ⟨n, f, l, ss, s, q, e⟩ := c
  simp only [Cd.cells]
  simp only at hs hn
  have HV := Lib.hid hv
  obtain ⟨av, cv, rfl, hcap, hz2⟩ := hv
  clear hz2
  have HS := Lib.hid hs
  have HSN := Lib.hid hn
  have HOK := Lib.hid ho
  have HF := Lib.hid hF
  have HSH := Lib.hid hsh
  obtain ⟨n0, hn0, hn1, hn2⟩ : ∃ n0 : Nat, min (fs0.length : Int) 64 = (n0 : Int) ∧ n0 ≤ fs0.length ∧ n0 ≤ 64 := ⟨min fs0.length 64, by omega, by omega, by omega⟩
  have hb0 : Below W.heap.size W (W.alloc (.cells #[.string n, .string f, .int .u8 l, sl, .int .i8 s, .string q, .int .i16 e] 50)) := (Below.refl _ W).alloc (Nat.le_refl _) _
  have hp0 := heap_alloc_new W (.cells #[.string n, .string f, .int .u8 l, sl, .int .i8 s, .string q, .int .i16 e] 50)
  have B0 := Lib.hid hb0
  have P0 := Lib.hid hp0
  have WA := Lib.hid (works_any hsh _ hb0)
  have hcap0 : n0 ≤ cv := by omega
  have HCAP := Lib.hid hcap0
  have HN1 := Lib.hid hn1
  have HN2 := Lib.hid hn2
  have HMIN := Lib.hid hn0
  clear h hok hw h1 hok1 hw1 hsh hsz hF hc hs hn ho hcap hb0 hp0 hn0 hn1 hn2 hcap0
  go_enter Try.func5, Try.ntmps5
  go_wp2_with fail
  refine WA.out.mono ?_
  rintro er w1 ⟨rfl, hb⟩
  have B1 := Lib.hid (B0.out.trans (hb.mono B0.out.size))
  have P1 := Lib.hid ((hb.block _ (Array.getElem?_eq_some_iff.1 P0.out).1).trans P0.out)
  clear hb WA B0 P0
  obtain ⟨pc, hpc⟩ : ∃ p, p = W.heap.size := ⟨_, rfl⟩
  have PCW : Hid (W.heap.size ≤ pc) := Lib.hid (by omega)
  rw [← hpc] at P1 ⊢
  clear hpc
  have e0 := (cell_of_row w1 pc 0 _ _ _ P1.out).trans (show (#[Value.string n, .string f, .int .u8 l, sl, .int .i8 s, .string q, .int .i16 e] : Array Value)[0]? = some (.string n) from rfl)
  have e1 := (cell_of_row w1 pc 1 _ _ _ P1.out).trans (show (#[Value.string n, .string f, .int .u8 l, sl, .int .i8 s, .string q, .int .i16 e] : Array Value)[1]? = some (.string f) from rfl)
  have e2 := (cell_of_row w1 pc 2 _ _ _ P1.out).trans (show (#[Value.string n, .string f, .int .u8 l, sl, .int .i8 s, .string q, .int .i16 e] : Array Value)[2]? = some (.int .u8 l) from rfl)
  have e3 := (cell_of_row w1 pc 3 _ _ _ P1.out).trans (show (#[Value.string n, .string f, .int .u8 l, sl, .int .i8 s, .string q, .int .i16 e] : Array Value)[3]? = some sl from rfl)
  have e4 := (cell_of_row w1 pc 4 _ _ _ P1.out).trans (show (#[Value.string n, .string f, .int .u8 l, sl, .int .i8 s, .string q, .int .i16 e] : Array Value)[4]? = some (.int .i8 s) from rfl)
  have e5 := (cell_of_row w1 pc 5 _ _ _ P1.out).trans (show (#[Value.string n, .string f, .int .u8 l, sl, .int .i8 s, .string q, .int .i16 e] : Array Value)[5]? = some (.string q) from rfl)
  have e6 := (cell_of_row w1 pc 6 _ _ _ P1.out).trans (show (#[Value.string n, .string f, .int .u8 l, sl, .int .i8 s, .string q, .int .i16 e] : Array Value)[6]? = some (.int .i16 e) from rfl)
  have CT := Lib.hid (twin_x n f q l s e ss sl w1 (HS.out.below B1.out) HSN.out)
  go_wp2_with fail
  refine CT.out.mono ?_
  rintro er w2 ⟨g, cap, rfl, hst, hb⟩
  have B2 := Lib.hid (B1.out.trans (hb.mono B1.out.size))
  have P2 := Lib.hid ((hb.block _ (Array.getElem?_eq_some_iff.1 P1.out).1).trans P1.out)
  have TW2 := Lib.hid hst
  have TH : Hid (w2.there pc 0 7) := Lib.hid (fun j hj => ⟨by
    rw [cell_of_row _ _ _ _ _ _ P2.out]
    exact Option.isSome_iff_exists.2 ⟨_, Array.getElem?_eq_getElem (by simp; omega)⟩, frozen_of_row _ _ _ _ _ P2.out⟩)
  have B1Z := Lib.hid B1.out.size
  clear hb hst CT B1 P1 e0 e1 e2 e3 e4 e5 e6
  go_wp2_with (refine wpList_store_all (by rfl) 50 (.tmp 2) (.tmp 19) (by rfl) pc 0 [.string n, .string f, .int .u8 l, .slice (some ⟨g, 0, none⟩) ss.length cap, .int .i8 s, .string q, .int .i16 e] (by kernel_rfl) (by kernel_rfl) TH.out (by kernel_rfl) (by simp [Value.oneCell']) ?_)
  intro W3 HW3
  have hh3 := heap_setCells_same [.string n, .string f, .int .u8 l, .slice (some ⟨g, 0, none⟩) ss.length cap, .int .i8 s, .string q, .int .i16 e] w2 0 _ P2.out
  rw [← HW3.out] at hh3
  have P3 : Hid (W3.heap[pc]? = some (.cells #[.string n, .string f, .int .u8 l, .slice (some ⟨g, 0, none⟩) ss.length cap, .int .i8 s, .string q, .int .i16 e] 50 (0, 0))) := Lib.hid hh3
  have B3 : Hid (Below W.heap.size W W3) := Lib.hid (by
    rw [HW3.out]
    exact B2.out.trans (below_lay PCW.out _ _ _))
  have r3 : Rel W.heap.size (fun _ o => ∃ C z, o = .cells C 50 z) w2 W3 := by
    rw [HW3.out]
    exact rel_lay PCW.out (fun C => ⟨C, _, rfl⟩) _ _ _ _ P2.out
  have TW3 := Lib.hid (own_base (own_rel TW2.out r3 (fun k C _ _ ho => by obtain ⟨C', z', h⟩ := ho; cases h)) B1Z.out)
  clear hh3 HW3 TH B2 P2 TW2 r3
  have hmin := HMIN.out
  have hcp := HCAP.out
  have CG := Lib.hid (given_any _ (fs0.take n0) W3 ((HV.out.below B3.out).take n0 HN1.out) (by rw [List.length_take]; have := HN2.out; omega))
  have HTL : Hid ((fs0.take n0).length = n0) := Lib.hid (by rw [List.length_take]; have := HN1.out; omega)
  go_upto_region 4 with fail
  go_cut [5] from 16 to 213 (fun v5 wx => ∃ (ai : Option Addr) (ci : Nat), v5 = .slice ai n0 ci ∧ Hid (∃ F1 : List Ft, F1.length = n0 ∧ (∀ f ∈ F1, f.ok) ∧ wx.ownsRow W.heap.size 67 3 (.slice ai n0 ci) n0 (fcs (halfM F1 0)) ∧ Below W.heap.size W wx ∧ wx.heap[pc]? = some (.cells #[.string n, .string f, .int .u8 l, .slice (some ⟨g, 0, none⟩) ss.length cap, .int .i8 s, .string q, .int .i16 e] 50 (0, 0)) ∧ wx.ownsRow W.heap.size 9 1 (.slice (some ⟨g, 0, none⟩) ss.length cap) ss.length (sc ss)))
  case first => as_aux_lemma => --ok
    go_wp2_with fail
    refine CG.out.mono ?_
    rintro er w4 ⟨vo, rfl, hown, hb⟩
    rw [HTL.out] at hown
    obtain ⟨F1, hF1⟩ : ∃ x, fs0.take n0 = x := ⟨_, rfl⟩
    have hfo : ∀ f ∈ F1, f.ok := fun f hf => by
      rw [← hF1] at hf
      obtain ⟨j, hj, rfl⟩ := List.getElem_of_mem (List.mem_of_mem_take hf)
      exact HF.out j hj
    rw [hF1] at hown HTL
    obtain ⟨ai, ci, rfl⟩ := own_slice hown
    have Q4 := Lib.hid (show ∃ F1 : List Ft, F1.length = n0 ∧ (∀ f ∈ F1, f.ok) ∧ w4.ownsRow W.heap.size 67 3 (.slice ai n0 ci) n0 (fcs (halfM F1 0)) ∧ Below W.heap.size W w4 ∧ w4.heap[pc]? = some (.cells #[.string n, .string f, .int .u8 l, .slice (some ⟨g, 0, none⟩) ss.length cap, .int .i8 s, .string q, .int .i16 e] 50 (0, 0)) ∧ w4.ownsRow W.heap.size 9 1 (.slice (some ⟨g, 0, none⟩) ss.length cap) ss.length (sc ss) from ⟨F1, HTL.out, hfo, by rw [halfM_zero]; exact own_base hown B3.out.size, B3.out.trans (hb.mono B3.out.size), (hb.block _ (Array.getElem?_eq_some_iff.1 P3.out).1).trans P3.out, own_below TW3.out hb⟩)
    clear hown hb hF1 hmin hcp CG B3 P3 TW3 HV HCAP HMIN HN1 HF HS hfo
    go_wp2_with fail
    go_meet
    exact ⟨ai, ci, rfl, Q4⟩
  case rest =>
  obtain ⟨ai, ci, rfl, hcut⟩ := hcut
  obtain ⟨F1, hTL, hFO, hQ⟩ := hcut.out
  have HTL := Lib.hid hTL
  have HFO := Lib.hid hFO
  have Q4 := Lib.hid hQ
  clear hTL hFO hQ hcut hmin hcp CG B3 P3 TW3 HV HCAP HMIN HN1 HF HS
  obtain ⟨w4, rfl⟩ : ∃ x : World, x = wc := ⟨_, rfl⟩
  go_wp2_with fail
  go_loopg [6] n0 (fun r vi wr => ∃ k : Nat, k ≤ n0 ∧ r = n0 - k ∧ vi = .int .i64 k ∧ Hid (wr.ownsRow W.heap.size 67 3 (.slice ai n0 ci) n0 (fcs (halfM F1 k)) ∧ Below W.heap.size W wr ∧ wr.heap[pc]? = some (.cells #[.string n, .string f, .int .u8 l, .slice (some ⟨g, 0, none⟩) ss.length cap, .int .i8 s, .string q, .int .i16 e] 50 (0, 0)) ∧ wr.ownsRow W.heap.size 9 1 (.slice (some ⟨g, 0, none⟩) ss.length cap) ss.length (sc ss)))
  case atStart => exact ⟨0, by omega, by omega, rfl, Q4⟩
  case round =>
    clear Q4
    obtain ⟨k, hk, hr, rfl, hq⟩ := hrel
    have HR := Lib.hid hr
    clear hr
    by_cases hlt : k < n0
    · as_aux_lemma => --ok
        have hlF : k < F1.length := by rw [HTL.out]; exact hlt
        obtain ⟨gi, ci', hform, hgB, hgl⟩ := hq.out.1.form (by omega)
        injection hform with e1 _ e3
        subst e1 e3
        obtain ⟨⟨st, how, back⟩, hft⟩ : ∃ x, F1[k]? = some x := ⟨_, List.getElem?_eq_getElem hlF⟩
        have hft' : F1[k] = ⟨st, how, back⟩ := by rw [List.getElem?_eq_getElem hlF] at hft; simpa using hft
        have gx : ∀ j (u : Value), (Ft.cells ⟨st, how, back⟩)[j]? = some u → wr.cell? ⟨gi, k * 3 + j, none⟩ = some u := fun j u hu => by
          have h3 := fcell_lt hu
          rw [hq.out.1.cellAt (k * 3 + j) (by omega)]
          refine fcs_at _ k (by rw [halfM_len]; exact hlF) j u ?_
          rw [halfM_at hlF, hft']
          exact hu
        have d1 : wr.cell? ⟨gi, k * 3 + 1, none⟩ = some (.int .u8 how) := gx 1 _ rfl
        have d2 : wr.cell? ⟨gi, k * 3 + 2, none⟩ = some (.int .u8 back) := gx 2 _ rfl
        have f1 : wr.frozen? ⟨gi, k * 3 + 1, none⟩ = false := hq.out.1.frozenAt _
        have f2 : wr.frozen? ⟨gi, k * 3 + 2, none⟩ = false := hq.out.1.frozenAt _
        have hki : (0 : Int) ≤ (k : Int) ∧ (k : Int) < (n0 : Int) := by omega
        have HQ := Lib.hid hq.out
        have HLT := Lib.hid hlt
        have HLF := Lib.hid hlF
        skip
        have HKK := Lib.hid hk
        obtain ⟨o1, o2, o3, o4⟩ : (0 ≤ how ∧ how ≤ 255 ∧ 0 ≤ back ∧ back ≤ 255) := HFO.out ⟨st, how, back⟩ (by rw [← hft']; exact List.getElem_mem _)
        have m1 : Int.tmod how 3 = how % 3 := Int.tmod_eq_emod_of_nonneg o1
        have m2 : Int.tmod back 3 = back % 3 := Int.tmod_eq_emod_of_nonneg o3
        have wk : wrap64 ((k : Int) + 1) = (k : Int) + 1 := IntWalk.wrap64_in _ (by have := HN2.out; omega)
        have HFT' := Lib.hid hft'
        have HGB := Lib.hid hgB
        clear gx hq hlt hft' hft hk hgB hgl o1 o2 o3 o4
        go_wp2_with fail
        have r5 : Rel W.heap.size (fun _ o => ∃ C z, o = .cells C 67 z) wr ((wr.setCell ⟨gi, k * 3 + 1, none⟩ (.int .u8 (how % 3))).setCell ⟨gi, k * 3 + 2, none⟩ (.int .u8 (back % 3))) := by
          obtain ⟨C, hC⟩ := own_type HQ.out.1 (g := gi) rfl
          exact (Rel.set (a := ⟨gi, k * 3 + 1, none⟩) HGB.out hC ⟨_, _, rfl⟩ _).trans (Rel.set (a := ⟨gi, k * 3 + 2, none⟩) HGB.out (heap_setCell_same _ _ _ _ _ _ hC) ⟨_, _, rfl⟩ _)
        have NX : Hid (((wr.setCell ⟨gi, k * 3 + 1, none⟩ (.int .u8 (how % 3))).setCell ⟨gi, k * 3 + 2, none⟩ (.int .u8 (back % 3))).ownsRow W.heap.size 67 3 (.slice (some ⟨gi, 0, none⟩) n0 ci) n0 (fcs (halfM F1 (k + 1))) ∧ Below W.heap.size W ((wr.setCell ⟨gi, k * 3 + 1, none⟩ (.int .u8 (how % 3))).setCell ⟨gi, k * 3 + 2, none⟩ (.int .u8 (back % 3))) ∧ ((wr.setCell ⟨gi, k * 3 + 1, none⟩ (.int .u8 (how % 3))).setCell ⟨gi, k * 3 + 2, none⟩ (.int .u8 (back % 3))).heap[pc]? = some (.cells #[.string n, .string f, .int .u8 l, .slice (some ⟨g, 0, none⟩) ss.length cap, .int .i8 s, .string q, .int .i16 e] 50 (0, 0)) ∧ ((wr.setCell ⟨gi, k * 3 + 1, none⟩ (.int .u8 (how % 3))).setCell ⟨gi, k * 3 + 2, none⟩ (.int .u8 (back % 3))).ownsRow W.heap.size 9 1 (.slice (some ⟨g, 0, none⟩) ss.length cap) ss.length (sc ss)) := Lib.hid (by
          have nof : ∀ (t : Nat) (_ : t ≠ 67) (C : Array Value) (z : Nat × Nat), ¬ (∃ C' z', Obj.cells C t z = .cells C' 67 z') := fun t ht C z ⟨C', z', h⟩ => by
            injection h with _ h2 _
            exact ht h2
          refine ⟨?_, r5.out HQ.out.2.1 HQ.out.2.1.size, r5.block HQ.out.2.2.1 (fun _ => nof _ (by decide) _ _), own_rel HQ.out.2.2.2 r5 (fun k C _ _ => nof _ (by decide) _ _)⟩
          have h1 := (((HQ.out.1.stored (k * 3 + 1) (.int .u8 (how % 3))).1).stored (k * 3 + 2) (.int .u8 (back % 3))).1
          rw [fcs_set (halfM F1 k) k (by rw [halfM_len]; exact HLF.out) (.int .i64 st) (.int .u8 (how % 3)) (.int .u8 (back % 3)) ⟨st, how % 3, back % 3⟩ rfl (by rw [halfM_at HLF.out, HFT'.out]; rfl)] at h1
          have e : (⟨st, how % 3, back % 3⟩ : Ft) = modF (F1[k]'HLF.out) := by rw [HFT'.out]; rfl
          rw [e, halfM_next HLF.out] at h1
          exact h1)
        clear r5 d1 d2 f1 f2
        go_roundg (n0 - (k + 1))
        case measure => exact meas_lt HR.out HLT.out
        case rel => exact ⟨k + 1, HLT.out, rfl, by first | rfl | (rw [wk]; rfl), NX⟩
    · obtain rfl : k = n0 := by omega
      obtain ⟨F, hFF⟩ : ∃ x, F1.map modF = x := ⟨_, rfl⟩
      have hfl : F.length = k := by rw [← hFF, List.length_map, HTL.out]
      have hrow : wr.ownsRow W.heap.size 67 3 (.slice ai k ci) k (fcs F) := by
        rw [← hFF, ← halfM_all, HTL.out]
        exact hq.out.1
      have mo := mods_ok HFO.out
      rw [hFF] at mo
      have FA : Hid (FatesAt wr (.slice ai k ci) F) := Lib.hid (by
        have h := hrow
        rw [← hfl] at h
        have h2 := fates_own h
        rw [hfl] at h2
        exact h2)
      have HFL := Lib.hid hfl
      have MO := Lib.hid mo
      have BW := Lib.hid hq.out.2.1
      have PC := Lib.hid hq.out.2.2.1
      have TW := Lib.hid (strs_own hq.out.2.2.2 (by have := HSN.out; unfold maxLen; omega))
      have e0 := (cell_of_row wr pc 0 _ _ _ PC.out).trans (show (#[Value.string n, .string f, .int .u8 l, .slice (some ⟨g, 0, none⟩) ss.length cap, .int .i8 s, .string q, .int .i16 e] : Array Value)[0]? = some (.string n) from rfl)
      have e1 := (cell_of_row wr pc 1 _ _ _ PC.out).trans (show (#[Value.string n, .string f, .int .u8 l, .slice (some ⟨g, 0, none⟩) ss.length cap, .int .i8 s, .string q, .int .i16 e] : Array Value)[1]? = some (.string f) from rfl)
      have e2 := (cell_of_row wr pc 2 _ _ _ PC.out).trans (show (#[Value.string n, .string f, .int .u8 l, .slice (some ⟨g, 0, none⟩) ss.length cap, .int .i8 s, .string q, .int .i16 e] : Array Value)[2]? = some (.int .u8 l) from rfl)
      have e3 := (cell_of_row wr pc 3 _ _ _ PC.out).trans (show (#[Value.string n, .string f, .int .u8 l, .slice (some ⟨g, 0, none⟩) ss.length cap, .int .i8 s, .string q, .int .i16 e] : Array Value)[3]? = some (.slice (some ⟨g, 0, none⟩) ss.length cap) from rfl)
      have e4 := (cell_of_row wr pc 4 _ _ _ PC.out).trans (show (#[Value.string n, .string f, .int .u8 l, .slice (some ⟨g, 0, none⟩) ss.length cap, .int .i8 s, .string q, .int .i16 e] : Array Value)[4]? = some (.int .i8 s) from rfl)
      have e5 := (cell_of_row wr pc 5 _ _ _ PC.out).trans (show (#[Value.string n, .string f, .int .u8 l, .slice (some ⟨g, 0, none⟩) ss.length cap, .int .i8 s, .string q, .int .i16 e] : Array Value)[5]? = some (.string q) from rfl)
      have e6 := (cell_of_row wr pc 6 _ _ _ PC.out).trans (show (#[Value.string n, .string f, .int .u8 l, .slice (some ⟨g, 0, none⟩) ss.length cap, .int .i8 s, .string q, .int .i16 e] : Array Value)[6]? = some (.int .i16 e) from rfl)
      clear hq hFF hfl hrow mo hk
      cases hm : mayB ⟨n, f, l, ss, s, q, e⟩ with
      | false => as_aux_lemma => --ok
        have PR := Lib.hid (probe_card n f q l s e ss _ (.slice ai k ci) wr TW.out HOK.out hm ⟨_, _, _, rfl⟩)
        clear hm
        go_wp2_with fail
        refine PR.out.mono ?_
        rintro er w5 ⟨rfl, hb⟩
        have B5 := Lib.hid (BW.out.trans (hb.mono BW.out.size))
        clear hb PR e0 e1 e2 e3 e4 e5 e6
        have TZ : Hid ((w5.alloc (.cells #[.bool false, .int .i64 0, .int .u8 0, .slice none 0 0, .slice none 0 0, .slice none 0 0] 56)).there w5.heap.size 0 6) := Lib.hid (fun j hj => ⟨by
          rw [cell_of_row _ _ _ _ _ _ (heap_alloc_new w5 (.cells #[.bool false, .int .i64 0, .int .u8 0, .slice none 0 0, .slice none 0 0, .slice none 0 0] 56))]
          exact Option.isSome_iff_exists.2 ⟨_, Array.getElem?_eq_getElem (by simp; omega)⟩, frozen_of_row _ _ _ _ _ (heap_alloc_new w5 (.cells #[.bool false, .int .i64 0, .int .u8 0, .slice none 0 0, .slice none 0 0, .slice none 0 0] 56))⟩)
        go_wp2_with (refine wpList_store_all (by rfl) 56 (.tmp 7) (.tmp 56) (by rfl) w5.heap.size 0 zo6 (by kernel_rfl) (by kernel_rfl) TZ.out (by kernel_rfl) (by simp [zo6, Value.oneCell']) ?_)
        intro W4 HW4
        have hh4 := heap_setCells_same zo6 _ 0 _ (heap_alloc_new w5 (.cells #[.bool false, .int .i64 0, .int .u8 0, .slice none 0 0, .slice none 0 0, .slice none 0 0] 56))
        rw [← HW4.out] at hh4
        have hb4 : Below w5.heap.size w5 W4 := by
          rw [HW4.out]
          exact ((Below.refl w5.heap.size w5).alloc (Nat.le_refl _) _).trans (below_lay (Nat.le_refl _) _ _ _)
        have B6 := Lib.hid (B5.out.trans (hb4.mono B5.out.size))
        obtain ⟨p7, hp7⟩ : ∃ p, p = w5.heap.size := ⟨_, rfl⟩
        rw [← hp7] at hh4 ⊢
        have v0 := (cell_of_row W4 p7 0 _ _ _ hh4).trans (show zo6.toArray[0]? = some (.bool false) from rfl)
        have v3 := (cell_of_row W4 p7 3 _ _ _ hh4).trans (show zo6.toArray[3]? = some (.slice none 0 0) from rfl)
        have v4 := (cell_of_row W4 p7 4 _ _ _ hh4).trans (show zo6.toArray[4]? = some (.slice none 0 0) from rfl)
        have v5 := (cell_of_row W4 p7 5 _ _ _ hh4).trans (show zo6.toArray[5]? = some (.slice none 0 0) from rfl)
        clear hh4 hb4 HW4 hp7 TZ
        go_wp2_with fail
        go_ret
        exact ⟨rfl, B6.out⟩
      | true =>
        have PR := Lib.hid (probe_ok HSH.out n f q l s e ss _ (.slice ai k ci) F wr BW.out TW.out HOK.out hm FA.out (by rw [HFL.out]; exact HN2.out) MO.out.1 MO.out.2)
        clear hm
        go_wp2_with fail
        refine PR.out.mono ?_
        rintro er w5 ⟨m, gd, at_, hw0, vd, vg, vs, far, rfl, hd, hgv, hst, hb⟩
        obtain ⟨names, hnm⟩ : ∃ x, stepsRun.stepsF f = x := ⟨_, rfl⟩
        have few := steps_few f
        have nod := steps_nodup f
        rw [hnm] at far hd hgv hst few nod
        obtain ⟨nn, hnn⟩ : ∃ x, names.length = x := ⟨_, rfl⟩
        rw [hnn] at far few
        have CSt := Lib.hid (fun (w' : World) (hb' : Below W.heap.size W w') => stepsRun.steps_any HSH.out f w' hb')
        rw [hnm, hnn] at CSt
        obtain ⟨R, hR⟩ : ∃ x, (if gd then [] else (resT F 0 (names.take m)).reverse) = x := ⟨_, rfl⟩
        rw [hR] at hgv hst
        obtain ⟨ng, hng⟩ : ∃ x, (namesR false R).length = x := ⟨_, rfl⟩
        obtain ⟨ns, hns⟩ : ∃ x, (namesR true R).length = x := ⟨_, rfl⟩
        have hmn : m ≤ nn := far.le
        have htk : (names.take m).length = m := tk_ _ _ (by rw [hnn]; exact hmn)
        have hRl : R.length ≤ 4 := by
          rw [← hR]
          split
          · simp
          · rw [List.length_reverse, resT_len, htk]; omega
        have GV := Lib.hid (strs_own (own_base hgv BW.out.size) (by have := namesR_le false R; unfold maxLen; omega))
        have SV := Lib.hid (strs_own (own_base hst BW.out.size) (by have := namesR_le true R; unfold maxLen; omega))
        have DN := Lib.hid (strs_own (zs := names.take m) (by rw [htk]; exact own_base hd BW.out.size) (by rw [htk]; unfold maxLen; omega))
        obtain ⟨ad, cd, rfl⟩ := own_slice hd
        rw [hng] at hgv
        rw [hns] at hst
        obtain ⟨ag, cg, rfl⟩ := own_slice hgv
        obtain ⟨az, cz, rfl⟩ := own_slice hst
        have FAR := Lib.hid far
        have FEW := Lib.hid few
        have NOD := Lib.hid nod
        have HNN := Lib.hid hnn
        have HR' := Lib.hid hR
        have HNG := Lib.hid hng
        have HNS := Lib.hid hns
        have B5 := Lib.hid (BW.out.trans (hb.mono BW.out.size))
        have FA5 := Lib.hid (FA.out.below hb)
        have PC5 := Lib.hid ((hb.block _ (Array.getElem?_eq_some_iff.1 PC.out).1).trans PC.out)
        clear hb PR e0 e1 e2 e3 e4 e5 e6 hd hgv hst far few nod hnn hR hng hns hnm hmn htk FA PC BW TW hRl
        have TZ : Hid ((w5.alloc (.cells #[.bool false, .int .i64 0, .int .u8 0, .slice none 0 0, .slice none 0 0, .slice none 0 0] 56)).there w5.heap.size 0 6) := Lib.hid (fun j hj => ⟨by
          rw [cell_of_row _ _ _ _ _ _ (heap_alloc_new w5 (.cells #[.bool false, .int .i64 0, .int .u8 0, .slice none 0 0, .slice none 0 0, .slice none 0 0] 56))]
          exact Option.isSome_iff_exists.2 ⟨_, Array.getElem?_eq_getElem (by simp; omega)⟩, frozen_of_row _ _ _ _ _ (heap_alloc_new w5 (.cells #[.bool false, .int .i64 0, .int .u8 0, .slice none 0 0, .slice none 0 0, .slice none 0 0] 56))⟩)
        go_wp2_with (refine wpList_store_all (by rfl) 56 (.tmp 7) (.tmp 56) (by rfl) w5.heap.size 0 [.bool gd, .int .i64 at_, .int .u8 hw0, .slice ad m cd, .slice ag ng cg, .slice az ns cz] (by kernel_rfl) (by kernel_rfl) TZ.out (by kernel_rfl) (by simp [Value.oneCell']) ?_)
        intro W4 HW4
        have hh4 := heap_setCells_same [.bool gd, .int .i64 at_, .int .u8 hw0, .slice ad m cd, .slice ag ng cg, .slice az ns cz] _ 0 _ (heap_alloc_new w5 (.cells #[.bool false, .int .i64 0, .int .u8 0, .slice none 0 0, .slice none 0 0, .slice none 0 0] 56))
        rw [← HW4.out] at hh4
        have hb4 : Below w5.heap.size w5 W4 := by
          rw [HW4.out]
          exact ((Below.refl w5.heap.size w5).alloc (Nat.le_refl _) _).trans (below_lay (Nat.le_refl _) _ _ _)
        have B6 := Lib.hid (B5.out.trans (hb4.mono B5.out.size))
        obtain ⟨p7, hp7⟩ : ∃ p, p = w5.heap.size := ⟨_, rfl⟩
        rw [← hp7] at hh4 ⊢
        have P7 := Lib.hid hh4
        have FA6 := Lib.hid (FA5.out.below hb4)
        have GV6 := Lib.hid (GV.out.below hb4)
        have SV6 := Lib.hid (SV.out.below hb4)
        have DN6 := Lib.hid (DN.out.below hb4)
        have e1 := (cell_of_row W4 pc 1 _ _ _ ((hb4.block _ (Array.getElem?_eq_some_iff.1 PC5.out).1).trans PC5.out)).trans (show (#[Value.string n, .string f, .int .u8 l, .slice (some ⟨g, 0, none⟩) ss.length cap, .int .i8 s, .string q, .int .i16 e] : Array Value)[1]? = some (.string f) from rfl)
        have CS2 := Lib.hid (CSt.out W4 B6.out)
        clear hh4 hb4 HW4 hp7 TZ FA5 GV SV DN PC5 B5 CSt
        go_upto_region 13 with fail
        go_cut [9] from 16 to 213 (fun v9 w6 => ∃ (aS : Option Addr) (cS : Nat), v9 = .slice aS nn cS ∧ Hid (Strs w6 (.slice aS nn cS) names ∧ w6.heap[p7]? = some (.cells [.bool gd, .int .i64 at_, .int .u8 hw0, .slice ad m cd, .slice ag ng cg, .slice az ns cz].toArray 56 (0, 0)) ∧ FatesAt w6 (.slice ai k ci) F ∧ Strs w6 (.slice ag ng cg) (namesR false R) ∧ Strs w6 (.slice az ns cz) (namesR true R) ∧ Strs w6 (.slice ad m cd) (names.take m) ∧ Below W.heap.size W w6))
        case first => as_aux_lemma => --ok
          go_wp2_with fail
          refine CS2.out.mono ?_
          rintro er w6 ⟨vS, rfl, hown, hb⟩
          have st := strs_own (zs := names) (by rw [HNN.out]; exact hown) (by rw [HNN.out]; have := FEW.out.2.1; unfold maxLen; omega)
          obtain ⟨aS, cS, rfl⟩ := own_slice hown
          have FIN := Lib.hid (And.intro st (And.intro ((hb.block _ (Array.getElem?_eq_some_iff.1 P7.out).1).trans P7.out) (And.intro (FA6.out.below hb) (And.intro (GV6.out.below hb) (And.intro (SV6.out.below hb) (And.intro (DN6.out.below hb) (B6.out.trans (hb.mono B6.out.size))))))))
          clear hb hown e1 P7 FA6 GV6 SV6 DN6 B6 CS2 st
          go_wp2_with fail
          go_meet
          exact ⟨aS, cS, rfl, FIN⟩
        case rest =>
        obtain ⟨aS, cS, rfl, hcut⟩ := hcut
        have ST := Lib.hid hcut.out.1
        have P76 := Lib.hid hcut.out.2.1
        have FA7 := Lib.hid hcut.out.2.2.1
        have GV7 := Lib.hid hcut.out.2.2.2.1
        have SV7 := Lib.hid hcut.out.2.2.2.2.1
        have DN7 := Lib.hid hcut.out.2.2.2.2.2.1
        have B7 := Lib.hid hcut.out.2.2.2.2.2.2
        clear hcut e1 P7 FA6 GV6 SV6 DN6 B6 CS2
        obtain ⟨w6, rfl⟩ : ∃ x : World, x = wc := ⟨_, rfl⟩
        have wn1 : wrap64 ((nn : Int) - 1) = (nn : Int) - 1 := IntWalk.wrap64_in _ (by have := FEW.out.2.1; omega)
        go_wp2_with fail
        go_loopg [10, 11] nn (fun r v10 v11 wr => ∃ (kk b : Int), -1 ≤ kk ∧ kk < nn ∧ r = (kk + 1).toNat ∧ v11 = .int .i64 kk ∧ v10 = .int .i64 b ∧ w6 = wr ∧ Hid (BadAt F nn kk b))
        case atStart => exact ⟨(nn : Int) - 1, -1, by omega, by omega, by omega, by rw [wn1], rfl, rfl, Lib.hid (.inl ⟨rfl, fun j h1 h2 => by omega⟩)⟩
        case round =>
          obtain ⟨kk, b, hk1, hk2, hr, rfl, rfl, rfl, hq⟩ := hrel
          have HRK := Lib.hid hr
          have HB := Lib.hid hq.out
          clear hr hq wn1
          by_cases hge : kk ≥ 0
          · as_aux_lemma => --ok
              obtain ⟨kn, rfl⟩ : ∃ kn : Nat, kk = kn := ⟨kk.toNat, by omega⟩
              have wk1 : wrap64 ((kn : Int) - 1) = (kn : Int) - 1 := IntWalk.wrap64_in _ (by have := FEW.out.2.1; omega)
              have HK2 := Lib.hid hk2
              clear hk1 hk2 hge
              go_wp2_with fail
              go_loopg [10, 12] k (fun r v10 v12 wr => ∃ i : Nat, i ≤ k ∧ r = k - i ∧ v12 = .int .i64 i ∧ v10 = .int .i64 b ∧ w6 = wr ∧ Hid (∀ j (hj : j < F.length), j < i → F[j].step ≠ kn))
              case atStart => exact ⟨0, by omega, by omega, rfl, rfl, rfl, Lib.hid (fun j hj h => by omega)⟩
              case round =>
                obtain ⟨i, hi, hri, rfl, rfl, rfl, hst⟩ := hrel
                have HRI := Lib.hid hri
                clear hri
                by_cases hlt : i < k
                · have hiF : i < F.length := by rw [HFL.out]; exact hlt
                  obtain ⟨bF, oF, rfl, g0⟩ := FA7.out.at i hiF
                  obtain ⟨⟨fst, how, back⟩, hft⟩ : ∃ x, F[i]? = some x := ⟨_, List.getElem?_eq_getElem hiF⟩
                  have hft' : F[i] = ⟨fst, how, back⟩ := by rw [List.getElem?_eq_getElem hiF] at hft; simpa using hft
                  rw [hft'] at g0
                  have d0 : w6.cell? ⟨bF, oF + i * 3, none⟩ = some (.int .i64 fst) := g0 0 _ rfl
                  have d1 : w6.cell? ⟨bF, oF + i * 3 + 1, none⟩ = some (.int .u8 how) := g0 1 _ rfl
                  have hix : (0 : Int) ≤ (i : Int) ∧ (i : Int) < (k : Int) := by omega
                  have wi : wrap64 ((i : Int) + 1) = (i : Int) + 1 := IntWalk.wrap64_in _ (by have := HN2.out; omega)
                  have HLT := Lib.hid hlt
                  have HFT := Lib.hid hft'
                  have HST := Lib.hid hst.out
                  have HIF := Lib.hid hiF
                  clear g0 hft hft' hlt hi hst
                  by_cases hs : fst = kn
                  · subst hs
                    have HOF : Hid (ofT F kn = ⟨kn, how, back⟩) := Lib.hid (by
                      rw [of_hit HIF.out (by rw [HFT.out]) (fun j hj => HST.out j (by have := HIF.out; omega) hj), HFT.out])
                    by_cases h0 : how = 0
                    · subst h0
                      go_wp2_with fail
                      go_roundg kn
                      case measure => rw [HRK.out]; omega
                      case rel => exact ⟨(kn : Int) - 1, b, by omega, by have := HK2.out; omega, by omega, by first | rfl | rw [wk1], rfl, rfl, Lib.hid (BadAt.none (by have h := HB.out; rwa [show (kn : Int) - 1 + 1 = kn by omega]) (fun j hj => by rw [show (j : Int) = kn by omega, HOF.out]))⟩
                    · go_wp2_with fail
                      go_roundg kn
                      case measure => rw [HRK.out]; omega
                      case rel => exact ⟨(kn : Int) - 1, kn, by omega, by have := HK2.out; omega, by omega, by first | rfl | rw [wk1], rfl, rfl, Lib.hid (BadAt.hit (by have := HK2.out; omega) (by rw [HOF.out]; exact h0))⟩
                  · go_wp2_with fail
                    go_roundg (k - (i + 1))
                    case measure => rw [HRI.out]; have := HLT.out; omega
                    case rel => exact ⟨i + 1, HLT.out, rfl, by first | rfl | (rw [wi]; rfl), rfl, rfl, Lib.hid (fun j hj h => by
                      by_cases e : j = i
                      · subst e
                        rw [HFT.out]
                        exact hs
                      · exact HST.out j hj (by omega))⟩
                · have hik : i = k := by omega
                  subst hik
                  have HOF : Hid (ofT F kn = ⟨0, 0, 0⟩) := Lib.hid (of_none (fun j hj => hst.out j hj (by rw [HFL.out] at hj; exact hj)))
                  have hx : ¬ (i : Int) < (i : Int) := by omega
                  clear hst hlt hi
                  go_wp2_with fail
                  go_roundg kn
                  case measure => rw [HRK.out]; omega
                  case rel => exact ⟨(kn : Int) - 1, b, by omega, by have := HK2.out; omega, by omega, by first | rfl | rw [wk1], rfl, rfl, Lib.hid (BadAt.none (by have h := HB.out; rwa [show (kn : Int) - 1 + 1 = kn by omega]) (fun j hj => by rw [show (j : Int) = kn by omega, HOF.out]))⟩
          · have hkk : kk = -1 := by omega
            subst hkk
            have hba : at_ = b := (HB.out.far FAR.out).symm
            subst hba
            have hx1 : ¬ ((-1 : Int) ≥ 0) := by omega
            have o0 := (cell_of_row w6 p7 0 _ _ _ P76.out).trans (show ([Value.bool gd, .int .i64 at_, .int .u8 hw0, .slice ad m cd, .slice ag ng cg, .slice az ns cz].toArray)[0]? = some (.bool gd) from rfl)
            have o1 := (cell_of_row w6 p7 1 _ _ _ P76.out).trans (show ([Value.bool gd, .int .i64 at_, .int .u8 hw0, .slice ad m cd, .slice ag ng cg, .slice az ns cz].toArray)[1]? = some (.int .i64 at_) from rfl)
            have o2 := (cell_of_row w6 p7 2 _ _ _ P76.out).trans (show ([Value.bool gd, .int .i64 at_, .int .u8 hw0, .slice ad m cd, .slice ag ng cg, .slice az ns cz].toArray)[2]? = some (.int .u8 hw0) from rfl)
            have o3 := (cell_of_row w6 p7 3 _ _ _ P76.out).trans (show ([Value.bool gd, .int .i64 at_, .int .u8 hw0, .slice ad m cd, .slice ag ng cg, .slice az ns cz].toArray)[3]? = some (.slice ad m cd) from rfl)
            have o4 := (cell_of_row w6 p7 4 _ _ _ P76.out).trans (show ([Value.bool gd, .int .i64 at_, .int .u8 hw0, .slice ad m cd, .slice ag ng cg, .slice az ns cz].toArray)[4]? = some (.slice ag ng cg) from rfl)
            have o5 := (cell_of_row w6 p7 5 _ _ _ P76.out).trans (show ([Value.bool gd, .int .i64 at_, .int .u8 hw0, .slice ad m cd, .slice ag ng cg, .slice az ns cz].toArray)[5]? = some (.slice az ns cz) from rfl)
            clear hk1 hk2 hge HB HRK
            cases gd with
            | true => as_aux_lemma => --ok
              obtain ⟨hm1, ha1, hh1⟩ := FAR.out.yes rfl
              have hm2 : nn = m := hm1.symm
              subst hm2 ha1 hh1
              have hR0 : R = [] := HR'.out.symm.trans rfl
              have hg0 : ng = 0 := by rw [← HNG.out, hR0]; rfl
              have hs0 : ns = 0 := by rw [← HNS.out, hR0]; rfl
              subst hg0 hs0
              have CS := stexts_any _ _ _ _ w6 DN7.out ST.out
              rw [decide_eq_true (List.take_of_length_le (by rw [HNN.out]; exact Nat.le_refl _))] at CS
              have CS := Lib.hid CS
              clear hm1 hR0
              go_wp2_with fail
              refine CS.out.mono ?_
              rintro er w7 ⟨rfl, n7, rfl⟩
              go_wp2_with fail
              go_ret
              exact ⟨rfl, below_drewN B7.out _⟩
            | false =>
              obtain ⟨hm1, ha1, hh1, hh2⟩ := FAR.out.no rfl
              subst ha1
              have hR0 : R = (resT F 0 (names.take m)).reverse := HR'.out.symm.trans rfl
              have hRl : R.length = m := by rw [hR0, List.length_reverse, resT_len, List.length_take, HNN.out]; omega
              have hsum : ng + ns = m := by rw [← HNG.out, ← HNS.out, namesR_two, hRl]
              have hnl : ¬ ((m : Int) < 0) := by omega
              have hm4 : m < nn ∧ m ≤ 4 := ⟨hm1, by have := FEW.out.2.1; omega⟩
              have hcS : nn ≤ cS := by
                obtain ⟨aS', cS', heS, hz3, hcS, _⟩ := ST.out
                clear hz3
                rw [HNN.out] at heS hcS
                injection heS with e1 _ e3
                rw [e3]
                exact hcS
              have SS := Tx.Strs.take ST.out m (Nat.le_of_lt hm4.1)
              have CS := Lib.hid (stexts_yes DN7.out SS)
              have HM4 := Lib.hid hm4
              clear hm4
              have HSUM := Lib.hid hsum
              have HRL := Lib.hid hRl
              have HR0 := Lib.hid hR0
              have hms : (0 : Int) ≤ (m : Int) ∧ (m : Int) ≤ (cS : Int) := by have := HM4.out; omega
              obtain ⟨ws, ws2⟩ := wrap_sum hsum HM4.out.2
              clear hR0 hRl hsum hm1 hh1 hh2 SS hcS
              go_upto_region 28 with fail
              go_quiet ((go_at_call 10; exact Calls.quiet_of (CS.out _)))
              have wm1 : wrap64 ((m : Int) - 1) = (m : Int) - 1 := wrap_pred HM4.out.2
              clear CS o0 o1 o2 o3 ws ws2 hnl hms
              go_wp2_with fail
              go_loopg [13, 14, 15] m (fun r v13 v14 v15 wr => ∃ i gi si : Nat, i ≤ m ∧ r = m - i ∧ v13 = .int .i64 gi ∧ v14 = .int .i64 si ∧ v15 = .int .i64 ((m : Int) - 1 - i) ∧ Hid (gi = (namesR false (R.take i)).length ∧ si = (namesR true (R.take i)).length) ∧ Hid (∃ nq, wr = w6.drewN nq))
              case atStart => exact ⟨0, 0, 0, by omega, by omega, rfl, rfl, by first | exact int_eq (by omega) | simp, Lib.hid ⟨rfl, rfl⟩, Lib.hid ⟨_, rfl⟩⟩
              case round =>
                clear wm1
                obtain ⟨i, gi, si, hi, hr, rfl, rfl, rfl, hg, hw⟩ := hrel
                have HRJ := Lib.hid hr
                obtain ⟨nq, hwr⟩ := hw.out
                have HWR := Lib.hid hwr
                clear hr hw
                by_cases hlt : i < m
                · have hiR : i < R.length := by rw [HRL.out]; exact hlt
                  obtain ⟨kn, hkn⟩ : ∃ kn : Nat, (m : Int) - 1 - (i : Int) = (kn : Int) := ⟨m - 1 - i, by omega⟩
                  have hkn2 : kn < nn := by have := HM4.out.1; omega
                  have hnm := gs_name HR0.out HNN.out (Nat.le_of_lt HM4.out.1) hiR (by omega : kn + i + 1 = m)
                  have hprev : wrap64 ((kn : Int) - 1) = (m : Int) - 1 - ((i + 1 : Nat) : Int) := by rw [← hkn]; exact wrap_dec (Nat.le_trans (Nat.le_of_lt hlt) HM4.out.2) HM4.out.2
                  obtain ⟨bs, os, hbs, ds⟩ := strs_at ST.out kn hkn2
                  subst hbs
                  have ds' : wr.cell? ⟨bs, os + kn, none⟩ = some (.string (nthS names kn)) := by rw [hwr]; exact ds
                  obtain ⟨nmi, hnmi⟩ : ∃ x, (R[i]'hiR).name = x := ⟨_, rfl⟩
                  rw [hnm, hnmi] at ds'
                  have p4 : wr.cell? ⟨p7, 4, none⟩ = some (.slice ag ng cg) := by rw [hwr]; exact o4
                  have p5 : wr.cell? ⟨p7, 5, none⟩ = some (.slice az ns cz) := by rw [hwr]; exact o5
                  have hki : (0 : Int) ≤ (kn : Int) ∧ (kn : Int) < (nn : Int) := ⟨by omega, by omega⟩
                  rw [hkn]
                  have HG := Lib.hid hg.out
                  have HLT := Lib.hid hlt
                  have HIR := Lib.hid hiR
                  have HNMI := Lib.hid hnmi
                  have HNMK := Lib.hid hnm
                  clear hg hlt hi hnmi hnm hkn hkn2 ds hwr o4 o5
                  cases hst : stuckR (R[i]'hiR) with
                  | false =>
                    have hhit := gs_hit HIR.out hst
                    rw [← HG.out.1, HNMI.out] at hhit
                    have hglt : gi < ng := by rw [← HNG.out]; exact (List.getElem?_eq_some_iff.1 hhit).1
                    obtain ⟨bg, og, hbg, dg⟩ := strs_at GV7.out gi hglt
                    subst hbg
                    have dg' : wr.cell? ⟨bg, og + gi, none⟩ = some (.string nmi) := by rw [HWR.out, ← nthS_some hhit]; exact dg
                    have hgi : (0 : Int) ≤ (gi : Int) ∧ (gi : Int) < (ng : Int) := ⟨by omega, by omega⟩
                    have hgd : decide ((gi : Int) < (ng : Int)) = true := decide_eq_true hgi.2
                    have ee := Tx.beq_yes (rfl : nmi = nmi)
                    have wg : wrap64 ((gi : Int) + 1) = ((gi + 1 : Nat) : Int) := wrap_inc (Nat.le_trans (Nat.le_of_lt hglt) (ng_le HSUM.out HM4.out.2).1)
                    have NG : Hid (gi + 1 = (namesR false (R.take (i + 1))).length ∧ si = (namesR true (R.take (i + 1))).length) := Lib.hid (by
                      rw [namesR_take false R i HIR.out, namesR_take true R i HIR.out, hst, if_pos rfl, if_neg (by decide), List.length_append, ← HG.out.1, ← HG.out.2]
                      exact ⟨rfl, rfl⟩)
                    clear hhit hglt dg hst
                    go_wp2_with fail
                    go_quiet (fail)
                    go_wp2_with fail
                    go_roundg (m - (i + 1))
                    case measure => exact meas_lt HRJ.out HLT.out
                    case rel => exact ⟨i + 1, gi + 1, si, HLT.out, rfl, int_eq wg, rfl, int_eq hprev, NG, Lib.hid (drew_on HWR.out _)⟩
                  | true =>
                    have hhit := gs_hit HIR.out hst
                    rw [← HG.out.2, HNMI.out] at hhit
                    have hslt : si < ns := by rw [← HNS.out]; exact (List.getElem?_eq_some_iff.1 hhit).1
                    obtain ⟨bz, oz, hbz, dz⟩ := strs_at SV7.out si hslt
                    subst hbz
                    have dz' : wr.cell? ⟨bz, oz + si, none⟩ = some (.string nmi) := by rw [HWR.out, ← nthS_some hhit]; exact dz
                    have hsi : (0 : Int) ≤ (si : Int) ∧ (si : Int) < (ns : Int) := ⟨by omega, by omega⟩
                    have hsd : decide ((si : Int) < (ns : Int)) = true := decide_eq_true hsi.2
                    have ee := Tx.beq_yes (rfl : nmi = nmi)
                    have wg : wrap64 ((si : Int) + 1) = ((si + 1 : Nat) : Int) := wrap_inc (Nat.le_trans (Nat.le_of_lt hslt) (ng_le HSUM.out HM4.out.2).2)
                    have NG : Hid (gi = (namesR false (R.take (i + 1))).length ∧ si + 1 = (namesR true (R.take (i + 1))).length) := Lib.hid (by
                      rw [namesR_take false R i HIR.out, namesR_take true R i HIR.out, hst, if_neg (by decide), if_pos rfl, List.length_append, ← HG.out.1, ← HG.out.2]
                      exact ⟨rfl, rfl⟩)
                    have hmiss := gs_miss HIR.out (st := false) (by rw [hst]; decide) (gs_nodup HR0.out NOD.out)
                    rw [← HG.out.1, HNMI.out] at hmiss
                    clear hhit hslt dz hst
                    by_cases hglt : gi < ng
                    · obtain ⟨bg, og, hbg, dg⟩ := strs_at GV7.out gi hglt
                      subst hbg
                      obtain ⟨y, hy⟩ : ∃ y, nthS (namesR false R) gi = y := ⟨_, rfl⟩
                      have dg' : wr.cell? ⟨bg, og + gi, none⟩ = some (.string y) := by rw [HWR.out, ← hy]; exact dg
                      have hne := Tx.beq_no (hmiss y (by rw [← hy]; exact some_nthS (by rw [HNG.out]; exact hglt)))
                      have hgi : (0 : Int) ≤ (gi : Int) ∧ (gi : Int) < (ng : Int) := ⟨by omega, by omega⟩
                      have hgd : decide ((gi : Int) < (ng : Int)) = true := decide_eq_true hgi.2
                      clear hmiss hglt dg hy
                      go_wp2_with fail
                      go_quiet (fail)
                      go_wp2_with fail
                      go_quiet (fail)
                      go_wp2_with fail
                      go_roundg (m - (i + 1))
                      case measure => exact meas_lt HRJ.out HLT.out
                      case rel => exact ⟨i + 1, gi, si + 1, HLT.out, rfl, rfl, int_eq wg, int_eq hprev, NG, Lib.hid (drew_on HWR.out _)⟩
                    · have hgd : decide ((gi : Int) < (ng : Int)) = false := decide_eq_false (by omega)
                      have hge : decide (gi < ng) = false := decide_eq_false hglt
                      have hgf : ¬ ((gi : Int) < (ng : Int)) := by omega
                      clear hmiss hglt
                      go_wp2_with fail
                      go_quiet (fail)
                      go_wp2_with fail
                      go_quiet (fail)
                      go_wp2_with fail
                      go_roundg (m - (i + 1))
                      case measure => exact meas_lt HRJ.out HLT.out
                      case rel => exact ⟨i + 1, gi, si + 1, HLT.out, rfl, rfl, int_eq wg, int_eq hprev, NG, Lib.hid (drew_on HWR.out _)⟩
                · have him : i = m := by omega
                  subst him
                  have hx : ¬ ((i : Int) - 1 - (i : Int) ≥ 0) := by omega
                  clear hg hlt hi hwr
                  go_wp2_with fail
                  go_ret
                  refine ⟨rfl, ?_⟩
                  rw [HWR.out]
                  exact below_drewN B7.out _
end Go.Proofs.Ytnajbogmhhlpcaa
