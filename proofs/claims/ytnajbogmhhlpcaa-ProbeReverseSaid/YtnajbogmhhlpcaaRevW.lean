/- ProbeReverse answers true. -/
import Derived.Test.YtnajbogmhhlpcaaRevS
import Derived.Test.YtnajbogmhhlpcaaWorksC
import Derived.Deep.AppendLies
import Derived.Deep.CutRange
import Derived.Outline
import Derived.OpenShut
namespace Go.Proofs.Ytnajbogmhhlpcaa
open Go.RowKit Go.ChangeShapes Go.WideShapes Go.Maps
theorem wrapI {k : Nat} (h : k ≤ 60000) : wrap64 ((k : Int) + 1) = (k : Int) + 1 := IntWalk.wrap64_in _ (by omega)
theorem wf_ok {x : Int} (h1 : -9223372036854775808 ≤ x) (h2 : x ≤ 9223372036854775807) : (Lit.int .i64 x).wf = true := by
  have m1 : IntKind.i64.min = -9223372036854775808 := rfl
  have m2 : IntKind.i64.max = 9223372036854775807 := rfl
  simp only [Lit.wf, m1, m2, Bool.and_eq_true, decide_eq_true_eq]
  omega
theorem idxR {i nn : Nat} (h : i + 1 < nn) (hn : nn ≤ 256) : (0 : Int) ≤ (i : Int) ∧ (i : Int) < (nn : Int) ∧ (0 : Int) ≤ (i : Int) + 1 ∧ (i : Int) + 1 < (nn : Int) ∧ wrap64 (i : Int) = (i : Int) ∧ IntKind.i64.wrap (i : Int) = (i : Int) ∧ wrap64 ((i : Int) + 1 + 1) = (i : Int) + 1 + 1 ∧ ((i : Int) + 1).toNat = i + 1 :=
  ⟨by omega, by omega, by omega, by omega, IntWalk.wrap64_in _ (by omega), by rw [IntKind.wrap_i64]; omega, IntWalk.wrap64_in _ (by omega), by omega⟩
theorem drewR {w wr : World} (h : ∃ m, wr = w.drewN m) (n : Nat) : ∃ m, wr.drewN n = w.drewN m := by
  obtain ⟨m, e⟩ := h
  exact ⟨m + n, by rw [e, World.drewN_drewN]⟩
theorem ltR {a b : Int} (h : b < a) : ¬ a ≤ b := Int.not_le.2 h
theorem rowAtR {w : World} {B g c nn : Nat} {l : List Int} (h : w.ownsRow B 3 1 (.slice (some ⟨g, 0, none⟩) nn c) nn (ic l)) (hn : l.length = nn) (hf : l.Pairwise (· > ·)) {i : Nat} (hi : i + 1 < nn) : ∃ y0 y1 : Int, w.cell? ⟨g, i, none⟩ = some (.int .i64 y0) ∧ w.cell? ⟨g, i + 1, none⟩ = some (.int .i64 y1) ∧ ¬ y0 ≤ y1 := by
  have h1 := falls_at hf (j := i + 1) (by omega) (by omega)
  simp only [Nat.add_sub_cancel] at h1
  refine ⟨l[i]'(by omega), l[i + 1]'(by omega), ?_, ?_, Int.not_le.2 h1⟩
  · rw [h.cellAt i (by omega)]
    exact ic_at _
  · rw [h.cellAt (i + 1) (by omega)]
    exact ic_at _
theorem formR {w : World} {B c nn : Nat} {a : Option Addr} {xs : List Value} (h : w.ownsRow B 3 1 (.slice a nn c) nn xs) (hn : 0 < nn) : ∃ g, a = some ⟨g, 0, none⟩ := by
  obtain ⟨g, c', e, _⟩ := h.form hn
  injection e with e _ _
  exact ⟨g, e⟩
theorem geR {i nn : Nat} (h : ¬ i + 1 < nn) : ¬ ((i : Int) + 1 < (nn : Int)) := by omega
theorem measR {r n k : Nat} (h : r = n - k) (h2 : k < n) : n - (k + 1) < r := by omega
theorem there1 {w : World} {p t : Nat} {a0 : Value} (h : w.heap[p]? = some (.cells #[a0] t (0, 0))) : w.cell? ⟨p, 0, none⟩ = some a0 ∧ w.frozen? ⟨p, 0, none⟩ = false := ⟨(cell_of_row w p 0 _ _ _ h).trans rfl, frozen_of_row _ _ _ _ _ h⟩
theorem lookup_K {w : World} {m5 k : Nat} {K : List Int} (h : KpAt w m5 k K) (x : Int) (hx : (Lit.int .i64 x).wf = true) : (Instr.lookup 73 (.map (some m5)) (.int .i64 x) false).run Try.prog w = .ok (.bool (decide (x ∈ K))) w := by
  obtain ⟨D, n, h1, _, h3⟩ := h
  obtain ⟨c, hrun, hat⟩ := lookup_bool h1 lawI Try.underlying73 Try.underlying4 (zeroB _) (keyI hx)
  rw [h3 x] at hat
  simp only [DataW.lit.injEq, Lit.bool.injEq] at hat
  rw [hat]
  exact hrun
theorem lookup_A {w : World} {p4 m4 p6 N0 : Nat} {A now : List Int} (h : RevI w p4 m4 p6 N0 A now) (x : Int) (hx : (Lit.int .i64 x).wf = true) : (Instr.lookup 72 (.map (some m4)) (.int .i64 x) false).run Try.prog w = .ok (.int .i64 (A.count x : Nat)) w := by
  obtain ⟨D, n, h1, _, h3⟩ := h.mp
  obtain ⟨c, hrun, hat, _⟩ := h1.lookup_int lawI Try.underlying72 Try.underlying3 (zeroI _) (keyI hx)
  rw [h3 x] at hat
  simp only [DataW.lit.injEq, Lit.int.injEq, true_and] at hat
  rw [hat]
  exact hrun
set_option maxHeartbeats 16000000 in
set_option maxRecDepth 100000 in
theorem probeReverse_walk {H : Type} {enc : TypeId × Value → H} (v : Value) (d : DataW H) (ps : List MemPlace) (W : World)
    (h : DataW.Trod enc Try.prog W 0 (fun _ => true) true 22 v d ps) {base : Nat} (hok : Value.okWide Try.prog W .any base 22 v) (hw : ∀ n ∈ DataW.weights Try.prog 22 d, n ≤ reachBytes) (hsh : W.ShapedOpen Try.prog) :
    Calls Try.prog 6 #[v] W fun e w' => e = .returned (.bool true) ∧ Below W.heap.size W w' := by
  have hmf : ∀ (fn : Fn) (first cap : Array Value) (w : World), (Instr.makeFunc fn first cap).run Try.prog w = .ok (.func fn first cap) w := fun _ _ _ _ => rfl
  have hmm := @run_makeMap Try.prog
  obtain ⟨ts, hv, hsz, hTo⟩ := sts_arg hok h hw
  have HV := Lib.hid hv
  have HTO := Lib.hid hTo
  obtain ⟨av, cv, rfl, hzz⟩ := hv
  clear hzz
  have L1 : Hid (ts.length ≤ 140737488355328) := Lib.hid (by unfold reachBytes at hsz; omega)
  have WA := Lib.hid (works_any hsh W (Below.refl _ W))
  obtain ⟨nt, hnt⟩ : ∃ n, ts.length = n := ⟨_, rfl⟩
  have HNT := Lib.hid hnt
  rw [hnt]
  clear h hok hw hsh hsz hTo hnt
  go_enter Try.func6, Try.ntmps6
  go_wp2_with fail
  refine WA.out.mono ?_
  rintro er w1 ⟨rfl, hb⟩
  have B1 := Lib.hid hb
  clear hb WA
  go_wp2_with fail
  refine (bnew_any w1).mono ?_
  rintro er w2 ⟨rfl, hw2⟩
  have ba := (Below.refl w1.heap.size w1).alloc (Nat.le_refl _) (.cells #[.slice none 0 0, .int .i64 0, .bool false, .bool false] 86)
  have BG : Hid (BagAt w2 W.heap.size w1.heap.size [] 0 false false) := Lib.hid (by rw [hw2]; exact bag_new w1 _ B1.out.size)
  rw [← hw2] at ba
  have B2 := Lib.hid (B1.out.trans (ba.mono B1.out.size))
  obtain ⟨b, hbb⟩ : ∃ p, p = w1.heap.size := ⟨_, rfl⟩
  rw [← hbb] at BG ⊢
  clear ba hw2 hbb B1
  go_upto_region 9 with fail
  have R0 := Lib.hid (RV.begin B2.out BG.out rfl)
  obtain ⟨w3, hw3⟩ : ∃ x, x = (((w2.alloc (.map #[] 0)).alloc (.cells #[.map (some w2.heap.size)] 72)).alloc (.map #[] 0)).alloc (.cells #[.slice none 0 0] 30) := ⟨_, rfl⟩
  rw [← hw3] at R0 ⊢
  obtain ⟨p6, hp6⟩ : ∃ p, p = w2.heap.size + 1 + 1 + 1 := ⟨_, rfl⟩
  rw [← hp6] at R0 ⊢
  obtain ⟨m5, hm5⟩ : ∃ p, p = w2.heap.size + 1 + 1 := ⟨_, rfl⟩
  rw [← hm5] at R0 ⊢
  obtain ⟨p4, hp4⟩ : ∃ p, p = w2.heap.size + 1 := ⟨_, rfl⟩
  rw [← hp4] at R0 ⊢
  obtain ⟨m4, hm4⟩ : ∃ p, p = w2.heap.size := ⟨_, rfl⟩
  rw [← hm4] at R0 ⊢
  have H5 : Hid (W.heap.size ≤ m5) := Lib.hid (by rw [hm5]; have := B2.out.size; omega)
  clear hw3 hp6 hm5 hp4 hm4 BG B2
  go_upto_block 0 with fail
  go_cut [7] from 8 to 102 (fun v7 wx => Hid (∃ L A K al last N0 now, RV W b p4 m4 m5 p6 v7 L A K al last 200 N0 now wx))
  case first => as_aux_lemma => --ok
    go_wp2_with fail
    go_loopg [7, 8] nt (fun r v7 vi wr => ∃ k : Nat, k ≤ nt ∧ k ≤ 200 ∧ r = nt - k ∧ vi = .int .i64 k ∧ Hid (∃ L A K al last N0 now, RV W b p4 m4 m5 p6 v7 L A K al last k N0 now wr))
    case atStart => exact ⟨0, by omega, by omega, by omega, rfl, Lib.hid ⟨_, _, _, _, _, _, _, R0.out⟩⟩
    case round =>
      clear R0
      obtain ⟨k, hk, hk1, hr, rfl, hq⟩ := hrel
      have HR := Lib.hid hr
      clear hr
      by_cases hgo : k < nt ∧ k < 200
      · obtain ⟨hlt, hlt1⟩ := hgo
        obtain ⟨L, A, K, al, last, N0, now, hv⟩ := hq.out
        have RV0 := Lib.hid hv
        obtain ⟨av', cv', ev, _, hst⟩ := HV.out.below hv.bx
        cases ev
        obtain ⟨bs, off, rfl, gx⟩ := hst k (by rw [HNT.out]; exact hlt)
        clear hst hv hq
        obtain ⟨t, ht⟩ : ∃ t, ts[k]'(by rw [HNT.out]; exact hlt) = t := ⟨_, rfl⟩
        have HOK : Hid t.ok := Lib.hid (by rw [← ht]; exact HTO.out k _)
        simp only [ht] at gx
        obtain ⟨kind, name, code, pan, word, id⟩ := t
        have d0 : wr.cell? ⟨bs, off + k * 6, none⟩ = some (.int .i64 kind) := gx 0 _ rfl
        have d1 : wr.cell? ⟨bs, off + k * 6 + 1, none⟩ = some (.string name) := gx 1 _ rfl
        have d2 : wr.cell? ⟨bs, off + k * 6 + 2, none⟩ = some (.int .i64 code) := gx 2 _ rfl
        have d3 : wr.cell? ⟨bs, off + k * 6 + 3, none⟩ = some (.int .i64 pan) := gx 3 _ rfl
        have d4 : wr.cell? ⟨bs, off + k * 6 + 4, none⟩ = some (.string word) := gx 4 _ rfl
        have d5 : wr.cell? ⟨bs, off + k * 6 + 5, none⟩ = some (.int .i64 id) := gx 5 _ rfl
        clear gx ht
        have hkc1 : (0 : Int) ≤ (k : Int) := Int.natCast_nonneg k
        have hkc2 : (k : Int) < (nt : Int) := Int.ofNat_lt.2 hlt
        have hkc3 : (k : Int) < 200 := by omega
        have HLT := Lib.hid hlt
        have HLT1 := Lib.hid hlt1
        clear hlt hlt1 hk hk1
        have TH : Hid ((wr.alloc (.cells #[.int .i64 0, .string ⟨#[]⟩, .int .i64 0, .int .i64 0, .string ⟨#[]⟩, .int .i64 0] 36)).there wr.heap.size 0 6) := Lib.hid (fun j hj => ⟨by
          rw [cell_of_row _ _ _ _ _ _ (heap_alloc_new wr (.cells #[.int .i64 0, .string ⟨#[]⟩, .int .i64 0, .int .i64 0, .string ⟨#[]⟩, .int .i64 0] 36))]
          exact Option.isSome_iff_exists.2 ⟨_, Array.getElem?_eq_getElem (by simp; omega)⟩, frozen_of_row _ _ _ _ _ (heap_alloc_new wr (.cells #[.int .i64 0, .string ⟨#[]⟩, .int .i64 0, .int .i64 0, .string ⟨#[]⟩, .int .i64 0] 36))⟩)
        go_wp2_with (refine wpList_store_all (by rfl) 36 (.tmp 9) (.tmp 40) (by rfl) wr.heap.size 0 [.int .i64 kind, .string name, .int .i64 code, .int .i64 pan, .string word, .int .i64 id] (by kernel_rfl) (by kernel_rfl) TH.out (by kernel_rfl) (by simp [Value.oneCell']) ?_)
        intro W5 HW5
        have hh5 := heap_setCells_same [.int .i64 kind, .string name, .int .i64 code, .int .i64 pan, .string word, .int .i64 id] _ 0 _ (heap_alloc_new wr (.cells #[.int .i64 0, .string ⟨#[]⟩, .int .i64 0, .int .i64 0, .string ⟨#[]⟩, .int .i64 0] 36))
        rw [← HW5.out] at hh5
        have hb5 : Below wr.heap.size wr W5 := by
          rw [HW5.out]
          exact ((Below.refl wr.heap.size wr).alloc (Nat.le_refl _) _).trans (below_lay (Nat.le_refl _) _ _ _)
        obtain ⟨p9, hp9⟩ : ∃ p, p = wr.heap.size := ⟨_, rfl⟩
        have R5 := Lib.hid (RV0.out.below hb5)
        obtain ⟨v6, h6, _⟩ := R5.out.rev.b6
        obtain ⟨e6, f6⟩ := there1 h6
        have R6 := Lib.hid R5.out.clear
        have SX0 : Hid ((W5.setCell ⟨p6, 0, none⟩ (.slice none 0 0)).heap[p9]? = some (.cells (St.cells ⟨kind, name, code, pan, word, id⟩).toArray 36 (0, 0))) := Lib.hid (by rw [hp9]; exact apartR hh5 h6 (by decide) _)
        rw [← hp9]
        clear hh5 hb5 hp9 HW5 TH d0 d1 d2 d3 d4 d5 RV0 h6 R5
        go_upto_region 15 with fail
        obtain ⟨wq, hwq⟩ : ∃ x, x = W5.setCell ⟨p6, 0, none⟩ (.slice none 0 0) := ⟨_, rfl⟩
        rw [← hwq] at R6 SX0 ⊢
        clear hwq e6 f6
        have e0 := (cell_of_row wq p9 0 _ _ _ SX0.out).trans (show (St.cells ⟨kind, name, code, pan, word, id⟩).toArray[0]? = some (.int .i64 kind) from rfl)
        have e1 := (cell_of_row wq p9 1 _ _ _ SX0.out).trans (show (St.cells ⟨kind, name, code, pan, word, id⟩).toArray[1]? = some (.string name) from rfl)
        have e5 := (cell_of_row wq p9 5 _ _ _ SX0.out).trans (show (St.cells ⟨kind, name, code, pan, word, id⟩).toArray[5]? = some (.int .i64 id) from rfl)
        go_upto_block 2 with fail
        go_cut [7, 10, 11, 12] from 43 to 86 (fun v7 v10 v11 v12 wx => Hid (∃ L A K al last now N0, RV W b p4 m4 m5 p6 v7 L A K al last (k + 1) N0 now wx ∧ now.Pairwise (· > ·) ∧ now.length ≤ 256))
        case first => as_aux_lemma => --ok
          have hk2 : k ≤ 200 := Nat.le_of_lt HLT1.out
          have hlen : L.length ≤ 256 := Nat.le_trans R6.out.len (by omega)
          have hlen2 : L.length < 256 := Nat.lt_of_le_of_lt R6.out.len (by omega)
          have HLEN := Lib.hid (And.intro hlen hlen2)
          have HL2 : Hid (last ≤ 4611686018427387904) := Lib.hid (by have := R6.out.lst.2; omega)
          have HBZ := Lib.hid R6.out.bx.size
          have OKI := Lib.hid (R6.out.okId hk2)
          have HA : Hid (A.length ≤ 52000) := Lib.hid (by have := R6.out.lenA; omega)
          have HK2 := Lib.hid hk2
          clear hlen hlen2 hk2 hkc1 hkc2 hkc3
          by_cases k1 : kind = 1
          · subst k1
            have CM := Lib.hid (bmark_room R6.out.bag HBZ.out HLEN.out.2 R6.out.lst.1 HL2.out)
            go_wp2_with fail
            refine CM.out.mono ?_
            rintro er w6 ⟨rfl, hbag, hrel⟩
            have FIN := Lib.hid (R6.out.mark hrel hbag)
            clear hbag hrel CM R6 e0 e1 e5 SX0
            go_wp2_with fail
            go_meet
            exact ⟨_, _, _, _, _, _, _, FIN.out, List.Pairwise.nil, by simp⟩
          by_cases k2 : kind = 2
          · subst k2
            cases hp : posT L id false with
            | none =>
              have CM := Lib.hid (undo_none R6.out.bag HLEN.out.1 id hp)
              clear hp
              go_wp2_with fail
              refine CM.out.mono ?_
              rintro er w6 ⟨rfl, hb⟩
              have FIN := Lib.hid ((R6.out.below hb).up (Nat.le_succ k))
              clear hb CM R6 e0 e1 e5 SX0
              go_wp2_with fail
              go_meet
              exact ⟨_, _, _, _, _, _, _, FIN.out, List.Pairwise.nil, by simp⟩
            | some i =>
              have CM := Lib.hid (rev_undo R6.out.bag HLEN.out.1 HBZ.out R6.out.box OKI.out R6.out.lo.1 R6.out.lo.2.1 HA.out R6.out.rev id i hp)
              have HP := Lib.hid hp
              clear hp
              go_wp2_with fail
              refine CM.out.mono ?_
              rintro er w6 ⟨vr, rfl, hbag, hrev, hrel⟩
              have FIN := Lib.hid (R6.out.undo HP.out hrel hbag hrev)
              clear hbag hrel hrev CM R6 e0 e1 e5 SX0
              go_wp2_with fail
              go_meet
              exact ⟨_, _, _, _, _, _, _, FIN.out, List.pairwise_singleton _ _, by simp⟩
          by_cases k3 : kind = 3
          · subst k3
            cases hp : posT L id false with
            | none =>
              have CM := Lib.hid (keep_none R6.out.bag HLEN.out.1 id hp)
              clear hp
              go_wp2_with fail
              refine CM.out.mono ?_
              rintro er w6 ⟨rfl, hb⟩
              have FIN := Lib.hid ((R6.out.below hb).up (Nat.le_succ k))
              clear hb CM R6 e0 e1 e5 SX0
              go_wp2_with fail
              go_meet
              exact ⟨_, _, _, _, _, _, _, FIN.out, List.Pairwise.nil, by simp⟩
            | some i =>
              have CM := Lib.hid (keep_some R6.out.bag HLEN.out.1 id i hp)
              have HP := Lib.hid hp
              clear hp
              go_wp2_with fail
              refine CM.out.mono ?_
              rintro er w6 ⟨rfl, hbag, hrel⟩
              obtain ⟨D, nn, hown, hnn, hD⟩ := R6.out.kp
              have M6 := Lib.hid (map_block hown hrel (fun es c ho => by rcases ho with ⟨_, C, z, e⟩ | ⟨C, z, e⟩ <;> cases e))
              have E5 := (cell_of_row w6 p9 5 _ _ _ (hrel.block SX0.out (fun _ => SB_not (by decide) (by decide)))).trans (show (St.cells ⟨3, name, code, pan, word, id⟩).toArray[5]? = some (.int .i64 id) from rfl)
              have hnm : nn < maxLen := ltI hnn (by have := HK2.out; omega)
              have WFI : Hid ((Lit.int .i64 id).wf = true) := Lib.hid (wf_ok HOK.out.1 HOK.out.2)
              have HD := Lib.hid hD
              have HNN := Lib.hid hnn
              have HBG := Lib.hid hbag
              have HRL := Lib.hid hrel
              clear hown hnn hD hbag hrel CM e0 e1 e5 SX0
              go_wp2_with (at_mapUpdate; refine wpList_mapUpdate_own _ rfl _ _ _ 73 rfl 3 4 lawI Try.underlying73 _ m5 nn _ rfl M6.out hnm _ _ _ rfl rfl (keyI WFI.out) _ [] (plainElem_bool Try.underlying4 true) ?_)
              intro w7 hown7 hgrow7
              have FIN := Lib.hid (R6.out.kept HRL.out HP.out HBG.out M6.out HNN.out HD.out hgrow7 hown7 H5.out)
              clear hown7 hgrow7 M6 R6 HBG HRL HD E5
              go_wp2_with fail
              go_meet
              exact ⟨_, _, _, _, _, _, _, FIN.out, List.Pairwise.nil, by simp⟩
          by_cases k4 : kind = 4
          · subst k4
            cases hp : posT L id true with
            | none =>
              have CM := Lib.hid (bback_none R6.out.bag HLEN.out.1 id hp)
              clear hp
              go_wp2_with fail
              refine CM.out.mono ?_
              rintro er w6 ⟨rfl, hb⟩
              have FIN := Lib.hid ((R6.out.below hb).up (Nat.le_succ k))
              clear hb CM R6 e0 e1 e5 SX0
              go_wp2_with fail
              go_meet
              exact ⟨_, _, _, _, _, _, _, FIN.out, List.Pairwise.nil, by simp⟩
            | some i =>
              have CM := Lib.hid (rev_back R6.out.bag HLEN.out.1 HBZ.out R6.out.box OKI.out R6.out.lo.1 R6.out.lo.2.1 HA.out R6.out.rev id i hp)
              clear hp
              go_wp2_with fail
              refine CM.out.mono ?_
              rintro er w6 ⟨vr, rfl, hbag, hrev, hrel⟩
              have FIN := Lib.hid (R6.out.back hrel hbag hrev HK2.out)
              clear hbag hrel hrev CM R6 e0 e1 e5 SX0
              go_wp2_with fail
              go_meet
              exact ⟨_, _, _, _, _, _, _, FIN.out.1, FIN.out.2.1, FIN.out.2.2⟩
          by_cases k5 : kind = 5
          · subst k5
            have FIN := Lib.hid (R6.out.up (Nat.le_succ k))
            clear R6 e0 e1 e5 SX0
            go_wp2_with fail
            go_meet
            exact ⟨_, _, _, _, _, _, _, FIN.out, List.Pairwise.nil, by simp⟩
          by_cases k6 : kind = 6
          · subst k6
            have FIN := Lib.hid (R6.out.up (Nat.le_succ k))
            clear R6 e0 e1 e5 SX0
            go_wp2_with fail
            go_meet
            exact ⟨_, _, _, _, _, _, _, FIN.out, List.Pairwise.nil, by simp⟩
          go_upto_region 17 with fail
          have ba := (Below.refl wq.heap.size wq).alloc (Nat.le_refl _) (.cells #[.int .i64 0] 3)
          have c10 := heap_alloc_new wq (.cells #[.int .i64 0] 3)
          obtain ⟨wa, hwa⟩ : ∃ x, x = wq.alloc (.cells #[.int .i64 0] 3) := ⟨_, rfl⟩
          rw [← hwa] at ba c10 ⊢
          have BGA := Lib.hid (R6.out.bag.below ba)
          have BZA : Hid (W.heap.size ≤ wa.heap.size) := Lib.hid (Nat.le_trans HBZ.out ba.size)
          have SXA := Lib.hid ((ba.block p9 (Array.getElem?_eq_some_iff.1 SX0.out).1).trans SX0.out)
          have x1 := (cell_of_row wa p9 1 _ _ _ SXA.out).trans (show (St.cells ⟨kind, name, code, pan, word, id⟩).toArray[1]? = some (.string name) from rfl)
          have BA := Lib.hid ba
          obtain ⟨p10, hp10⟩ : ∃ p, p = wq.heap.size := ⟨_, rfl⟩
          rw [← hp10] at c10 ⊢
          have C10 := Lib.hid c10
          have HP10 := Lib.hid hp10
          clear ba c10 hwa hp10 e0 e1 e5
          by_cases hnm : name.size ≤ 31
          · have CM := Lib.hid (add_room BGA.out BZA.out HLEN.out.2 R6.out.lst.1 HL2.out name hnm 29 #[.pointer (some ⟨p4, 0, none⟩), .pointer (some ⟨p10, 0, none⟩), .pointer (some ⟨p6, 0, none⟩), .pointer (some ⟨p9, 0, none⟩)])
            clear hnm
            go_wp2_with fail
            refine CM.out.mono ?_
            rintro er w6 ⟨rfl, hbag, hrel⟩
            have c6 := hrel.block C10.out (fun _ => SB_not (by decide) (by decide))
            have s6 := hrel.block SXA.out (fun _ => SB_not (by decide) (by decide))
            obtain ⟨g6, f6⟩ := there1 c6
            have rs : Rel W.heap.size (fun q o => q = p10 ∧ ∃ C z, o = .cells C 3 z) w6 (w6.setCell ⟨p10, 0, none⟩ (.int .i64 (last + 1))) := Rel.set (a := ⟨p10, 0, none⟩) (by rw [HP10.out]; exact HBZ.out) c6 ⟨rfl, _, _, rfl⟩ _
            have ADD := Lib.hid (R6.out.added (w' := w6.setCell ⟨p10, 0, none⟩ (.int .i64 (last + 1))) (nm := name) (p10 := p10) (p9 := p9) (s := ⟨kind, name, code, pan, word, id⟩) (((Rel.below BA.out).trans (hrel.mono (fun q o ho => .inl ho) (Nat.le_refl _))).trans (rs.mono (fun q o ho => .inr ⟨by rw [ho.1, HP10.out]; exact Nat.le_refl _, ho.2⟩) (Nat.le_refl _))) (hbag.rel rs (fun C z ⟨_, C', z', e⟩ => by injection e with _ e2 _; exact absurd e2 (by decide)) (fun q C z ⟨_, C', z', e⟩ => by injection e with _ e2 _; exact absurd e2 (by decide))) (heap_setCell_same w6 p10 0 _ _ _ c6) (apartR s6 c6 (by decide) _) (by rw [HP10.out]; exact Nat.le_refl _))
            have LSTP : Hid (0 < last + 1) := Lib.hid (by have := R6.out.lst.1; omega)
            have HAL : Hid (al.length ≤ k) := Lib.hid R6.out.alen
            clear c6 s6 rs hbag hrel CM R6 BGA SXA x1 C10 BA
            go_upto_region 20 with fail
            obtain ⟨w7, hw7⟩ : ∃ x, x = w6.setCell ⟨p10, 0, none⟩ (.int .i64 (last + 1)) := ⟨_, rfl⟩
            rw [← hw7] at ADD ⊢
            clear hw7 g6 f6
            obtain ⟨hb1, hb2⟩ := roomI (n := al.length) (by have := HAL.out; have := HK2.out; omega)
            obtain ⟨i0, hi, hz0, hz1, hz2⟩ := info_parts infoI
            have hzb : W.heap.size ≤ (w7.alloc (.cells #[.int .i64 (last + 1)] 3)).heap.size := by rw [size_alloc]; exact Nat.le_succ_of_le ADD.out.1.bx.size
            have ROW := Lib.hid (ADD.out.1.ar.alloc (.cells #[.int .i64 (last + 1)] 3))
            go_wp2_with (refine wpList_append_lies _ rfl (.tmp 54) (.tmp 56) 30 rfl W.heap.size 3 i0 (.int .i64 0) 1 8 Try.underlying30 hi hz0 hz1 hz2 rfl (by decide) u7 al.length (ic al) rfl ROW.out ⟨w7.heap.size, 0, none⟩ 1 1 [.int .i64 (last + 1)] (by rfl) rfl (cell_one_at _ _ _ _ rfl) (by simp [Value.oneCell']) (by decide) hb1 hb2 hzb (w7.heap.size + 1) (size_alloc _ _) ?_)
            intro g2 cap2 w8 hrow8 hgrow8 hat8 hlt8
            have FIN := Lib.hid (ADD.out.1.grownA (x := last + 1) (w3 := w7.alloc (.cells #[.int .i64 (last + 1)] 3)) ((Below.refl w7.heap.size w7).alloc (Nat.le_refl _) _) hgrow8 hrow8 (hat8.elim .inl (fun e => .inr (by rw [size_alloc]; exact e))) ADD.out.2 (Nat.succ_le_succ HAL.out) LSTP.out)
            clear hrow8 hgrow8 hat8 hlt8 ROW hzb ADD
            go_wp2_with fail
            go_meet
            exact ⟨_, _, _, _, _, _, _, FIN.out, List.Pairwise.nil, by simp⟩
          · have CM := Lib.hid (add_long BGA.out name (by omega) 29 #[.pointer (some ⟨p4, 0, none⟩), .pointer (some ⟨p10, 0, none⟩), .pointer (some ⟨p6, 0, none⟩), .pointer (some ⟨p9, 0, none⟩)])
            have FIN := Lib.hid ((R6.out.below BA.out).up (Nat.le_succ k))
            clear hnm
            go_wp2_with fail
            refine CM.out.mono ?_
            rintro er w6 ⟨rfl, rfl⟩
            clear CM R6 SX0 BGA SXA x1 C10 BA
            go_wp2_with fail
            go_meet
            exact ⟨_, _, _, _, _, _, _, FIN.out, List.Pairwise.nil, by simp⟩
        case rest =>
        obtain ⟨L2, A2, K2, al2, last2, now2, N2, hv2, hfall, hn256⟩ := hcut.out
        obtain ⟨nn, hnn⟩ : ∃ n, now2.length = n := ⟨_, rfl⟩
        have RN := Lib.hid hv2
        have FALL := Lib.hid hfall
        have HNN := Lib.hid hnn
        have HN6 : Hid (nn ≤ 256) := Lib.hid (by rw [← hnn]; exact hn256)
        obtain ⟨v6, h6, hrow6, _⟩ := hv2.rev.b6
        rw [hnn] at hrow6
        obtain ⟨a6, c6, rfl⟩ := own_slice hrow6
        have H6 := Lib.hid h6
        have ROW6 := Lib.hid hrow6
        obtain ⟨wy, rfl⟩ : ∃ x : World, x = wc := ⟨_, rfl⟩
        have e6 : wy.cell? ⟨p6, 0, none⟩ = some (.slice a6 nn c6) := (there1 h6).1
        clear hcut R6 SX0 e0 e1 e5 hv2 hfall hn256 hnn h6 hrow6 hkc1 hkc2 hkc3
        have wk : wrap64 ((k : Int) + 1) = (k : Int) + 1 := wrapI (by have := HLT1.out; omega)
        go_wp2_with fail
        go_loopg [13] nn (fun r v13 wr => ∃ i : Nat, i ≤ nn ∧ r = nn - i ∧ v13 = .int .i64 ((i : Int) + 1) ∧ Hid (∃ m, wr = wy.drewN m))
        case atStart => exact ⟨0, by omega, by omega, rfl, Lib.hid ⟨0, rfl⟩⟩
        case round =>
          clear e6
          obtain ⟨i, hi, hr, rfl, hq⟩ := hrel
          have HRI := Lib.hid hr
          clear hr
          have BZ : Hid (Below wy.heap.size wy wr) := Lib.hid (by obtain ⟨m, e⟩ := hq.out; rw [e]; exact below_drewN (Below.refl _ _) m)
          have e6 : wr.cell? ⟨p6, 0, none⟩ = some (.slice a6 nn c6) := (there1 ((BZ.out.block _ (Array.getElem?_eq_some_iff.1 H6.out).1).trans H6.out)).1
          by_cases hlt : i + 1 < nn
          · have hrow := own_below ROW6.out BZ.out
            obtain ⟨g6, rfl⟩ := formR hrow (Nat.lt_of_le_of_lt (Nat.zero_le _) hlt)
            obtain ⟨y0, y1, x0, x1, hle⟩ := rowAtR hrow HNN.out FALL.out hlt
            have hled : decide (y0 ≤ y1) = false := decide_eq_false hle
            obtain ⟨h1, h2, h3, h4, wi, wi2, wi1, hnt⟩ := idxR hlt HN6.out
            have HLI := Lib.hid hlt
            have HQ := Lib.hid hq.out
            clear hrow hle hlt hi hq
            go_wp2_with fail
            go_quiet (fail)
            go_wp2_with fail
            go_roundg (nn - (i + 1))
            case measure => exact measR HRI.out (Nat.lt_of_succ_lt HLI.out)
            case rel => exact ⟨i + 1, Nat.le_of_lt HLI.out, rfl, by first | rfl | (rw [wi1]; rfl), Lib.hid (drewR HQ.out _)⟩
          · have h4 := geR hlt
            have FIN := Lib.hid (show ∃ L A K al last N0 now, RV W b p4 m4 m5 p6 u7 L A K al last (k + 1) N0 now wr from ⟨_, _, _, _, _, _, _, RN.out.below BZ.out⟩)
            clear hi hlt hq BZ
            go_wp2_with fail
            go_roundg (nt - (k + 1))
            case measure => exact measR HR.out HLT.out
            case rel => exact ⟨k + 1, HLT.out, HLT1.out, rfl, by first | rfl | (rw [wk]; rfl), FIN⟩
      · obtain ⟨L, A, K, al, last, N0, now, hv⟩ := hq.out
        have FIN := Lib.hid (show ∃ L A K al last N0 now, RV W b p4 m4 m5 p6 u7 L A K al last 200 N0 now wr from ⟨_, _, _, _, _, _, _, hv.up hk1⟩)
        clear hv hq
        by_cases hk2 : k < nt
        · have hk3 : k = 200 := by omega
          subst hk3
          have hkc2 : ((200 : Nat) : Int) < (nt : Int) := Int.ofNat_lt.2 hk2
          clear hgo hk hk1 hk2
          go_wp2_with fail
          go_meet
          exact FIN
        · obtain rfl : nt = k := by omega
          clear hgo hk hk1 hk2 HR
          go_wp2_with fail
          go_meet
          exact FIN
  case rest =>
  obtain ⟨L, A, K, al, last, N0, now, hv⟩ := hcut.out
  obtain ⟨wy, rfl⟩ : ∃ x : World, x = wc := ⟨_, rfl⟩
  clear hcut R0
  obtain ⟨v6, h6, _⟩ := hv.rev.b6
  obtain ⟨e6, f6⟩ := there1 h6
  have R6 := Lib.hid hv.clear
  clear hv h6
  go_upto_region 38 with fail
  obtain ⟨wq, hwq⟩ : ∃ x, x = wy.setCell ⟨p6, 0, none⟩ (.slice none 0 0) := ⟨_, rfl⟩
  rw [← hwq] at R6 ⊢
  clear hwq e6 f6
  have hlen : L.length ≤ 200 := R6.out.len
  have HLEN := Lib.hid hlen
  have hlen2 : L.length ≤ 256 := by omega
  have CM := Lib.hid (rev_close R6.out.bag hlen2 R6.out.bx.size R6.out.box (R6.out.okId (Nat.le_refl _)) R6.out.lo.1 R6.out.lo.2.1 (by have := R6.out.lenA; omega) R6.out.rev)
  clear hlen hlen2
  go_wp2_with fail
  refine CM.out.mono ?_
  rintro er w6 ⟨vr, rfl, hbag, hrev, hrel⟩
  have F6 := Lib.hid (R6.out.fin hrel hbag hrev)
  have FALL : Hid ((idsT L.reverse).Pairwise (· > ·)) := Lib.hid (Law.falls (L1 := []) (L2 := []) (by simpa using R6.out.law))
  have HN6 : Hid ((idsT L.reverse).length ≤ 256) := Lib.hid (Nat.le_trans (idsT_le _) (by rw [List.length_reverse]; have := HLEN.out; omega))
  clear hbag hrev hrel CM R6 HLEN
  obtain ⟨N6, hN6⟩ : ∃ x, x = wq.heap.size := ⟨_, rfl⟩
  rw [← hN6] at F6
  obtain ⟨A6, hA6⟩ : ∃ x, x = A ++ idsT L.reverse := ⟨_, rfl⟩
  rw [← hA6] at F6
  obtain ⟨now6, hnow6⟩ : ∃ x, x = idsT L.reverse := ⟨_, rfl⟩
  rw [← hnow6] at F6 FALL HN6
  clear hN6 hA6 hnow6
  obtain ⟨nn, hnn⟩ : ∃ n, now6.length = n := ⟨_, rfl⟩
  have HNN := Lib.hid hnn
  rw [hnn] at HN6
  clear hnn
  go_upto_block 5 with fail
  go_cut [] from 16 to 179 (fun wx => Hid (RF W b p4 m4 m5 p6 u7 A6 K al now6 last N6 wx))
  case first => as_aux_lemma => --ok
    obtain ⟨v6, h6, hrow6, _⟩ := F6.out.rev.b6
    rw [HNN.out] at hrow6
    obtain ⟨a6, c6, rfl⟩ := own_slice hrow6
    have H6 := Lib.hid h6
    have ROW6 := Lib.hid hrow6
    have e6 : w6.cell? ⟨p6, 0, none⟩ = some (.slice a6 nn c6) := (there1 h6).1
    clear h6 hrow6
    go_wp2_with fail
    go_loopg [16] nn (fun r v16 wr => ∃ i : Nat, i ≤ nn ∧ r = nn - i ∧ v16 = .int .i64 ((i : Int) + 1) ∧ Hid (∃ m, wr = w6.drewN m))
    case atStart => exact ⟨0, by omega, by omega, rfl, Lib.hid ⟨0, rfl⟩⟩
    case round =>
      clear e6
      obtain ⟨i, hi, hr, rfl, hq⟩ := hrel
      have HRI := Lib.hid hr
      clear hr
      have BZ : Hid (Below w6.heap.size w6 wr) := Lib.hid (by obtain ⟨m, e⟩ := hq.out; rw [e]; exact below_drewN (Below.refl _ _) m)
      have e6 : wr.cell? ⟨p6, 0, none⟩ = some (.slice a6 nn c6) := (there1 ((BZ.out.block _ (Array.getElem?_eq_some_iff.1 H6.out).1).trans H6.out)).1
      by_cases hlt : i + 1 < nn
      · have hrow := own_below ROW6.out BZ.out
        obtain ⟨g6, rfl⟩ := formR hrow (Nat.lt_of_le_of_lt (Nat.zero_le _) hlt)
        obtain ⟨y0, y1, x0, x1, hle⟩ := rowAtR hrow HNN.out FALL.out hlt
        have hled : decide (y0 ≤ y1) = false := decide_eq_false hle
        obtain ⟨h1, h2, h3, h4, wi, wi2, wi1, hnt⟩ := idxR hlt HN6.out
        have HLI := Lib.hid hlt
        have HQ := Lib.hid hq.out
        clear hrow hle hlt hi hq
        go_wp2_with fail
        go_quiet (fail)
        go_wp2_with fail
        go_roundg (nn - (i + 1))
        case measure => exact measR HRI.out (Nat.lt_of_succ_lt HLI.out)
        case rel => exact ⟨i + 1, Nat.le_of_lt HLI.out, rfl, by first | rfl | (rw [wi1]; rfl), Lib.hid (drewR HQ.out _)⟩
      · have h4 := geR hlt
        have FIN := Lib.hid (F6.out.below BZ.out)
        clear hi hlt hq BZ HRI
        go_wp2_with fail
        go_meet
        exact FIN
  case rest =>
  have F7 := Lib.hid hcut.out
  clear hcut F6 FALL
  obtain ⟨w7, rfl⟩ : ∃ x : World, x = wc := ⟨_, rfl⟩
  obtain ⟨nal, hnal⟩ : ∃ n, al.length = n := ⟨_, rfl⟩
  have HNAL := Lib.hid hnal
  have hrow7 := F7.out.ar
  rw [hnal] at hrow7
  obtain ⟨a7, c7, rfl⟩ := own_slice hrow7
  have ROW7 := Lib.hid hrow7
  have HAL : Hid (nal ≤ 200) := Lib.hid (by rw [← hnal]; exact F7.out.alen)
  clear hrow7 hnal
  go_upto_block 7 with fail
  go_cut [] from 16 to 179 (fun wx => Hid (RF W b p4 m4 m5 p6 (.slice a7 nal c7) A6 K al now6 last N6 wx))
  case first => as_aux_lemma => --ok
    go_wp2_with fail
    go_loopg [17] nal (fun r v17 wr => ∃ i : Nat, i ≤ nal ∧ r = nal - i ∧ v17 = .int .i64 (i : Int) ∧ Hid (∃ m, wr = w7.drewN m))
    case atStart => exact ⟨0, by omega, by omega, rfl, Lib.hid ⟨0, rfl⟩⟩
    case round =>
      obtain ⟨i, hi, hr, rfl, hq⟩ := hrel
      have HRI := Lib.hid hr
      clear hr
      have BZ : Hid (Below w7.heap.size w7 wr) := Lib.hid (by obtain ⟨m, e⟩ := hq.out; rw [e]; exact below_drewN (Below.refl _ _) m)
      have FR := Lib.hid (F7.out.below BZ.out)
      by_cases hlt : i < nal
      · have hrow := own_below ROW7.out BZ.out
        obtain ⟨g7, rfl⟩ := formR hrow (Nat.lt_of_le_of_lt (Nat.zero_le _) hlt)
        have hmem : al[i]'(by rw [HNAL.out]; exact hlt) ∈ al := List.getElem_mem _
        have x0 : wr.cell? ⟨g7, i, none⟩ = some (.int .i64 (al[i]'(by rw [HNAL.out]; exact hlt))) := by
          rw [hrow.cellAt i (by omega)]
          exact ic_at _
        obtain ⟨x, hx⟩ : ∃ x, al[i]'(by rw [HNAL.out]; exact hlt) = x := ⟨_, rfl⟩
        rw [hx] at hmem x0
        have hwx := F7.out.wf x hmem
        have hlaw := F7.out.law x hmem
        have hK := fun n => lookup_K (FR.out.below (below_drewN (Below.refl wr.heap.size wr) n)).kp x hwx
        have hA := fun n => lookup_A (FR.out.below (below_drewN (Below.refl wr.heap.size wr) n)).rev x hwx
        have e4 : wr.cell? ⟨p4, 0, none⟩ = some (.map (some m4)) := (there1 FR.out.rev.b4).1
        have h1 : (0 : Int) ≤ (i : Int) := Int.natCast_nonneg i
        have h2 : (i : Int) < (nal : Int) := Int.ofNat_lt.2 hlt
        have wi1 : wrap64 ((i : Int) + 1) = (i : Int) + 1 := wrapI (by have := HAL.out; omega)
        have HLI := Lib.hid hlt
        have HQ := Lib.hid hq.out
        clear hrow hmem hx hwx hlt hi hq BZ FR
        rcases hlaw with ⟨l1, l2⟩ | ⟨l1, l2⟩
        · rw [decide_eq_true l1] at hK
          simp only [l2] at hA
          clear l1 l2
          go_wp2_with fail
          go_quiet (fail)
          go_wp2_with fail
          go_roundg (nal - (i + 1))
          case measure => exact measR HRI.out HLI.out
          case rel => exact ⟨i + 1, HLI.out, rfl, by first | rfl | (rw [wi1]; rfl), Lib.hid (drewR HQ.out _)⟩
        · rw [decide_eq_false l1] at hK
          simp only [l2] at hA
          clear l1 l2
          go_wp2_with fail
          go_quiet (fail)
          go_wp2_with fail
          go_roundg (nal - (i + 1))
          case measure => exact measR HRI.out HLI.out
          case rel => exact ⟨i + 1, HLI.out, rfl, by first | rfl | (rw [wi1]; rfl), Lib.hid (drewR HQ.out _)⟩
      · obtain rfl : nal = i := by omega
        clear hi hlt hq BZ HRI
        go_wp2_with fail
        go_meet
        exact FR
  case rest =>
  have F8 := Lib.hid hcut.out
  clear hcut F7 ROW7
  obtain ⟨w8, rfl⟩ : ∃ x : World, x = wc := ⟨_, rfl⟩
  have CD := Lib.hid (close_done F8.out.bag rfl)
  have CH := Lib.hid (held_any F8.out.bag (by simp))
  have hh0 : (heldN []).length = 0 := rfl
  rw [hh0] at CH
  clear hh0
  go_wp2_with fail
  refine CD.out.mono ?_
  rintro er w9 ⟨rfl, rfl⟩
  go_wp2_with fail
  refine CH.out.mono ?_
  rintro er w10 ⟨vh, rfl, hown, hb⟩
  obtain ⟨ah, ch, rfl⟩ := own_slice hown
  have FIN := Lib.hid (F8.out.bx.trans (hb.mono F8.out.bx.size))
  clear hown hb CH CD F8
  go_wp2_with fail
  go_ret
  exact ⟨rfl, FIN.out⟩
end Go.Proofs.Ytnajbogmhhlpcaa
