/- A probe whose card and fates may be. -/
import Derived.Test.YtnajbogmhhlpcaaProbeX
import Derived.Test.YtnajbogmhhlpcaaUndoB
namespace Go.Proofs.Ytnajbogmhhlpcaa
open Go.RowKit Go.ChangeShapes
theorem tk_ (ns : List ByteArray) (m : Nat) (h : m ≤ ns.length) : (ns.take m).length = m := by rw [List.length_take]; omega
theorem thQ_fn {ns : List ByteArray} {qs : List Nat} (hl : ns.length = qs.length) {t : Th} (ht : t ∈ thQ 0 ns qs) {k : Nat} {c : Array Value} (hf : t.fn = some (k, c)) : ∃ j, ∃ h : j < qs.length, k = 51 ∧ c = #[.pointer (some ⟨qs[j], 0, none⟩)] ∧ t.id = (j : Int) + 1 := by
  obtain ⟨j, h1, h2, e⟩ := thQ_get 0 ns qs hl t ht
  rw [e] at hf
  injection hf with hf
  injection hf with hk hc
  exact ⟨j, h2, hk.symm, hc.symm, by rw [e]; simp⟩
/-- What a closed bag of a probe's answers, and what it leaves. -/
theorem probe_close {fs : List Ft} {ns : List ByteArray} {qs : List Nat} {wc : World} {B b : Nat} {last : Int} (hl : ns.length = qs.length) (h4 : ns.length ≤ 4) (hb : BagAt wc B b (thQ 0 ns qs) last false false) (hB : B ≤ wc.heap.size) (hx : Boxes fs wc B qs) :
    Calls Try.prog 12 #[.pointer (some ⟨b, 0, none⟩)] wc fun e w' => ∃ v, e = .returned (.tuple #[v, .int .i64 0]) ∧ w'.ownsRow wc.heap.size 77 5 v ns.length (rl (resT fs 0 ns).reverse) ∧ Rel B (SC b wc.heap.size fun _ _ => False) wc w' := by
  have CL := close_some (σ := Unit) (fun _ t _ => backQ fs t) (fun _ _ _ => ()) (fun _ w' => Boxes fs w' B qs) (fun _ _ => False) () hb (by rw [thQ_len _ _ _ hl]; omega) hB hx (fun _ _ _ => ⟨id, id, id, id⟩)
    (fun _ x x' h hr => h.rel hr (fun k C z ho => by
      rcases ho with ⟨C, z, e⟩ | ⟨C, z, e⟩ | ⟨_, C, z, e⟩ | e
      · cases e
      · cases e
      · cases e
      · exact e))
    (fun t ht k c hf x => by
      obtain ⟨j, hj, rfl, rfl, _⟩ := thQ_fn hl ht hf
      kernel_rfl)
    (fun t ht k c hf s R x _ hx hbx hBx => by
      obtain ⟨j, hj, rfl, rfl, hid⟩ := thQ_fn hl ht hf
      refine (c4_any (qs[j]) (ofT fs j).back x ((cell_of_row _ _ 2 _ _ _ (hx j hj).2).trans rfl)).mono (fun e x' he => ⟨?_, ?_, ?_⟩)
      · rw [he.1]
        unfold backQ
        rw [hid, show (j : Int) + 1 - 1 = j by omega]
      · rw [he.2]
        exact Rel.refl _ _ _
      · rw [he.2]
        exact hx)
  refine CL.mono (fun e w' h => ?_)
  obtain ⟨v, h1, h2, _, _, h5⟩ := h
  rw [probe_runB fs ns qs hl, List.length_reverse, resT_len] at h2
  exact ⟨v, h1, h2, h5⟩
/-- What a probe whose card and fates may be answers. -/
def ProbeT (fs : List Ft) (names : List ByteArray) (w : World) (e : Ending) (w' : World) : Prop :=
  ∃ (m : Nat) (g : Bool) (at_ how : Int) (vd vg vs : Value), Far fs names.length m g at_ how ∧ e = .returned (.tuple #[.agg #[.bool g, .int .i64 at_, .int .u8 how, vd, vg, vs], .int .i64 0]) ∧ w'.ownsRow w.heap.size 9 1 vd m (sc (names.take m)) ∧
    w'.ownsRow w.heap.size 9 1 vg (namesR false (if g then [] else (resT fs 0 (names.take m)).reverse)).length (sc (namesR false (if g then [] else (resT fs 0 (names.take m)).reverse))) ∧
    w'.ownsRow w.heap.size 9 1 vs (namesR true (if g then [] else (resT fs 0 (names.take m)).reverse)).length (sc (namesR true (if g then [] else (resT fs 0 (names.take m)).reverse))) ∧ Below w.heap.size w w'
set_option maxHeartbeats 16000000 in
set_option maxRecDepth 100000 in
theorem probe_ok {W : World} (hsh : W.ShapedOpen Try.prog) (n f q : ByteArray) (l s e : Int) (ss : List ByteArray) (sl : Value) (vf : Value) (fs : List Ft) (w : World) (hW : Below W.heap.size W w) (hs : Strs w sl ss) (hok : Cd.ok ⟨n, f, l, ss, s, q, e⟩) (hm : mayB ⟨n, f, l, ss, s, q, e⟩ = true) (hvf : FatesAt w vf fs) (hl : fs.length ≤ 64) (hbd : fs.any badT = false) (hfo : ∀ f ∈ fs, f.ok) :
    Calls Try.prog 17 #[.agg #[.string n, .string f, .int .u8 l, sl, .int .i8 s, .string q, .int .i16 e], vf] w (ProbeT fs (stepsRun.stepsF f) w) := by
  have hmf : ∀ (fn : Fn) (first cap : Array Value) (w : World), (Instr.makeFunc fn first cap).run Try.prog w = .ok (.func fn first cap) w := fun _ _ _ _ => rfl
  have HF := Lib.hid hvf
  obtain ⟨fa, fc, rfl, hfc, _⟩ := hvf
  obtain ⟨nf, hnf⟩ : ∃ n, fs.length = n := ⟨_, rfl⟩
  rw [hnf] at HF hl hfc ⊢
  have hs' := hs
  obtain ⟨a, cap, rfl, _⟩ := hs'
  obtain ⟨b1, z1, h0, h1, h2, hc⟩ := probe_start n f q l s e ss a ss.length cap (.slice fa nf fc) w hs _ rfl
  have CC := check_any _ _ _ hc (fun i hi => by
    have hi0 : i = 0 := by simpa using hi
    subst hi0
    simpa [nthC] using hok)
  rw [show checkE [⟨n, f, l, ss, s, q, e⟩] = 0 by rw [checkE_one, hm]; rfl] at CC
  have CC := Lib.hid CC
  have B1 := Lib.hid b1
  have Z1 := Lib.hid z1
  have H0 := Lib.hid h0
  have H1 := Lib.hid h1
  have H2 := Lib.hid h2
  have HNF := Lib.hid hnf
  have HL := Lib.hid hl
  have HBD := Lib.hid hbd
  have HFO := Lib.hid hfo
  have HSH := Lib.hid hsh
  have HW := Lib.hid hW
  have hzz : w.heap.size + 1 + 1 < w.heap.size + 4 := by omega
  have HZZ := Lib.hid hzz
  clear hs b1 z1 h0 h1 h2 hc hm hok hzz hfc hl hbd hfo hnf hW
  go_enter Try.func17, Try.ntmps17
  go_wp2_with fail
  refine CC.out.mono ?_
  rintro er w2 ⟨rfl, hb⟩
  have B2 := Lib.hid (B1.out.trans (hb.mono B1.out.size))
  have Q2 := (cell_of_row w2 (w.heap.size + 1) 0 _ _ _ ((hb.block (w.heap.size + 1) (by rw [Z1.out]; have := HZZ.out; omega)).trans H1.out)).trans (show (#[Value.slice fa nf fc] : Array Value)[0]? = some (.slice fa nf fc) from rfl)
  have X0 := Lib.hid ((hb.block w.heap.size (by rw [Z1.out]; have := HZZ.out; omega)).trans H0.out)
  have X1 := Lib.hid ((hb.block (w.heap.size + 1) (by rw [Z1.out]; have := HZZ.out; omega)).trans H1.out)
  have X2 := Lib.hid ((hb.block (w.heap.size + 1 + 1) (by rw [Z1.out]; exact HZZ.out)).trans H2.out)
  clear hb CC H0 H1 H2 B1 Z1
  go_upto_region 4 with fail
  have hgt : decide ((nf : Int) > 64) = false := decide_eq_false (by have := HL.out; omega)
  have CN := con_any fs (.slice fa nf fc) w2 (by have h := HF.out.below B2.out; exact h) (by have := HL.out; have := HNF.out; omega)
  rw [HBD.out] at CN
  have CN := Lib.hid CN
  go_wp2_with fail
  clear hgt
  refine CN.out.mono ?_
  rintro er w3 ⟨rfl, hb⟩
  have B3 := Lib.hid (B2.out.trans (hb.mono B2.out.size))
  have Y0 := Lib.hid ((hb.block _ (Array.getElem?_eq_some_iff.1 X0.out).1).trans X0.out)
  have Y1 := Lib.hid ((hb.block _ (Array.getElem?_eq_some_iff.1 X1.out).1).trans X1.out)
  have Y2 := Lib.hid ((hb.block _ (Array.getElem?_eq_some_iff.1 X2.out).1).trans X2.out)
  clear hb Q2 CN X0 X1 X2 B2
  have TZ : Hid ((w3.alloc (.cells #[.bool false, .int .i64 0, .int .u8 0, .slice none 0 0, .slice none 0 0, .slice none 0 0] 56)).there w3.heap.size 0 6) := Lib.hid (fun j hj => ⟨by
    rw [cell_of_row _ _ _ _ _ _ (heap_alloc_new w3 (.cells #[.bool false, .int .i64 0, .int .u8 0, .slice none 0 0, .slice none 0 0, .slice none 0 0] 56))]
    exact Option.isSome_iff_exists.2 ⟨_, Array.getElem?_eq_getElem (by simp; omega)⟩, frozen_of_row _ _ _ _ _ (heap_alloc_new w3 (.cells #[.bool false, .int .i64 0, .int .u8 0, .slice none 0 0, .slice none 0 0, .slice none 0 0] 56))⟩)
  have ba := (Below.refl w3.heap.size w3).alloc (Nat.le_refl _) (.cells #[.bool false, .int .i64 0, .int .u8 0, .slice none 0 0, .slice none 0 0, .slice none 0 0] 56)
  have BA := Lib.hid ba
  clear ba
  go_wp2_with (refine wpList_store_all (by rfl) 56 (.tmp 9) (.tmp 38) (by rfl) w3.heap.size 0 [.bool true, .int .i64 (-1), .int .u8 0, .slice none 0 0, .slice none 0 0, .slice none 0 0] (by kernel_rfl) (by kernel_rfl) TZ.out (by kernel_rfl) (by simp [Value.oneCell']) ?_)
  intro W4 HW4
  have hh4 := heap_setCells_same [.bool true, .int .i64 (-1), .int .u8 0, .slice none 0 0, .slice none 0 0, .slice none 0 0] _ 0 _ (heap_alloc_new w3 (.cells #[.bool false, .int .i64 0, .int .u8 0, .slice none 0 0, .slice none 0 0, .slice none 0 0] 56))
  rw [← HW4.out] at hh4
  have hb4 : Below w3.heap.size w3 W4 := by
    rw [HW4.out]
    exact BA.out.trans (below_lay (Nat.le_refl _) _ _ _)
  obtain ⟨po, hpo⟩ : ∃ p, p = w3.heap.size := ⟨_, rfl⟩
  rw [← hpo] at hh4 ⊢
  have HPO := Lib.hid hpo
  have PO : Hid (W4.heap[po]? = some (.cells #[.bool true, .int .i64 (-1), .int .u8 0, .slice none 0 0, .slice none 0 0, .slice none 0 0] 56 (0, 0)) ∧ w.heap.size + 1 + 1 < po) := Lib.hid ⟨hh4, by rw [hpo]; exact (Array.getElem?_eq_some_iff.1 Y2.out).1⟩
  have B4 := Lib.hid (B3.out.trans (hb4.mono B3.out.size))
  have Z0 := Lib.hid ((hb4.block _ (Array.getElem?_eq_some_iff.1 Y0.out).1).trans Y0.out)
  have Z1 := Lib.hid ((hb4.block _ (Array.getElem?_eq_some_iff.1 Y1.out).1).trans Y1.out)
  have Z2 := Lib.hid ((hb4.block _ (Array.getElem?_eq_some_iff.1 Y2.out).1).trans Y2.out)
  clear hh4 hb4 hpo HW4 TZ BA Y0 Y1 Y2 B3
  go_wp2_with fail
  refine (bnew_any W4).mono ?_
  rintro er w5 ⟨rfl, hw5⟩
  have ba := (Below.refl W4.heap.size W4).alloc (Nat.le_refl _) (.cells #[.slice none 0 0, .int .i64 0, .bool false, .bool false] 86)
  obtain ⟨b, hbb⟩ : ∃ p, p = W4.heap.size := ⟨_, rfl⟩
  have BG : Hid (BagAt w5 w.heap.size b [] 0 false false) := Lib.hid (by rw [hw5, hbb]; exact bag_new W4 _ B4.out.size)
  rw [← hw5] at ba
  rw [← hbb]
  have B5 := Lib.hid (B4.out.trans (ba.mono B4.out.size))
  have PO5 := Lib.hid ((ba.block _ (Array.getElem?_eq_some_iff.1 PO.out.1).1).trans PO.out.1)
  have Y0 := Lib.hid ((ba.block _ (Array.getElem?_eq_some_iff.1 Z0.out).1).trans Z0.out)
  have Y1 := Lib.hid ((ba.block _ (Array.getElem?_eq_some_iff.1 Z1.out).1).trans Z1.out)
  have Y2 := Lib.hid ((ba.block _ (Array.getElem?_eq_some_iff.1 Z2.out).1).trans Z2.out)
  have q1 := (cell_of_row w5 w.heap.size 1 _ _ _ Y0.out).trans (show (#[.string n, .string f, .int .u8 l, .slice a ss.length cap, .int .i8 s, .string q, .int .i16 e] : Array Value)[1]? = some (.string f) from rfl)
  have hne : po ≠ b := by
    have := (Array.getElem?_eq_some_iff.1 PO.out.1).1
    omega
  have HNE := Lib.hid hne
  clear ba hw5 hbb hne Z0 Z1 Z2 B4
  go_wp2_with fail
  refine (stepsRun.steps_any HSH.out f w5 (HW.out.trans (B5.out.mono HW.out.size))).mono ?_
  rintro er w6 ⟨vn, rfl, hon, hb⟩
  obtain ⟨an, cn, rfl⟩ := own_slice hon
  obtain ⟨names, hnames⟩ : ∃ l, stepsRun.stepsF f = l := ⟨_, rfl⟩
  have few := steps_few f
  rw [hnames] at few hon ⊢
  have HNM := Lib.hid hnames
  have LS0 : Hid (LS fs names w w6.heap.size po (.slice an names.length cn) (.slice fa nf fc) 0 [] (.slice none 0 0) w6) := Lib.hid ⟨rfl, Nat.zero_le _, (hb.block _ (Array.getElem?_eq_some_iff.1 PO5.out).1).trans PO5.out, ⟨by simp [sc], .inl ⟨rfl, rfl⟩⟩, (fun j hj => by simp at hj), own_base hon B5.out.size, (fun g hg => (hon.lt g hg).2), (hb.block _ (Array.getElem?_eq_some_iff.1 Y1.out).1).trans Y1.out, (hb.block _ (Array.getElem?_eq_some_iff.1 Y2.out).1).trans Y2.out, B5.out.trans (hb.mono B5.out.size), ⟨Nat.le_trans B5.out.size hb.size, Nat.le_refl _⟩, ⟨PO.out.2, Nat.lt_of_lt_of_le (Array.getElem?_eq_some_iff.1 PO5.out).1 hb.size⟩⟩
  have BG6 := Lib.hid (BG.out.below hb)
  have HPP := Lib.hid PO.out.2
  have FEW := Lib.hid few
  obtain ⟨nn, hnn⟩ : ∃ m, names.length = m := ⟨_, rfl⟩
  have HNN := Lib.hid hnn
  rw [hnn]
  obtain ⟨N6, hN6⟩ : ∃ p, w6.heap.size = p := ⟨_, rfl⟩
  rw [hN6, hnn] at LS0
  clear hon hb few hnames hnn hN6 PO PO5 Y0 Y1 Y2 B5 BG q1
  go_upto_block 0 with fail
  go_cut [] (fun wx => ∃ (m : Nat) (g : Bool) (at_ how : Int) (qs : List Nat) (vd : Value), Hid (Far fs nn m g at_ how ∧ qs.length = m ∧ wx.heap[po]? = some (.cells #[.bool g, .int .i64 at_, .int .u8 how, vd, .slice none 0 0, .slice none 0 0] 56 (0, 0)) ∧ wx.ownsRow w.heap.size 9 1 vd m (sc (names.take m)) ∧ BagAt wx w.heap.size b (thQ 0 (names.take m) qs) m false false ∧ Boxes fs wx w.heap.size qs ∧ wx.heap[w.heap.size + 1 + 1]? = some (.cells #[.bool false, .int .i64 0, .int .u8 0, .slice none 0 0, .slice none 0 0, .slice none 0 0] 56 (0, 0)) ∧ Below w.heap.size w wx))
  case first => as_aux_lemma => --no
    go_wp2_with fail
    go_loopg [44] nn (fun r v44 wr => ∃ (k : Nat) (qs : List Nat) (vd : Value), k ≤ nn ∧ r = nn - k ∧ v44 = .int .i64 k ∧ Hid (LS fs names w N6 po (.slice an nn cn) (.slice fa nf fc) k qs vd wr ∧ BagAt wr w.heap.size b (thQ 0 (names.take k) qs) k false false ∧ ∀ j, j < k → (ofT fs j).how = 0))
    case atStart => exact ⟨0, [], .slice none 0 0, by omega, by omega, rfl, Lib.hid ⟨LS0.out, by simpa [thQ] using BG6.out, fun j hj => by omega⟩⟩
    case round =>
      clear LS0 BG6
      obtain ⟨k, qs, vd, hk, hr, rfl, hq⟩ := hrel
      have HR := Lib.hid hr
      have LK := Lib.hid hq.out.1
      have BK := Lib.hid hq.out.2.1
      have FK := Lib.hid hq.out.2.2
      clear hr hq
      by_cases hlt : k < nn
      · have hkL : k < names.length := by rw [HNN.out]; exact hlt
        obtain ⟨gn, capn, hform, hgB, hgl⟩ := LK.out.nam.form (by omega)
        injection hform with e1 e2 e3
        clear e2
        subst e1 e3
        obtain ⟨nk, hnk⟩ : ∃ x, names[k]'hkL = x := ⟨_, rfl⟩
        have HNK : Hid (names[k]? = some nk) := Lib.hid (by rw [List.getElem?_eq_getElem hkL, hnk])
        have c0 : wr.cell? ⟨gn, k, none⟩ = some (.string nk) := by
          have hnam := LK.out.nam
          rw [HNN.out] at hnam
          rw [hnam.cellAt k (by omega), ← hnk]
          unfold sc
          rw [List.getElem?_map, List.getElem?_eq_getElem hkL]
          rfl
        obtain ⟨⟨fst, how, back⟩, hfk⟩ : ∃ x, ofT fs k = x := ⟨_, rfl⟩
        have HFK := Lib.hid hfk
        have CO := of_any (w.heap.size + 1) k fs (.slice fa nf fc) wr ((cell_of_row _ _ 0 _ _ _ LK.out.fat).trans rfl) (by have h := HF.out.below LK.out.bel; exact h) (by have := HL.out; have := HNF.out; omega)
        rw [hfk] at CO
        have CO := Lib.hid CO
        have hd : decide ((k : Int) < (nn : Int)) = true := decide_eq_true (by omega)
        have hix : (0 : Int) ≤ (k : Int) ∧ (k : Int) < (nn : Int) := by omega
        have HLT := Lib.hid hlt
        clear hnk hfk hgB hgl hlt hk hkL
        go_wp2_with fail
        clear hd hix c0
        refine CO.out.mono ?_
        rintro er w1 ⟨rfl, hb⟩
        have B1 := Lib.hid hb
        have LA := Lib.hid (LK.out.below hb)
        have BA := Lib.hid (BK.out.below hb)
        clear hb CO
        simp only [Ft.cells]
        have TZ : Hid ((w1.alloc (.cells #[.int .i64 0, .int .u8 0, .int .u8 0] 67)).there w1.heap.size 0 3) := Lib.hid (fun j hj => ⟨by
          rw [cell_of_row _ _ _ _ _ _ (heap_alloc_new w1 (.cells #[.int .i64 0, .int .u8 0, .int .u8 0] 67))]
          exact Option.isSome_iff_exists.2 ⟨_, Array.getElem?_eq_getElem (by simp; omega)⟩, frozen_of_row _ _ _ _ _ (heap_alloc_new w1 (.cells #[.int .i64 0, .int .u8 0, .int .u8 0] 67))⟩)
        go_wp2_with (refine wpList_store_all (by rfl) 67 (.tmp 13) (.tmp 51) (by rfl) w1.heap.size 0 [.int .i64 fst, .int .u8 how, .int .u8 back] (by kernel_rfl) (by kernel_rfl) TZ.out (by kernel_rfl) (by simp [Value.oneCell']) ?_)
        intro W2 HW2
        have hh2 := heap_setCells_same [.int .i64 fst, .int .u8 how, .int .u8 back] _ 0 _ (heap_alloc_new w1 (.cells #[.int .i64 0, .int .u8 0, .int .u8 0] 67))
        rw [← HW2.out] at hh2
        have hb2 : Below w1.heap.size w1 W2 := by
          rw [HW2.out]
          exact ((Below.refl w1.heap.size w1).alloc (Nat.le_refl _) _).trans (below_lay (Nat.le_refl _) _ _ _)
        obtain ⟨p13, hp13⟩ : ∃ p, p = w1.heap.size := ⟨_, rfl⟩
        rw [← hp13] at hh2 ⊢
        have P13 : Hid (W2.heap[p13]? = some (.cells #[.int .i64 fst, .int .u8 how, .int .u8 back] 67 (0, 0)) ∧ w.heap.size ≤ p13) := Lib.hid ⟨hh2, by rw [hp13]; exact LA.out.bel.size⟩
        have L2 := Lib.hid (LA.out.below hb2)
        have BG2 := Lib.hid (BA.out.below hb2)
        clear hh2 hb2 hp13 HW2 TZ LA BA B1
        have CC := call_any BG2.out L2.out.bel.size 0 ⟨#[]⟩ 49 #[.pointer (some ⟨p13, 0, none⟩)] (fun w => by kernel_rfl) (fun _ _ => False) (fun x1 bh x2 => bh = endB how ∧ x2 = x1) (fun _ _ _ => ⟨id, id, id, id⟩) (fun x1 hx1 hr1 => (c3_any p13 how x1 ((cell_of_row _ _ 1 _ _ _ (hr1.block P13.out.1 (fun _ ho => by
          rcases ho with ⟨_, C, z, h⟩ | ⟨_, C, z, h⟩
          · cases h
          · cases h))).trans rfl)).mono (fun e x2 h => ⟨endB how, h.1, by rw [h.2]; exact Rel.refl _ _ _, rfl, h.2⟩))
        have CC := Lib.hid CC
        go_wp2_with fail
        refine CC.out.mono ?_
        rintro er w3 ⟨bh, x1, x2, rfl, hb1, hr1, hr2, ⟨rfl, rfl⟩, hr3, hb3⟩
        have R3 : Hid (Rel w.heap.size (SK b W2.heap.size) W2 w3) := Lib.hid (hr1.trans hr3)
        have BG3 := Lib.hid hb3
        have L3 := Lib.hid (L2.out.rel R3.out (fun k C z => ⟨SK_not (by decide) (by decide), SK_not (by decide) (by decide), SK_not (by decide) (by decide), SK_not (by decide) (by decide)⟩))
        have P3 := Lib.hid (R3.out.block P13.out.1 (fun _ ho => by
          rcases ho with ⟨_, C, z, h⟩ | ⟨_, C, z, h⟩
          · cases h
          · cases h))
        clear hb1 hr1 hr2 hr3 hb3 CC L2 BG2 R3
        simp only [rcells]
        have TR := Lib.hid (zr5_there w3)
        go_wp2_with (refine wpList_store_all (by rfl) 77 (.tmp 14) (.tmp 55) (by rfl) w3.heap.size 0 [.int .i64 0, .string ⟨#[]⟩, .int .i64 (endB how).code, .bool (endB how).pan, .string (endB how).word] (by kernel_rfl) (by kernel_rfl) TR.out (by kernel_rfl) (rcells_one 0 ⟨#[]⟩ (endB how)) ?_)
        intro W5 HW5
        have hh5 := heap_setCells_same [.int .i64 0, .string ⟨#[]⟩, .int .i64 (endB how).code, .bool (endB how).pan, .string (endB how).word] _ 0 _ (heap_alloc_new w3 (.cells #[.int .i64 0, .string ⟨#[]⟩, .int .i64 0, .bool false, .string ⟨#[]⟩] 77))
        rw [← HW5.out] at hh5
        have hb5 : Below w3.heap.size w3 W5 := by
          rw [HW5.out]
          exact ((Below.refl w3.heap.size w3).alloc (Nat.le_refl _) _).trans (below_lay (Nat.le_refl _) _ _ _)
        obtain ⟨_, _, v2, v3, _⟩ := ends hh5
        obtain ⟨p14, hp14⟩ : ∃ p, p = w3.heap.size := ⟨_, rfl⟩
        rw [← hp14] at v2 v3 ⊢
        have L5 := Lib.hid (L3.out.below hb5)
        have BG5 := Lib.hid (BG3.out.below hb5)
        have P5 := Lib.hid ((hb5.block _ (Array.getElem?_eq_some_iff.1 P3.out).1).trans P3.out)
        clear hh5 hb5 hp14 HW5 TR L3 BG3 P3
        have hko := ofT_ok HFO.out HBD.out k
        rw [HFK.out] at hko
        simp only at hko
        obtain ⟨hk0, hk2, _, _⟩ := hko
        by_cases h0 : how = 0
        · subst h0
          have v2' : W5.cell? ⟨p14, 2, none⟩ = some (.int .i64 0) := v2
          have v3' : W5.cell? ⟨p14, 3, none⟩ = some (.bool false) := v3
          have hkL : k < names.length := by rw [HNN.out]; exact HLT.out
          have hnk : names[k]'hkL = nk := by have := HNK.out; rw [List.getElem?_eq_getElem hkL] at this; simpa using this
          have htl : (names.take k).length = qs.length := by rw [List.length_take, L5.out.ql]; omega
          have few := FEW.out
          have CA := Lib.hid (add_room BG5.out L5.out.bel.size (by rw [thQ_len _ _ _ htl, List.length_take]; omega) (by omega) (by omega) nk (few.2.2 nk (by rw [← hnk]; exact List.getElem_mem hkL)) 51 #[.pointer (some ⟨p13, 0, none⟩)])
          have HKL := Lib.hid hkL
          have HTL := Lib.hid htl
          clear v2 v3 hk0 hk2 few htl
          go_wp2_with fail
          refine CA.out.mono ?_
          rintro er w6 ⟨rfl, hbag, hrel⟩
          have L6 := Lib.hid (L5.out.rel hrel (fun k C z => ⟨SB_not (by decide) (by decide), SB_not (by decide) (by decide), SB_not (by decide) (by decide), SB_not (by decide) (by decide)⟩))
          have P6 := Lib.hid (hrel.block P5.out (fun _ => SB_not (by decide) (by decide)))
          have BG6 : Hid (BagAt w6 w.heap.size b (thQ 0 (names.take (k + 1)) (qs ++ [p13])) (k + 1) false false) := Lib.hid (by
            rw [List.take_succ_eq_append_getElem hkL, thQ_add _ _ _ _ _ HTL.out, hnk]
            have e : (names.take k).length = k := by rw [List.length_take]; omega
            rw [e, Nat.zero_add]
            exact hbag)
          obtain ⟨ad, cd, rfl⟩ := own_slice L6.out.done
          have q3 := (cell_of_row w6 po 3 _ _ _ L6.out.out).trans (show (#[Value.bool true, .int .i64 (-1), .int .u8 0, .slice ad k cd, .slice none 0 0, .slice none 0 0] : Array Value)[3]? = some (.slice ad k cd) from rfl)
          have hk256 : k ≤ 4 := by have := FEW.out.2.1; omega
          have HNKK : Hid (∀ h : k < names.length, names[k]'h = nk) := Lib.hid (fun _ => hnk)
          clear v2' v3' hbag hrel CA L5 BG5 P5 hnk hkL
          obtain ⟨irs, his, hs0, hs1, hs2⟩ := info_parts infoS
          go_wp2_with (refine wpList_append_lies _ (by rfl) (.tmp 74) (.tmp 76) 37 (by rfl) N6 9 irs _ 1 16 Try.underlying37 his hs0 hs1 hs2 rfl (by omega) (.slice ad k cd) k (sc (names.take k)) (by rfl) (L6.out.done.alloc _) ⟨w6.heap.size, 0, none⟩ 1 1 [.string nk] (by rfl) (by rfl) (World.news_of_block (cs := #[.string nk]) (t := 9) (fr := (0, 0)) (heap_alloc_new w6 _)) (by simp [Value.oneCell']) (by omega) (by unfold maxLen; omega) (by omega) (by have := L6.out.n6.2; simp; omega) (w6.heap.size + 1) (by simp) ?_)
          intro g2 cap2 w7 hown hgrow hat hlt7
          have NX := Lib.hid (L6.out.next HKL.out P13.out.2 (by rw [HFK.out]; exact P6.out) ((Below.refl w6.heap.size w6).alloc (Nat.le_refl _) (.cells #[.string nk] 9 (0, 0))) (by rw [HNKK.out HKL.out]; exact hown) hgrow)
          have n3 := NX.out.2.1
          have nf3 := NX.out.2.2.1
          have BG7 := Lib.hid (BG6.out.rel NX.out.2.2.2 (fun C z h => by rcases h with ⟨C', z', h⟩ | ⟨C', z', h⟩ <;> cases h) (fun q C z h => by rcases h with ⟨C', z', h⟩ | ⟨C', z', h⟩ <;> cases h))
          have FK2 : Hid (∀ j, j < k + 1 → (ofT fs j).how = 0) := Lib.hid (fun j hj => by
            by_cases h : j < k
            · exact FK.out j h
            · obtain rfl : j = k := by omega
              rw [HFK.out])
          clear hown hgrow hat hlt7 q3 hk256
          go_wp2_with fail
          go_roundg (nn - (k + 1))
          case measure => rw [HR.out]; have := HLT.out; omega
          case rel => exact ⟨k + 1, qs ++ [p13], .slice (some ⟨g2, 0, none⟩) (k + 1) cap2, by have := HLT.out; omega, rfl, by first | rfl | (rw [IntWalk.wrap64_in _ (by have := HLT.out; have := FEW.out.2.1; have := HNN.out; omega)]; rfl), Lib.hid ⟨NX.out.1, BG7.out, FK2.out⟩⟩
        · have hkk : (how = 1 ∨ how = 2) := by omega
          clear hk0 hk2
          have FAR : Hid (Far fs nn k false k how) := Lib.hid ⟨FK.out, Nat.le_of_lt HLT.out, fun h => (by cases h), fun _ => ⟨HLT.out, rfl, by rw [HFK.out], h0⟩⟩
          have H0 := Lib.hid h0
          clear h0
          rcases hkk with rfl | rfl
          · have v2' : W5.cell? ⟨p14, 2, none⟩ = some (.int .i64 1) := v2
            have v3' : W5.cell? ⟨p14, 3, none⟩ = some (.bool false) := v3
            clear v2 v3
            go_upto_region 15 with fail
            clear v2' v3'
            have hq := (cell_of_row W5 p13 1 _ _ _ P5.out).trans (show (#[.int .i64 fst, .int .u8 1, .int .u8 back] : Array Value)[1]? = some (.int .u8 1) from rfl)
            have o0 := (cell_of_row W5 po 0 _ _ _ L5.out.out).trans (show (#[Value.bool true, .int .i64 (-1), .int .u8 0, vd, .slice none 0 0, .slice none 0 0] : Array Value)[0]? = some (.bool true) from rfl)
            have o1 := (cell_of_row W5 po 1 _ _ _ L5.out.out).trans (show (#[Value.bool true, .int .i64 (-1), .int .u8 0, vd, .slice none 0 0, .slice none 0 0] : Array Value)[1]? = some (.int .i64 (-1)) from rfl)
            have o2 := (cell_of_row W5 po 2 _ _ _ L5.out.out).trans (show (#[Value.bool true, .int .i64 (-1), .int .u8 0, vd, .slice none 0 0, .slice none 0 0] : Array Value)[2]? = some (.int .u8 0) from rfl)
            have f0 := frozen_of_row W5 po 0 _ _ L5.out.out
            have f1 := frozen_of_row W5 po 1 _ _ L5.out.out
            have f2 := frozen_of_row W5 po 2 _ _ L5.out.out
            have hpp : p13 ≠ po := fun e => by
              have h := P5.out
              rw [e, L5.out.out] at h
              cases h
            have FIN : Hid (∀ wx, wx.heap[po]? = some (.cells #[.bool false, .int .i64 k, .int .u8 1, vd, .slice none 0 0, .slice none 0 0] 56 (0, 0)) → Rel w.heap.size (fun j o => j = po ∧ ∃ C z, o = .cells C 56 z) W5 wx → Hid (Far fs nn k false k 1 ∧ qs.length = k ∧ wx.heap[po]? = some (.cells #[.bool false, .int .i64 k, .int .u8 1, vd, .slice none 0 0, .slice none 0 0] 56 (0, 0)) ∧ wx.ownsRow w.heap.size 9 1 vd k (sc (names.take k)) ∧ BagAt wx w.heap.size b (thQ 0 (names.take k) qs) k false false ∧ Boxes fs wx w.heap.size qs ∧ wx.heap[w.heap.size + 1 + 1]? = some (.cells #[.bool false, .int .i64 0, .int .u8 0, .slice none 0 0, .slice none 0 0, .slice none 0 0] 56 (0, 0)) ∧ Below w.heap.size w wx)) := Lib.hid (fun wx h1 h2 => by
              refine Lib.hid ⟨FAR.out, L5.out.ql, h1, own_base (own_rel L5.out.done h2 (fun k C _ _ h => by obtain ⟨_, C', z', h⟩ := h; cases h)) L5.out.n6.1, BG5.out.rel h2 (fun C z h => by obtain ⟨_, C', z', h⟩ := h; cases h) (fun q C z h => by obtain ⟨_, C', z', h⟩ := h; cases h), L5.out.box.rel h2 (fun k C z h => by obtain ⟨_, C', z', h⟩ := h; cases h), h2.block L5.out.res (fun _ h => by have := L5.out.pol.1; omega), h2.out L5.out.bel L5.out.bel.size⟩)
            have PO3 : Hid (w.heap.size ≤ po) := Lib.hid (by have := L5.out.pol.1; omega)
            go_region
            all_goals go_wp2_with fail
            all_goals go_meet
            exact ⟨k, false, k, 1, qs, vd, FIN.out _ (heap_setCell_same _ _ _ _ _ _ (heap_setCell_same _ _ _ _ _ _ (heap_setCell_same _ _ _ _ _ _ L5.out.out))) (((Rel.set (a := ⟨po, 0, none⟩) PO3.out L5.out.out ⟨rfl, _, _, rfl⟩ _).trans (Rel.set (a := ⟨po, 1, none⟩) PO3.out (heap_setCell_same _ _ _ _ _ _ L5.out.out) ⟨rfl, _, _, rfl⟩ _)).trans (Rel.set (a := ⟨po, 2, none⟩) PO3.out (heap_setCell_same _ _ _ _ _ _ (heap_setCell_same _ _ _ _ _ _ L5.out.out)) ⟨rfl, _, _, rfl⟩ _)).drew⟩
          · have v3' : W5.cell? ⟨p14, 3, none⟩ = some (.bool true) := v3
            clear v2 v3
            go_upto_region 15 with fail
            clear v3'
            have hq := (cell_of_row W5 p13 1 _ _ _ P5.out).trans (show (#[.int .i64 fst, .int .u8 2, .int .u8 back] : Array Value)[1]? = some (.int .u8 2) from rfl)
            have o0 := (cell_of_row W5 po 0 _ _ _ L5.out.out).trans (show (#[Value.bool true, .int .i64 (-1), .int .u8 0, vd, .slice none 0 0, .slice none 0 0] : Array Value)[0]? = some (.bool true) from rfl)
            have o1 := (cell_of_row W5 po 1 _ _ _ L5.out.out).trans (show (#[Value.bool true, .int .i64 (-1), .int .u8 0, vd, .slice none 0 0, .slice none 0 0] : Array Value)[1]? = some (.int .i64 (-1)) from rfl)
            have o2 := (cell_of_row W5 po 2 _ _ _ L5.out.out).trans (show (#[Value.bool true, .int .i64 (-1), .int .u8 0, vd, .slice none 0 0, .slice none 0 0] : Array Value)[2]? = some (.int .u8 0) from rfl)
            have f0 := frozen_of_row W5 po 0 _ _ L5.out.out
            have f1 := frozen_of_row W5 po 1 _ _ L5.out.out
            have f2 := frozen_of_row W5 po 2 _ _ L5.out.out
            have hpp : p13 ≠ po := fun e => by
              have h := P5.out
              rw [e, L5.out.out] at h
              cases h
            have FIN : Hid (∀ wx, wx.heap[po]? = some (.cells #[.bool false, .int .i64 k, .int .u8 2, vd, .slice none 0 0, .slice none 0 0] 56 (0, 0)) → Rel w.heap.size (fun j o => j = po ∧ ∃ C z, o = .cells C 56 z) W5 wx → Hid (Far fs nn k false k 2 ∧ qs.length = k ∧ wx.heap[po]? = some (.cells #[.bool false, .int .i64 k, .int .u8 2, vd, .slice none 0 0, .slice none 0 0] 56 (0, 0)) ∧ wx.ownsRow w.heap.size 9 1 vd k (sc (names.take k)) ∧ BagAt wx w.heap.size b (thQ 0 (names.take k) qs) k false false ∧ Boxes fs wx w.heap.size qs ∧ wx.heap[w.heap.size + 1 + 1]? = some (.cells #[.bool false, .int .i64 0, .int .u8 0, .slice none 0 0, .slice none 0 0, .slice none 0 0] 56 (0, 0)) ∧ Below w.heap.size w wx)) := Lib.hid (fun wx h1 h2 => by
              refine Lib.hid ⟨FAR.out, L5.out.ql, h1, own_base (own_rel L5.out.done h2 (fun k C _ _ h => by obtain ⟨_, C', z', h⟩ := h; cases h)) L5.out.n6.1, BG5.out.rel h2 (fun C z h => by obtain ⟨_, C', z', h⟩ := h; cases h) (fun q C z h => by obtain ⟨_, C', z', h⟩ := h; cases h), L5.out.box.rel h2 (fun k C z h => by obtain ⟨_, C', z', h⟩ := h; cases h), h2.block L5.out.res (fun _ h => by have := L5.out.pol.1; omega), h2.out L5.out.bel L5.out.bel.size⟩)
            have PO3 : Hid (w.heap.size ≤ po) := Lib.hid (by have := L5.out.pol.1; omega)
            go_region
            all_goals go_wp2_with fail
            all_goals go_meet
            exact ⟨k, false, k, 2, qs, vd, FIN.out _ (heap_setCell_same _ _ _ _ _ _ (heap_setCell_same _ _ _ _ _ _ (heap_setCell_same _ _ _ _ _ _ L5.out.out))) (((Rel.set (a := ⟨po, 0, none⟩) PO3.out L5.out.out ⟨rfl, _, _, rfl⟩ _).trans (Rel.set (a := ⟨po, 1, none⟩) PO3.out (heap_setCell_same _ _ _ _ _ _ L5.out.out) ⟨rfl, _, _, rfl⟩ _)).trans (Rel.set (a := ⟨po, 2, none⟩) PO3.out (heap_setCell_same _ _ _ _ _ _ (heap_setCell_same _ _ _ _ _ _ L5.out.out)) ⟨rfl, _, _, rfl⟩ _)).drew⟩
      · obtain rfl : k = nn := by omega
        have hx : ¬ (k : Int) < (k : Int) := by omega
        go_wp2_with fail
        go_meet
        exact ⟨k, true, -1, 0, qs, vd, Lib.hid ⟨⟨FK.out, Nat.le_refl _, fun _ => ⟨rfl, rfl, rfl⟩, fun h => by cases h⟩, LK.out.ql, LK.out.out, own_base LK.out.done LK.out.n6.1, BK.out, LK.out.box, LK.out.res, LK.out.bel⟩⟩
  case rest =>
    clear LS0 BG6
    obtain ⟨m, g, at_, how, qs, vd, HC⟩ := hcut
    have FAR := Lib.hid HC.out.1
    have QL := Lib.hid HC.out.2.1
    have O := Lib.hid HC.out.2.2.1
    have DN := Lib.hid HC.out.2.2.2.1
    have BG := Lib.hid HC.out.2.2.2.2.1
    have BX := Lib.hid HC.out.2.2.2.2.2.1
    have ZR := Lib.hid HC.out.2.2.2.2.2.2.1
    have BL := Lib.hid HC.out.2.2.2.2.2.2.2
    have PP : Hid (w.heap.size + 1 + 1 < po) := Lib.hid (by have := (Array.getElem?_eq_some_iff.1 O.out).1; exact HPP.out)
    clear HC
    obtain ⟨ad, cd, rfl⟩ := own_slice DN.out
    cases g with
    | true =>
      have RD := DN
      have RG : Hid (wc.ownsRow w.heap.size 9 1 (.slice none 0 0) 0 (sc [])) := Lib.hid ⟨by simp [sc], .inl ⟨rfl, rfl⟩⟩
      have RS := RG
      have o0 := (cell_of_row wc po 0 _ _ _ O.out).trans (show (#[Value.bool true, .int .i64 at_, .int .u8 how, .slice ad m cd, .slice none 0 0, .slice none 0 0] : Array Value)[0]? = some (Value.bool true) from rfl)
      have o1 := (cell_of_row wc po 1 _ _ _ O.out).trans (show (#[Value.bool true, .int .i64 at_, .int .u8 how, .slice ad m cd, .slice none 0 0, .slice none 0 0] : Array Value)[1]? = some (.int .i64 at_) from rfl)
      have o2 := (cell_of_row wc po 2 _ _ _ O.out).trans (show (#[Value.bool true, .int .i64 at_, .int .u8 how, .slice ad m cd, .slice none 0 0, .slice none 0 0] : Array Value)[2]? = some (.int .u8 how) from rfl)
      have o3 := (cell_of_row wc po 3 _ _ _ O.out).trans (show (#[Value.bool true, .int .i64 at_, .int .u8 how, .slice ad m cd, .slice none 0 0, .slice none 0 0] : Array Value)[3]? = some (.slice ad m cd) from rfl)
      have o4 := (cell_of_row wc po 4 _ _ _ O.out).trans (show (#[Value.bool true, .int .i64 at_, .int .u8 how, .slice ad m cd, .slice none 0 0, .slice none 0 0] : Array Value)[4]? = some (.slice none 0 0) from rfl)
      have o5 := (cell_of_row wc po 5 _ _ _ O.out).trans (show (#[Value.bool true, .int .i64 at_, .int .u8 how, .slice ad m cd, .slice none 0 0, .slice none 0 0] : Array Value)[5]? = some (.slice none 0 0) from rfl)
      have TH : Hid (wc.there (w.heap.size + 1 + 1) 0 6) := Lib.hid (fun j hj => ⟨by
        rw [cell_of_row _ _ _ _ _ _ ZR.out]
        exact Option.isSome_iff_exists.2 ⟨_, Array.getElem?_eq_getElem (by simp; omega)⟩, frozen_of_row _ _ _ _ _ ZR.out⟩)
      go_wp2_with (refine wpList_store_all (by rfl) 56 (.tmp 4) (.tmp 82) (by rfl) (w.heap.size + 1 + 1) 0 [Value.bool true, .int .i64 at_, .int .u8 how, .slice ad m cd, .slice none 0 0, .slice none 0 0] (by kernel_rfl) (by kernel_rfl) TH.out (by kernel_rfl) (by simp [Value.oneCell']) ?_)
      intro W4 HW4
      have hh4 := heap_setCells_same [Value.bool true, .int .i64 at_, .int .u8 how, .slice ad m cd, .slice none 0 0, .slice none 0 0] wc 0 _ ZR.out
      have rr : Rel w.heap.size (fun j o => j = w.heap.size + 1 + 1 ∧ ∃ C z, o = .cells C 56 z) wc W4 := by
        rw [HW4.out]
        exact rel_lay (Nat.le_trans (Nat.le_succ _) (Nat.le_succ _)) (fun C => ⟨rfl, C, _, rfl⟩) _ _ _ _ ZR.out
      have P4 : Hid (W4.heap[w.heap.size + 1 + 1]? = some (.cells #[Value.bool true, .int .i64 at_, .int .u8 how, .slice ad m cd, .slice none 0 0, .slice none 0 0] 56 (0, 0)) ∧ Rel w.heap.size (fun j o => j = w.heap.size + 1 + 1 ∧ ∃ C z, o = .cells C 56 z) wc W4) := Lib.hid ⟨by
        rw [HW4.out]
        exact hh4, rr⟩
      clear hh4 rr o0 o1 o2 o3 o4 o5
      have v0 := (cell_of_row W4 _ 0 _ _ _ P4.out.1).trans (show (#[Value.bool true, .int .i64 at_, .int .u8 how, .slice ad m cd, .slice none 0 0, .slice none 0 0] : Array Value)[0]? = some (Value.bool true) from rfl)
      have v1 := (cell_of_row W4 _ 1 _ _ _ P4.out.1).trans (show (#[Value.bool true, .int .i64 at_, .int .u8 how, .slice ad m cd, .slice none 0 0, .slice none 0 0] : Array Value)[1]? = some (.int .i64 at_) from rfl)
      have v2 := (cell_of_row W4 _ 2 _ _ _ P4.out.1).trans (show (#[Value.bool true, .int .i64 at_, .int .u8 how, .slice ad m cd, .slice none 0 0, .slice none 0 0] : Array Value)[2]? = some (.int .u8 how) from rfl)
      have v3 := (cell_of_row W4 _ 3 _ _ _ P4.out.1).trans (show (#[Value.bool true, .int .i64 at_, .int .u8 how, .slice ad m cd, .slice none 0 0, .slice none 0 0] : Array Value)[3]? = some (.slice ad m cd) from rfl)
      have v4 := (cell_of_row W4 _ 4 _ _ _ P4.out.1).trans (show (#[Value.bool true, .int .i64 at_, .int .u8 how, .slice ad m cd, .slice none 0 0, .slice none 0 0] : Array Value)[4]? = some (.slice none 0 0) from rfl)
      have v5 := (cell_of_row W4 _ 5 _ _ _ P4.out.1).trans (show (#[Value.bool true, .int .i64 at_, .int .u8 how, .slice ad m cd, .slice none 0 0, .slice none 0 0] : Array Value)[5]? = some (.slice none 0 0) from rfl)
      clear HW4
      go_wp2_with fail
      refine bodyPost_ret (v := .tuple #[.agg #[Value.bool true, .int .i64 at_, .int .u8 how, .slice ad m cd, .slice none 0 0, .slice none 0 0], .int .i64 0]) (by simp [results, Try.results17, go_sem, v0, v1, v2, v3, v4, v5]) rfl ?_
      have nost : ∀ (k : Nat) (C : Array Value), ¬ (k = w.heap.size + 1 + 1 ∧ ∃ C' z, Obj.cells C 9 (0, 0) = .cells C' 56 z) := fun k C h => by
        obtain ⟨_, C', z, h⟩ := h
        cases h
      unfold ProbeT
      rw [HNM.out]
      exact ⟨m, true, at_, how, .slice ad m cd, .slice none 0 0, .slice none 0 0, by rw [HNN.out]; exact FAR.out, rfl, own_rel RD.out P4.out.2 (fun k C _ _ => nost k C), own_rel RG.out P4.out.2 (fun k C _ _ => nost k C), own_rel RS.out P4.out.2 (fun k C _ _ => nost k C), P4.out.2.out BL.out BL.out.size⟩
    | false =>
      have o0 := (cell_of_row wc po 0 _ _ _ O.out).trans (show (#[Value.bool false, .int .i64 at_, .int .u8 how, .slice ad m cd, .slice none 0 0, .slice none 0 0] : Array Value)[0]? = some (.bool false) from rfl)
      have hmn := FAR.out.le
      have htk : (names.take m).length = m := tk_ _ _ (by rw [HNN.out]; exact hmn)
      have CL := probe_close (htk.trans QL.out.symm) (by rw [htk]; have := FEW.out.2.1; have := HNN.out; omega) BG.out BL.out.size BX.out
      obtain ⟨R, hR⟩ : ∃ R, (resT fs 0 (names.take m)).reverse = R := ⟨_, rfl⟩
      have hRl : R.length = m := by rw [← hR, List.length_reverse, resT_len, htk]
      rw [hR, htk] at CL
      have CL := Lib.hid CL
      have HRR := Lib.hid hR
      have HRL := Lib.hid hRl
      have HM4 : Hid (m ≤ 4) := Lib.hid (by have := FEW.out.2.1; have := HNN.out; omega)
      clear hmn htk hR hRl
      go_wp2_with fail
      refine CL.out.mono ?_
      rintro er w1 ⟨vr, rfl, h1, h4⟩
      have Q0 : Hid (QS w w1.heap.size po false at_ how (.slice ad m cd) m (names.take m) R vr 0 (fun _ => .slice none 0 0) w1) := Lib.hid ⟨Nat.zero_le _, h4.block O.out (fun _ ho => by rcases ho with ⟨C, z, e⟩ | ⟨C, z, e⟩ | ⟨_, C, z, e⟩ | e <;> first | (cases e; done) | exact e), own_rel DN.out h4 (fun k C _ _ ho => by rcases ho with ⟨C, z, e⟩ | ⟨C, z, e⟩ | ⟨_, C, z, e⟩ | e <;> first | (cases e; done) | exact e), (fun b hb => Nat.lt_of_lt_of_le (DN.out.lt b hb).2 h4.size), (fun st => ⟨by simp [sc, namesR], .inl ⟨rfl, by simp [namesR]⟩⟩), (fun b hb => by cases hb), by rw [HRL.out]; exact own_base h1 BL.out.size, h4.block ZR.out (fun _ ho => by rcases ho with ⟨C, z, e⟩ | ⟨C, z, e⟩ | ⟨_, C, z, e⟩ | e <;> first | (cases e; done) | exact e), h4.out BL.out BL.out.size, ⟨Nat.le_trans BL.out.size h4.size, Nat.le_refl _⟩, ⟨PP.out, Nat.lt_of_lt_of_le (Array.getElem?_eq_some_iff.1 O.out).1 h4.size⟩⟩
      obtain ⟨ar, cr, rfl⟩ := own_slice h1
      obtain ⟨N1, hN1⟩ : ∃ p, w1.heap.size = p := ⟨_, rfl⟩
      rw [hN1] at Q0
      clear h1 h4 CL o0 O DN BG BX ZR BL hN1
      go_wp2_with fail
      go_loopg [90] m (fun r v90 wr => ∃ (i : Nat) (v : Bool → Value), i ≤ m ∧ r = m - i ∧ v90 = .int .i64 i ∧ Hid (QS w N1 po false at_ how (.slice ad m cd) m (names.take m) R (.slice ar m cr) i v wr))
      case atStart => exact ⟨0, fun _ => .slice none 0 0, by omega, by omega, rfl, Q0⟩
      case round =>
        clear Q0
        obtain ⟨i, v, hi, hr, rfl, QI⟩ := hrel
        have HR := Lib.hid hr
        clear hr
        by_cases hlt : i < m
        · have hiR : i < R.length := by rw [HRL.out]; exact hlt
          have hres := QI.out.res
          rw [HRL.out] at hres
          obtain ⟨gr, cr', hform, _, _⟩ := hres.form (by omega)
          injection hform with e1 e2 e3
          clear e2
          subst e1 e3
          obtain ⟨⟨rid, rnm, rbh⟩, hri⟩ : ∃ x, R[i]'hiR = x := ⟨_, rfl⟩
          have gx : ∀ j (u : Value), (rcells rid rnm rbh)[j]? = some u → wr.cell? ⟨gr, i * 5 + j, none⟩ = some u := fun j u hu => by
            have h3 : j < 5 := by have := (List.getElem?_eq_some_iff.1 hu).1; simpa [rcells] using this
            rw [hres.cellAt (i * 5 + j) (by omega)]
            exact rl_at R i hiR j u (by rw [hri]; exact hu)
          have g0 : wr.cell? ⟨gr, i * 5, none⟩ = some (.int .i64 rid) := gx 0 _ rfl
          have g1 : wr.cell? ⟨gr, i * 5 + 1, none⟩ = some (.string rnm) := gx 1 _ rfl
          have g2 : wr.cell? ⟨gr, i * 5 + 2, none⟩ = some (.int .i64 rbh.code) := gx 2 _ rfl
          have g3 : wr.cell? ⟨gr, i * 5 + 3, none⟩ = some (.bool rbh.pan) := gx 3 _ rfl
          have g4 : wr.cell? ⟨gr, i * 5 + 4, none⟩ = some (.string rbh.word) := gx 4 _ rfl
          have HRI : Hid (∀ h : i < R.length, R[i]'h = ⟨rid, rnm, rbh⟩) := Lib.hid (fun _ => hri)
          have hix : (0 : Int) ≤ (i : Int) ∧ (i : Int) < (m : Int) := by omega
          have hd : decide ((i : Int) < (m : Int)) = true := decide_eq_true (by omega)
          have TR := Lib.hid (zr5_there wr)
          have HLT := Lib.hid hlt
          have HIR := Lib.hid hiR
          clear gx hres hri hlt hi hiR
          go_wp2_with (refine wpList_store_all (by rfl) 77 (.tmp 18) (.tmp 93) (by rfl) wr.heap.size 0 [.int .i64 rid, .string rnm, .int .i64 rbh.code, .bool rbh.pan, .string rbh.word] (by kernel_rfl) (by kernel_rfl) TR.out (by kernel_rfl) (rcells_one rid rnm rbh) ?_)
          intro W5 HW5
          have hh5 := heap_setCells_same [.int .i64 rid, .string rnm, .int .i64 rbh.code, .bool rbh.pan, .string rbh.word] _ 0 _ (heap_alloc_new wr (.cells #[.int .i64 0, .string ⟨#[]⟩, .int .i64 0, .bool false, .string ⟨#[]⟩] 77))
          rw [← HW5.out] at hh5
          have hb5 : Below wr.heap.size wr W5 := by
            rw [HW5.out]
            exact ((Below.refl wr.heap.size wr).alloc (Nat.le_refl _) _).trans (below_lay (Nat.le_refl _) _ _ _)
          obtain ⟨_, v1, v2, v3, _⟩ := ends hh5
          obtain ⟨p18, hp18⟩ : ∃ p, p = wr.heap.size := ⟨_, rfl⟩
          rw [← hp18] at v1 v2 v3 ⊢
          have Q5 := Lib.hid (QI.out.below hb5)
          clear hh5 hb5 hp18 HW5 TR QI g0 g1 g2 g3 g4 hix hd
          obtain ⟨pn, hpn⟩ : ∃ x, rbh.pan = x := ⟨_, rfl⟩
          obtain ⟨cn', hcn⟩ : ∃ x, rbh.code = x := ⟨_, rfl⟩
          rw [hpn] at v3
          rw [hcn] at v2
          have HST : Hid (∀ h : i < R.length, stuckR (R[i]'h) = (pn || decide (cn' ≠ 0))) := Lib.hid (fun h => by
            rw [HRI.out h]
            unfold stuckR
            rw [hpn, hcn])
          clear hpn hcn
          cases pn with
          | true =>
            have hst : Hid (∀ h : i < R.length, stuckR (R[i]'h) = true) := Lib.hid (fun h => by rw [HST.out h]; first | rfl | exact hd)
            have q := (cell_of_row W5 po 5 _ _ _ Q5.out.out).trans (show (#[Value.bool false, .int .i64 at_, .int .u8 how, .slice ad m cd, v false, v true] : Array Value)[5]? = some (v true) from rfl)
            have hk256 : (namesR true (R.take i)).length ≤ 4 := by
              have h1 := namesR_le true (R.take i)
              have h2 : (R.take i).length ≤ i := by rw [List.length_take]; exact Nat.min_le_left _ _
              have h3 := HLT.out
              have h4 := HM4.out
              omega
            obtain ⟨irs, his, hs0, hs1, hs2⟩ := info_parts infoS
            go_wp2_with (refine wpList_append_lies _ (by rfl) (.tmp 102) (.tmp 105) 37 (by rfl) N1 9 irs _ 1 16 Try.underlying37 his hs0 hs1 hs2 rfl (by omega) (v true) (namesR true (R.take i)).length (sc (namesR true (R.take i))) (by rfl) ((Q5.out.row true).alloc _) ⟨W5.heap.size, 0, none⟩ 1 1 [.string rnm] (by rfl) (by rfl) (World.news_of_block (cs := #[.string rnm]) (t := 9) (fr := (0, 0)) (heap_alloc_new W5 _)) (by simp [Value.oneCell']) (by omega) (by unfold maxLen; omega) (by omega) (by have := Q5.out.nn.2; simp; omega) (W5.heap.size + 1) (by simp) ?_)
            intro g2 cap2 w7 hown hgrow hat hlt7
            have NX := Lib.hid (Q5.out.next HIR.out ((Below.refl W5.heap.size W5).alloc (Nat.le_refl _) (.cells #[.string rnm] 9 (0, 0))) true (hst.out _) (by rw [HRI.out HIR.out]; exact hown) hgrow (by simpa using hat))
            have n3 : w7.cell? ⟨po, 5, none⟩ = some (v true) := NX.out.2.1
            have nf3 : w7.frozen? ⟨po, 5, none⟩ = false := NX.out.2.2
            clear hown hgrow hat hlt7 q hk256 v1 v2 v3
            go_wp2_with fail
            go_roundg (m - (i + 1))
            case measure => rw [HR.out]; have := HLT.out; omega
            case rel => exact ⟨i + 1, _, by have := HLT.out; omega, rfl, by first | rfl | (rw [IntWalk.wrap64_in _ (by have := HLT.out; have := HM4.out; omega)]; rfl), Lib.hid NX.out.1⟩
          | false =>
            by_cases hc0 : cn' = 0
            · subst hc0
              have hst : Hid (∀ h : i < R.length, stuckR (R[i]'h) = false) := Lib.hid (fun h => by rw [HST.out h]; first | rfl | exact hd)
              have q := (cell_of_row W5 po 4 _ _ _ Q5.out.out).trans (show (#[Value.bool false, .int .i64 at_, .int .u8 how, .slice ad m cd, v false, v true] : Array Value)[4]? = some (v false) from rfl)
              have hk256 : (namesR false (R.take i)).length ≤ 4 := by
                have h1 := namesR_le false (R.take i)
                have h2 : (R.take i).length ≤ i := by rw [List.length_take]; exact Nat.min_le_left _ _
                have h3 := HLT.out
                have h4 := HM4.out
                omega
              obtain ⟨irs, his, hs0, hs1, hs2⟩ := info_parts infoS
              go_wp2_with (refine wpList_append_lies _ (by rfl) (.tmp 109) (.tmp 112) 37 (by rfl) N1 9 irs _ 1 16 Try.underlying37 his hs0 hs1 hs2 rfl (by omega) (v false) (namesR false (R.take i)).length (sc (namesR false (R.take i))) (by rfl) ((Q5.out.row false).alloc _) ⟨W5.heap.size, 0, none⟩ 1 1 [.string rnm] (by rfl) (by rfl) (World.news_of_block (cs := #[.string rnm]) (t := 9) (fr := (0, 0)) (heap_alloc_new W5 _)) (by simp [Value.oneCell']) (by omega) (by unfold maxLen; omega) (by omega) (by have := Q5.out.nn.2; simp; omega) (W5.heap.size + 1) (by simp) ?_)
              intro g2 cap2 w7 hown hgrow hat hlt7
              have NX := Lib.hid (Q5.out.next HIR.out ((Below.refl W5.heap.size W5).alloc (Nat.le_refl _) (.cells #[.string rnm] 9 (0, 0))) false (hst.out _) (by rw [HRI.out HIR.out]; exact hown) hgrow (by simpa using hat))
              have n3 : w7.cell? ⟨po, 4, none⟩ = some (v false) := NX.out.2.1
              have nf3 : w7.frozen? ⟨po, 4, none⟩ = false := NX.out.2.2
              clear hown hgrow hat hlt7 q hk256 v1 v2 v3
              go_wp2_with fail
              go_roundg (m - (i + 1))
              case measure => rw [HR.out]; have := HLT.out; omega
              case rel => exact ⟨i + 1, _, by have := HLT.out; omega, rfl, by first | rfl | (rw [IntWalk.wrap64_in _ (by have := HLT.out; have := HM4.out; omega)]; rfl), Lib.hid NX.out.1⟩
            · have hd : decide (cn' ≠ 0) = true := decide_eq_true hc0
              have hst : Hid (∀ h : i < R.length, stuckR (R[i]'h) = true) := Lib.hid (fun h => by rw [HST.out h]; first | rfl | exact hd)
              have q := (cell_of_row W5 po 5 _ _ _ Q5.out.out).trans (show (#[Value.bool false, .int .i64 at_, .int .u8 how, .slice ad m cd, v false, v true] : Array Value)[5]? = some (v true) from rfl)
              have hk256 : (namesR true (R.take i)).length ≤ 4 := by
                have h1 := namesR_le true (R.take i)
                have h2 : (R.take i).length ≤ i := by rw [List.length_take]; exact Nat.min_le_left _ _
                have h3 := HLT.out
                have h4 := HM4.out
                omega
              obtain ⟨irs, his, hs0, hs1, hs2⟩ := info_parts infoS
              go_wp2_with (refine wpList_append_lies _ (by rfl) (.tmp 102) (.tmp 105) 37 (by rfl) N1 9 irs _ 1 16 Try.underlying37 his hs0 hs1 hs2 rfl (by omega) (v true) (namesR true (R.take i)).length (sc (namesR true (R.take i))) (by rfl) ((Q5.out.row true).alloc _) ⟨W5.heap.size, 0, none⟩ 1 1 [.string rnm] (by rfl) (by rfl) (World.news_of_block (cs := #[.string rnm]) (t := 9) (fr := (0, 0)) (heap_alloc_new W5 _)) (by simp [Value.oneCell']) (by omega) (by unfold maxLen; omega) (by omega) (by have := Q5.out.nn.2; simp; omega) (W5.heap.size + 1) (by simp) ?_)
              intro g2 cap2 w7 hown hgrow hat hlt7
              have NX := Lib.hid (Q5.out.next HIR.out ((Below.refl W5.heap.size W5).alloc (Nat.le_refl _) (.cells #[.string rnm] 9 (0, 0))) true (hst.out _) (by rw [HRI.out HIR.out]; exact hown) hgrow (by simpa using hat))
              have n3 : w7.cell? ⟨po, 5, none⟩ = some (v true) := NX.out.2.1
              have nf3 : w7.frozen? ⟨po, 5, none⟩ = false := NX.out.2.2
              clear hown hgrow hat hlt7 q hk256 v1 v2 v3
              go_wp2_with fail
              go_roundg (m - (i + 1))
              case measure => rw [HR.out]; have := HLT.out; omega
              case rel => exact ⟨i + 1, _, by have := HLT.out; omega, rfl, by first | rfl | (rw [IntWalk.wrap64_in _ (by have := HLT.out; have := HM4.out; omega)]; rfl), Lib.hid NX.out.1⟩
        · have him : m = i := by omega
          subst him
          have hx : ¬ (m : Int) < (m : Int) := by omega
          have RD := Lib.hid QI.out.done
          have ZR := Lib.hid QI.out.zer
          have BL := Lib.hid QI.out.bel
          have rg := QI.out.row false
          have rs := QI.out.row true
          have ho := QI.out.out
          rw [List.take_of_length_le (by have := HRL.out; omega)] at rg rs
          obtain ⟨vg, hvg⟩ : ∃ x, v false = x := ⟨_, rfl⟩
          obtain ⟨vs, hvs⟩ : ∃ x, v true = x := ⟨_, rfl⟩
          rw [hvg] at rg ho
          rw [hvs] at rs ho
          rw [← HRR.out] at rg rs
          have RG := Lib.hid (own_base rg QI.out.nn.1)
          have RS := Lib.hid (own_base rs QI.out.nn.1)
          have O := Lib.hid ho
          obtain ⟨ag, cg, rfl⟩ := own_slice rg
          obtain ⟨az, cs', rfl⟩ := own_slice rs
          obtain ⟨ng, hng⟩ : ∃ x, (namesR false (resT fs 0 (names.take m)).reverse).length = x := ⟨_, rfl⟩
          obtain ⟨ns, hns⟩ : ∃ x, (namesR true (resT fs 0 (names.take m)).reverse).length = x := ⟨_, rfl⟩
          clear rg rs ho hvg hvs QI hng hns
          have o0 := (cell_of_row wr po 0 _ _ _ O.out).trans (show (#[Value.bool false, .int .i64 at_, .int .u8 how, .slice ad m cd, .slice ag (namesR false (resT fs 0 (names.take m)).reverse).length cg, .slice az (namesR true (resT fs 0 (names.take m)).reverse).length cs'] : Array Value)[0]? = some (Value.bool false) from rfl)
          have o1 := (cell_of_row wr po 1 _ _ _ O.out).trans (show (#[Value.bool false, .int .i64 at_, .int .u8 how, .slice ad m cd, .slice ag (namesR false (resT fs 0 (names.take m)).reverse).length cg, .slice az (namesR true (resT fs 0 (names.take m)).reverse).length cs'] : Array Value)[1]? = some (.int .i64 at_) from rfl)
          have o2 := (cell_of_row wr po 2 _ _ _ O.out).trans (show (#[Value.bool false, .int .i64 at_, .int .u8 how, .slice ad m cd, .slice ag (namesR false (resT fs 0 (names.take m)).reverse).length cg, .slice az (namesR true (resT fs 0 (names.take m)).reverse).length cs'] : Array Value)[2]? = some (.int .u8 how) from rfl)
          have o3 := (cell_of_row wr po 3 _ _ _ O.out).trans (show (#[Value.bool false, .int .i64 at_, .int .u8 how, .slice ad m cd, .slice ag (namesR false (resT fs 0 (names.take m)).reverse).length cg, .slice az (namesR true (resT fs 0 (names.take m)).reverse).length cs'] : Array Value)[3]? = some (.slice ad m cd) from rfl)
          have o4 := (cell_of_row wr po 4 _ _ _ O.out).trans (show (#[Value.bool false, .int .i64 at_, .int .u8 how, .slice ad m cd, .slice ag (namesR false (resT fs 0 (names.take m)).reverse).length cg, .slice az (namesR true (resT fs 0 (names.take m)).reverse).length cs'] : Array Value)[4]? = some (.slice ag (namesR false (resT fs 0 (names.take m)).reverse).length cg) from rfl)
          have o5 := (cell_of_row wr po 5 _ _ _ O.out).trans (show (#[Value.bool false, .int .i64 at_, .int .u8 how, .slice ad m cd, .slice ag (namesR false (resT fs 0 (names.take m)).reverse).length cg, .slice az (namesR true (resT fs 0 (names.take m)).reverse).length cs'] : Array Value)[5]? = some (.slice az (namesR true (resT fs 0 (names.take m)).reverse).length cs') from rfl)
          have TH : Hid (wr.there (w.heap.size + 1 + 1) 0 6) := Lib.hid (fun j hj => ⟨by
            rw [cell_of_row _ _ _ _ _ _ ZR.out]
            exact Option.isSome_iff_exists.2 ⟨_, Array.getElem?_eq_getElem (by simp; omega)⟩, frozen_of_row _ _ _ _ _ ZR.out⟩)
          go_wp2_with (refine wpList_store_all (by rfl) 56 (.tmp 4) (.tmp 116) (by rfl) (w.heap.size + 1 + 1) 0 [Value.bool false, .int .i64 at_, .int .u8 how, .slice ad m cd, .slice ag (namesR false (resT fs 0 (names.take m)).reverse).length cg, .slice az (namesR true (resT fs 0 (names.take m)).reverse).length cs'] (by kernel_rfl) (by kernel_rfl) TH.out (by kernel_rfl) (by simp [Value.oneCell']) ?_)
          intro W4 HW4
          have hh4 := heap_setCells_same [Value.bool false, .int .i64 at_, .int .u8 how, .slice ad m cd, .slice ag (namesR false (resT fs 0 (names.take m)).reverse).length cg, .slice az (namesR true (resT fs 0 (names.take m)).reverse).length cs'] wr 0 _ ZR.out
          have rr : Rel w.heap.size (fun j o => j = w.heap.size + 1 + 1 ∧ ∃ C z, o = .cells C 56 z) wr W4 := by
            rw [HW4.out]
            exact rel_lay (Nat.le_trans (Nat.le_succ _) (Nat.le_succ _)) (fun C => ⟨rfl, C, _, rfl⟩) _ _ _ _ ZR.out
          have P4 : Hid (W4.heap[w.heap.size + 1 + 1]? = some (.cells #[Value.bool false, .int .i64 at_, .int .u8 how, .slice ad m cd, .slice ag (namesR false (resT fs 0 (names.take m)).reverse).length cg, .slice az (namesR true (resT fs 0 (names.take m)).reverse).length cs'] 56 (0, 0)) ∧ Rel w.heap.size (fun j o => j = w.heap.size + 1 + 1 ∧ ∃ C z, o = .cells C 56 z) wr W4) := Lib.hid ⟨by
            rw [HW4.out]
            exact hh4, rr⟩
          clear hh4 rr o0 o1 o2 o3 o4 o5
          have v0 := (cell_of_row W4 _ 0 _ _ _ P4.out.1).trans (show (#[Value.bool false, .int .i64 at_, .int .u8 how, .slice ad m cd, .slice ag (namesR false (resT fs 0 (names.take m)).reverse).length cg, .slice az (namesR true (resT fs 0 (names.take m)).reverse).length cs'] : Array Value)[0]? = some (Value.bool false) from rfl)
          have v1 := (cell_of_row W4 _ 1 _ _ _ P4.out.1).trans (show (#[Value.bool false, .int .i64 at_, .int .u8 how, .slice ad m cd, .slice ag (namesR false (resT fs 0 (names.take m)).reverse).length cg, .slice az (namesR true (resT fs 0 (names.take m)).reverse).length cs'] : Array Value)[1]? = some (.int .i64 at_) from rfl)
          have v2 := (cell_of_row W4 _ 2 _ _ _ P4.out.1).trans (show (#[Value.bool false, .int .i64 at_, .int .u8 how, .slice ad m cd, .slice ag (namesR false (resT fs 0 (names.take m)).reverse).length cg, .slice az (namesR true (resT fs 0 (names.take m)).reverse).length cs'] : Array Value)[2]? = some (.int .u8 how) from rfl)
          have v3 := (cell_of_row W4 _ 3 _ _ _ P4.out.1).trans (show (#[Value.bool false, .int .i64 at_, .int .u8 how, .slice ad m cd, .slice ag (namesR false (resT fs 0 (names.take m)).reverse).length cg, .slice az (namesR true (resT fs 0 (names.take m)).reverse).length cs'] : Array Value)[3]? = some (.slice ad m cd) from rfl)
          have v4 := (cell_of_row W4 _ 4 _ _ _ P4.out.1).trans (show (#[Value.bool false, .int .i64 at_, .int .u8 how, .slice ad m cd, .slice ag (namesR false (resT fs 0 (names.take m)).reverse).length cg, .slice az (namesR true (resT fs 0 (names.take m)).reverse).length cs'] : Array Value)[4]? = some (.slice ag (namesR false (resT fs 0 (names.take m)).reverse).length cg) from rfl)
          have v5 := (cell_of_row W4 _ 5 _ _ _ P4.out.1).trans (show (#[Value.bool false, .int .i64 at_, .int .u8 how, .slice ad m cd, .slice ag (namesR false (resT fs 0 (names.take m)).reverse).length cg, .slice az (namesR true (resT fs 0 (names.take m)).reverse).length cs'] : Array Value)[5]? = some (.slice az (namesR true (resT fs 0 (names.take m)).reverse).length cs') from rfl)
          clear HW4
          go_wp2_with fail
          refine bodyPost_ret (v := .tuple #[.agg #[Value.bool false, .int .i64 at_, .int .u8 how, .slice ad m cd, .slice ag (namesR false (resT fs 0 (names.take m)).reverse).length cg, .slice az (namesR true (resT fs 0 (names.take m)).reverse).length cs'], .int .i64 0]) (by simp [results, Try.results17, go_sem, v0, v1, v2, v3, v4, v5]) rfl ?_
          have nost : ∀ (k : Nat) (C : Array Value), ¬ (k = w.heap.size + 1 + 1 ∧ ∃ C' z, Obj.cells C 9 (0, 0) = .cells C' 56 z) := fun k C h => by
            obtain ⟨_, C', z, h⟩ := h
            cases h
          unfold ProbeT
          rw [HNM.out]
          exact ⟨m, false, at_, how, .slice ad m cd, .slice ag (namesR false (resT fs 0 (names.take m)).reverse).length cg, .slice az (namesR true (resT fs 0 (names.take m)).reverse).length cs', by rw [HNN.out]; exact FAR.out, rfl, own_rel RD.out P4.out.2 (fun k C _ _ => nost k C), own_rel RG.out P4.out.2 (fun k C _ _ => nost k C), own_rel RS.out P4.out.2 (fun k C _ _ => nost k C), P4.out.2.out BL.out BL.out.size⟩
end Go.Proofs.Ytnajbogmhhlpcaa
