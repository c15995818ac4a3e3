/- ProbeGroups answers true. -/
import Derived.Test.YtnkababhgloclaaGroupsD
import Derived.Test.YtnkababhgloclaaWorksC
namespace Go.Proofs.Ytnkababhgloclaa
open Go.RowKit Go.ChangeShapes
theorem runB_len {σ : Type} (bhF : σ → Th → List Th → Beh) (next : σ → Th → List Th → σ) (L0 : List Th) : ∀ (M : List Th) (s : σ), (runB bhF next L0 M s).2.length = (M.filter fun t => t.fn.isSome).length
  | [], _ => rfl
  | t :: M, s => by
    unfold runB
    cases hf : t.fn with
    | none => simp only [List.filter_cons, hf]; exact runB_len bhF next L0 M s
    | some f => simp only [List.filter_cons, hf, Option.isSome_some, if_true, List.length_cons, runB_len bhF next L0 M]
theorem g_pos {L : List Th} (hi : Ids L) {n : Nat} (hn : n < L.length) (hf : L[n].fn = none) : posT L ((n : Int) + 1) true = some n :=
  posT_some hn (by simp [matchT, hi n hn, hf]) (fun j hj => by
    have := hi j (by omega)
    simp only [matchT, this]
    rw [decide_eq_false (by omega)]
    rfl)
theorem g_pos_none {L : List Th} (hi : Ids L) : posT L ((L.length : Int) + 1) true = none :=
  posT_none (fun j hj => by
    have := hi j hj
    simp only [matchT, this]
    rw [decide_eq_false (by omega)]
    rfl)
open Classical in
/-- How a thing ends, read off its box. -/
noncomputable def bhW (w : World) (t : Th) : Beh :=
  if h : ∃ q : Nat × St, t.fn = some (32, #[.pointer (some ⟨q.1, 0, none⟩)]) ∧ w.heap[q.1]? = some (.cells (St.cells q.2).toArray 36 (0, 0)) then behG h.choose.2 else .ret 0
theorem groups_back {w : World} {B b : Nat} {L : List Th} {last : Int} (h : BagAt w B b L last false false) (hl : L.length ≤ 256) (hB : B ≤ w.heap.size) (hbox : BoxG w B L) (id : Int) (i : Nat) (hp : posT L id true = some i) :
    Calls Try.prog 28 #[.pointer (some ⟨b, 0, none⟩), .int .i64 id] w fun e w' => ∃ a c, e = .returned (.tuple #[.slice a (heldN (L.drop i)).length c, .int .i64 0]) ∧ BagAt w' B b (L.take i) last false false ∧ Rel B (SX b w.heap.size fun _ _ => False) w w' := by
  have hh := bback_some (σ := Unit) (fun _ t _ => bhW w t) (fun _ _ _ => ()) (fun _ x => ∀ p s, w.heap[p]? = some (Obj.cells (St.cells s).toArray 36 (0, 0)) → x.heap[p]? = some (Obj.cells (St.cells s).toArray 36 (0, 0))) (fun _ _ => False) () h hl id i hp hB (fun _ _ h => h) (fun _ _ _ => ⟨fun h => h, fun h => h, fun h => h, fun h => h⟩)
    (fun _ x x' hx hr => by
      intro p s hs
      refine hr.block (hx p s hs) (fun _ ho => ?_)
      rcases ho with (⟨_, C, z, e⟩ | ⟨C, z, e⟩) | ⟨_, C, z, e⟩ | e
      · cases e
      · cases e
      · cases e
      · exact e)
    (fun t ht k c hf x => by
      obtain ⟨p, s, rfl, rfl, _⟩ := hbox t ht k c hf
      kernel_rfl)
    (fun t ht k c hf s R x hx _ _ => by
      obtain ⟨p, s, rfl, rfl, _, h4⟩ := hbox t ht k c hf
      have hex : ∃ q : Nat × St, t.fn = some (32, #[.pointer (some ⟨q.1, 0, none⟩)]) ∧ w.heap[q.1]? = some (.cells (St.cells q.2).toArray 36 (0, 0)) := ⟨(p, s), hf, h4⟩
      obtain ⟨e1, e2⟩ := hex.choose_spec
      have e1 := hf.symm.trans e1
      injection e1 with e1
      injection e1 with _ e1
      have e3 : p = hex.choose.1 := by
        have := congrArg (fun (a : Array Value) => a[0]?) e1
        simpa using this
      have hb : bhW w t = behG hex.choose.2 := dif_pos hex
      refine (fn1_any p hex.choose.2 x (hx _ _ (by rw [e3]; exact e2))).mono (fun e x' he => ⟨by rw [he.1]; simp only [hb], by rw [he.2]; exact Rel.refl _ _ _, by rw [he.2]; exact hx⟩))
  refine hh.mono (fun e w' h => ?_)
  obtain ⟨v, rfl, h1, h2, _, h5⟩ := h
  rw [runB_len] at h1
  have e : ((L.drop i).reverse.filter fun t => t.fn.isSome).length = (heldN (L.drop i)).length := by
    unfold heldN
    rw [List.length_map, List.filter_reverse, List.length_reverse]
  rw [e] at h1
  obtain ⟨a, c, rfl⟩ := own_slice h1
  exact ⟨a, c, rfl, h2, h5⟩
theorem SX_str {b N : Nat} {S : Nat → Obj → Prop} (hS : ∀ k C z, ¬ S k (.cells C 9 z)) (k : Nat) (C : Array Value) (z : Nat × Nat) : ¬ SX b N S k (.cells C 9 z) := fun h => by
  rcases h with (⟨_, C, z, e⟩ | ⟨C, z, e⟩) | ⟨_, C, z, e⟩ | e
  · cases e
  · cases e
  · cases e
  · exact hS _ _ _ e
theorem SX_pbag {b N : Nat} {S : Nat → Obj → Prop} (hS : ∀ k C z, ¬ S k (.cells C 24 z)) (k : Nat) (C : Array Value) (z : Nat × Nat) : ¬ SX b N S k (.cells C 24 z) := fun h => by
  rcases h with (⟨_, C, z, e⟩ | ⟨C, z, e⟩) | ⟨_, C, z, e⟩ | e
  · cases e
  · cases e
  · cases e
  · exact hS _ _ _ e
set_option maxHeartbeats 16000000 in
set_option maxRecDepth 100000 in
theorem probeGroups_walk {H : Type} {enc : TypeId × Value → H} (v : Value) (d : DataW H) (ps : List MemPlace) (u : Value) (d2 : DataW H) (ps2 : List MemPlace) (W : World)
    (h : DataW.Trod enc Try.prog W 0 (fun _ => true) true 22 v d ps) {base : Nat} (hok : Value.okWide Try.prog W .any base 22 v) (hw : ∀ n ∈ DataW.weights Try.prog 22 d, n ≤ reachBytes)
    (h2 : DataW.Trod enc Try.prog W 0 (fun _ => true) true 22 u d2 ps2) {base2 : Nat} (hok2 : Value.okWide Try.prog W .any base2 22 u) (hw2 : ∀ n ∈ DataW.weights Try.prog 22 d2, n ≤ reachBytes) (hsh : W.ShapedOpen Try.prog) :
    Calls Try.prog 7 #[v, u] W fun e w' => e = .returned (.bool true) ∧ Below W.heap.size W w' := by
  have hmf : ∀ (fn : Fn) (first cap : Array Value) (w : World), (Instr.makeFunc fn first cap).run Try.prog w = .ok (.func fn first cap) w := fun _ _ _ _ => rfl
  obtain ⟨ts, hv, hsz, _⟩ := sts_arg hok h hw
  obtain ⟨us, hu, hsz2, _⟩ := sts_arg hok2 h2 hw2
  have HV := Lib.hid hv
  have HU := Lib.hid hu
  obtain ⟨av, cv, rfl, _⟩ := hv
  obtain ⟨au, cu, rfl, _⟩ := hu
  have L1 : Hid (ts.length ≤ 140737488355328) := Lib.hid (by unfold reachBytes at hsz; omega)
  have L2 : Hid (us.length ≤ 140737488355328) := Lib.hid (by unfold reachBytes at hsz2; omega)
  have WA := Lib.hid (works_any hsh W (Below.refl _ W))
  clear h hok hw h2 hok2 hw2 hsh hsz hsz2
  go_enter Try.func7, Try.ntmps7
  go_wp2_with fail
  refine WA.out.mono ?_
  rintro er w1 ⟨rfl, hb⟩
  have B1 := Lib.hid hb
  clear hb WA
  go_wp2_with fail
  refine (bnew_any w1).mono ?_
  rintro er w2 ⟨rfl, hw2⟩
  have ba := (Below.refl w1.heap.size w1).alloc (Nat.le_refl _) (.cells #[.slice none 0 0, .int .i64 0, .bool false, .bool false] 89)
  have BG : Hid (BagAt w2 W.heap.size w1.heap.size [] 0 false false) := Lib.hid (by rw [hw2]; exact bag_new w1 _ B1.out.size)
  rw [← hw2] at ba
  have B2 := Lib.hid (B1.out.trans (ba.mono B1.out.size))
  obtain ⟨b, hbb⟩ : ∃ p, p = w1.heap.size := ⟨_, rfl⟩
  rw [← hbb] at BG ⊢
  clear ba hw2 hbb B1
  have b3 := (Below.refl w2.heap.size w2).alloc (Nat.le_refl _) (.cells #[.pointer (some ⟨b, 0, none⟩)] 24)
  have PB : Hid ((w2.alloc (.cells #[.pointer (some ⟨b, 0, none⟩)] 24)).heap[w2.heap.size]? = some (.cells #[.pointer (some ⟨b, 0, none⟩)] 24 (0, 0))) := Lib.hid (heap_alloc_new w2 _)
  have BG3 := Lib.hid (BG.out.below b3)
  have B3 := Lib.hid (B2.out.trans (b3.mono B2.out.size))
  clear b3 BG B2
  go_upto_region 4 with fail
  obtain ⟨pb, hpb⟩ : ∃ p, p = w2.heap.size := ⟨_, rfl⟩
  rw [← hpb] at PB ⊢
  obtain ⟨w3, hw3⟩ : ∃ x, x = w2.alloc (.cells #[.pointer (some ⟨b, 0, none⟩)] 24) := ⟨_, rfl⟩
  rw [← hw3] at PB BG3 B3 ⊢
  clear hpb hw3
  have q0 := (cell_of_row w3 pb 0 _ _ _ PB.out).trans (show (#[Value.pointer (some ⟨b, 0, none⟩)] : Array Value)[0]? = some (.pointer (some ⟨b, 0, none⟩)) from rfl)
  have C1 := Lib.hid (gput_any B3.out BG3.out Ids.nil (BoxG.nil _ _) PB.out HV.out (by simp) L1.out)
  go_wp2_with fail
  refine C1.out.mono ?_
  rintro er w4 ⟨rfl, M1, hM1⟩
  obtain ⟨g1, g2, g3, g4, g5⟩ := hM1
  rw [List.nil_append] at g2 g3 g4
  have PB4 := Lib.hid (g5.block PB.out (fun _ => SB_not (by decide) (by decide)))
  have B4 := Lib.hid (g5.out B3.out B3.out.size)
  have BG4 := Lib.hid g2
  have ID4 := Lib.hid g3
  have BX4 := Lib.hid g4
  have ML := Lib.hid g1
  clear g1 g2 g3 g4 g5 q0 PB BG3 B3 C1
  have q0 := (cell_of_row w4 pb 0 _ _ _ PB4.out).trans (show (#[Value.pointer (some ⟨b, 0, none⟩)] : Array Value)[0]? = some (.pointer (some ⟨b, 0, none⟩)) from rfl)
  have C1 := Lib.hid (held_any BG4.out (by have := ML.out; omega))
  go_wp2_with fail
  refine C1.out.mono ?_
  rintro er w5 ⟨vw, rfl, how, hb⟩
  obtain ⟨aw, cw, rfl⟩ := own_slice how
  have WAS := Lib.hid (own_base how B4.out.size)
  have WL := Lib.hid (how.lt)
  have PB5 := Lib.hid ((hb.block pb (Array.getElem?_eq_some_iff.1 PB4.out).1).trans PB4.out)
  have BG5 := Lib.hid (BG4.out.below hb)
  have BX5 := Lib.hid (BX4.out.rel (Rel.below (B := 0) (S := fun _ _ => False) hb) (fun _ _ _ h => h))
  have B5 := Lib.hid (B4.out.trans (hb.mono B4.out.size))
  clear hb how q0 PB4 BG4 BX4 B4 C1 WL
  have q0 := (cell_of_row w5 pb 0 _ _ _ PB5.out).trans (show (#[Value.pointer (some ⟨b, 0, none⟩)] : Array Value)[0]? = some (.pointer (some ⟨b, 0, none⟩)) from rfl)
  have C1 := Lib.hid (bmark_room BG5.out B5.out.size (by have := ML.out; omega) (by omega) (by have := ML.out; omega))
  obtain ⟨n, hn⟩ : ∃ n, M1.length = n := ⟨_, rfl⟩
  rw [hn] at C1 BG5 ML
  have HN := Lib.hid hn
  clear hn
  go_wp2_with fail
  refine C1.out.mono ?_
  rintro er w6 ⟨rfl, hbag, hrel⟩
  have PB6 := Lib.hid (hrel.block PB5.out (fun _ => SB_not (by decide) (by decide)))
  have WAS6 := Lib.hid (own_rel WAS.out hrel (fun k C _ _ => SB_not (by decide) (by decide)))
  have BX6 := Lib.hid ((BX5.out.rel hrel SB_step).mark ((n : Int) + 1) ⟨#[]⟩)
  have B6 := Lib.hid (hrel.out B5.out B5.out.size)
  have hlen : (M1 ++ [(⟨(n : Int) + 1, ⟨#[]⟩, none⟩ : Th)]).length = n + 1 := by simp; exact HN.out
  have BG6 : Hid (BagAt w6 W.heap.size b (M1 ++ [⟨(n : Int) + 1, ⟨#[]⟩, none⟩]) ((M1 ++ [(⟨(n : Int) + 1, ⟨#[]⟩, none⟩ : Th)]).length : Nat) false false) := Lib.hid (by rw [hlen]; exact hbag)
  have ID6 : Hid (Ids (M1 ++ [⟨(n : Int) + 1, ⟨#[]⟩, none⟩])) := Lib.hid (by rw [← HN.out]; exact ID4.out.snoc _ _)
  have HLE := Lib.hid hlen
  clear hbag hrel q0 PB5 BG5 BX5 B5 C1 WAS hlen
  have C1 := Lib.hid (gput_any B6.out BG6.out ID6.out BX6.out PB6.out HU.out (by rw [HLE.out]; have := ML.out; omega) L2.out)
  go_wp2_with fail
  refine C1.out.mono ?_
  rintro er w7 ⟨rfl, M2, hM2⟩
  obtain ⟨g1, g2, g3, g4, g5⟩ := hM2
  have PB7 := Lib.hid (g5.block PB6.out (fun _ => SB_not (by decide) (by decide)))
  have B7 := Lib.hid (g5.out B6.out B6.out.size)
  have BG7 := Lib.hid g2
  have ID7 := Lib.hid g3
  have BX7 := Lib.hid g4
  have WAS7 := Lib.hid (own_rel WAS6.out g5 (fun k C _ _ => SB_not (by decide) (by decide)))
  obtain ⟨L2', hL2⟩ : ∃ L, L = M1 ++ [⟨(n : Int) + 1, ⟨#[]⟩, none⟩] ++ M2 := ⟨_, rfl⟩
  have L2len : L2'.length ≤ 201 ∧ n < L2'.length := by
    rw [hL2, List.length_append, HLE.out]
    have := ML.out
    omega
  have T2 : L2'.take n = M1 := by
    rw [hL2, List.append_assoc, List.take_append_of_le_length (by rw [HN.out]; exact Nat.le_refl _), List.take_of_length_le (by rw [HN.out]; exact Nat.le_refl _)]
  have F2 : ∀ h : n < L2'.length, L2'[n].fn = none := by
    subst hL2
    intro h
    have e : n < (M1 ++ [(⟨(n : Int) + 1, ⟨#[]⟩, none⟩ : Th)]).length := by rw [HLE.out]; omega
    rw [List.getElem_append_left e, List.getElem_append_right (by rw [HN.out]; exact Nat.le_refl _)]
    simp
  rw [← hL2] at BG7 ID7 BX7
  have LEN2 := Lib.hid L2len
  have POS := Lib.hid (g_pos ID7.out L2len.2 (F2 L2len.2))
  have TT := Lib.hid T2
  have CNT : Hid ((heldN L2').length = (heldN M1).length + (heldN (L2'.drop n)).length) := Lib.hid (by
    conv => lhs; rw [← List.take_append_drop n L2', heldN_append, List.length_append]
    rw [T2])
  clear g1 g2 g3 g4 g5 hL2 L2len T2 F2 PB6 BG6 BX6 B6 C1 WAS6 ID6
  have q0 := (cell_of_row w7 pb 0 _ _ _ PB7.out).trans (show (#[Value.pointer (some ⟨b, 0, none⟩)] : Array Value)[0]? = some (.pointer (some ⟨b, 0, none⟩)) from rfl)
  have C1 := Lib.hid (held_any BG7.out (by have := LEN2.out; omega))
  go_wp2_with fail
  refine C1.out.mono ?_
  rintro er w8 ⟨vn, rfl, hon, hb⟩
  obtain ⟨an, cn, rfl⟩ := own_slice hon
  have PB8 := Lib.hid ((hb.block pb (Array.getElem?_eq_some_iff.1 PB7.out).1).trans PB7.out)
  have BG8 := Lib.hid (BG7.out.below hb)
  have WAS8 := Lib.hid (own_below WAS7.out hb)
  have BX8 := Lib.hid (BX7.out.rel (Rel.below (B := 0) (S := fun _ _ => False) hb) (fun _ _ _ h => h))
  have B8 := Lib.hid (B7.out.trans (hb.mono B7.out.size))
  obtain ⟨N2, hN2⟩ : ∃ x, (heldN L2').length = x := ⟨_, rfl⟩
  rw [hN2] at CNT ⊢
  have HN2 : Hid (N2 ≤ 201) := Lib.hid (by rw [← hN2]; exact Nat.le_trans (heldN_len _) LEN2.out.1)
  clear hb hon q0 PB7 BG7 BX7 B7 C1 WAS7 hN2
  have q0 := (cell_of_row w8 pb 0 _ _ _ PB8.out).trans (show (#[Value.pointer (some ⟨b, 0, none⟩)] : Array Value)[0]? = some (.pointer (some ⟨b, 0, none⟩)) from rfl)
  have C1 := Lib.hid (groups_back BG8.out (by have := LEN2.out; omega) B8.out.size BX8.out _ n POS.out)
  obtain ⟨nd, hnd⟩ : ∃ x, (heldN (L2'.drop n)).length = x := ⟨_, rfl⟩
  rw [hnd, TT.out] at C1
  rw [hnd] at CNT
  clear hnd
  go_wp2_with fail
  refine C1.out.mono ?_
  rintro er w9 ⟨al, cl, rfl, hbag, hrel⟩
  have PB9 := Lib.hid (hrel.block PB8.out (fun _ => SX_pbag (fun _ _ _ h => h) _ _ _))
  have WAS9 := Lib.hid (own_rel WAS8.out hrel (fun k C _ _ => SX_str (fun _ _ _ h => h) _ _ _))
  have B9 := Lib.hid (hrel.out B8.out B8.out.size)
  have BG9 := Lib.hid hbag
  clear hbag hrel q0 PB8 BG8 BX8 B8 C1 WAS8
  have q0 := (cell_of_row w9 pb 0 _ _ _ PB9.out).trans (show (#[Value.pointer (some ⟨b, 0, none⟩)] : Array Value)[0]? = some (.pointer (some ⟨b, 0, none⟩)) from rfl)
  have C1 := Lib.hid (held_any BG9.out (by have := ML.out; have := HN.out; omega))
  obtain ⟨n1, hn1⟩ : ∃ x, (heldN M1).length = x := ⟨_, rfl⟩
  have HN1 := Lib.hid hn1
  rw [hn1] at C1 CNT
  rw [hn1]
  clear hn1
  have ww : wrap64 ((N2 : Int) - (n1 : Int)) = (nd : Int) := by
    have h1 := CNT.out
    rw [IntWalk.wrap64_in _ (by have := HN2.out; omega)]
    omega
  go_wp2_with fail
  refine C1.out.mono ?_
  rintro er w10 ⟨vh, rfl, hoh, hb⟩
  obtain ⟨ah, ch, rfl⟩ := own_slice hoh
  have PB10 := Lib.hid ((hb.block pb (Array.getElem?_eq_some_iff.1 PB9.out).1).trans PB9.out)
  have BG10 := Lib.hid (BG9.out.below hb)
  have B10 := Lib.hid (B9.out.trans (hb.mono B9.out.size))
  have SA : Hid (Strs w10 (.slice ah n1 ch) (heldN M1)) := Lib.hid (by
    have := strs_own (zs := heldN M1) (by rw [HN1.out]; exact hoh) (by unfold maxLen; have := HN1.out; have := heldN_len M1; have := HN.out; have := ML.out; omega)
    exact this)
  have SB' : Hid (Strs w10 (.slice aw n1 cw) (heldN M1)) := Lib.hid (by
    have := strs_own (zs := heldN M1) (own_below WAS9.out hb) (by unfold maxLen; have := HN1.out; have := heldN_len M1; have := HN.out; have := ML.out; omega)
    rw [HN1.out] at this
    exact this)
  have CS := stexts_any _ _ _ _ w10 SA.out SB'.out
  rw [decide_eq_true rfl] at CS
  have CS := Lib.hid CS
  clear hb hoh q0 PB9 BG9 B9 C1 WAS9 SA SB'
  go_wp2_with fail
  refine CS.out.mono ?_
  rintro er w11 ⟨rfl, n11, rfl⟩
  have hb := below_drewN (Below.refl w10.heap.size w10) n11
  have PB11 := Lib.hid ((hb.block pb (Array.getElem?_eq_some_iff.1 PB10.out).1).trans PB10.out)
  have BG11 := Lib.hid (BG10.out.below hb)
  have B11 := Lib.hid (B10.out.trans (hb.mono B10.out.size))
  obtain ⟨w11, hw11⟩ : ∃ x, x = w10.drewN n11 := ⟨_, rfl⟩
  rw [← hw11] at PB11 BG11 B11 ⊢
  clear hb hw11 PB10 BG10 B10 CS
  have q0 := (cell_of_row w11 pb 0 _ _ _ PB11.out).trans (show (#[Value.pointer (some ⟨b, 0, none⟩)] : Array Value)[0]? = some (.pointer (some ⟨b, 0, none⟩)) from rfl)
  have PN : posT M1 ((n : Int) + 1) true = none := by
    have := g_pos_none ID4.out
    rwa [HN.out] at this
  have C1 := Lib.hid (bback_none BG11.out (by have := HN.out; have := ML.out; omega) _ PN)
  clear PN
  go_wp2_with fail
  refine C1.out.mono ?_
  rintro er w12 ⟨rfl, hb⟩
  have B12 := Lib.hid (B11.out.trans (hb.mono B11.out.size))
  clear hb q0
  go_wp2_with fail
  go_ret
  exact ⟨rfl, B12.out⟩
end Go.Proofs.Ytnkababhgloclaa
