/- ProbeRuns answers true. UNDER WAY. -/
import Derived.Test.YtnkababhgloclaaRunsC
import Derived.Test.YtnkababhgloclaaRunsS
import Derived.Outline
import Derived.OpenShut
import Derived.Deep.CutRange
namespace Go.Proofs.Ytnkababhgloclaa
open Go.RowKit Go.ChangeShapes Go.WideShapes
theorem agg_cellsR {xs : Array Value} {cs : List Value} (h : (Value.agg xs).cells.toList = cs) : xs = cs.toArray := by
  rw [← h]
  simp [Value.cells]
theorem wrap_u8R {x : Int} : IntKind.u8.wrap (2 - x % 3) = 2 - x % 3 := by simp [IntKind.wrap, IntKind.bits, IntKind.signed]; omega
theorem wrapR {k nf n : Nat} (h : k < nf) (hn : n = nf) (hl : n * 16 ≤ 140737488355328) : wrap64 ((k : Int) + 1) = (k : Int) + 1 := IntWalk.wrap64_in _ (by omega)
theorem infoRF : (Try.prog.info? 68).map (fun i => (i.zero, i.size, i.bytes)) = some (some (.agg #[.int .i64 0, .int .u8 0, .int .u8 0]), 3, 16) := by kernel_rfl
theorem roomR {k nf n : Nat} (h : k < nf) (hn : n = nf) (hl : n * 16 ≤ 140737488355328) : k + 1 ≤ maxLen ∧ (k + 1) * 16 ≤ 140737488355328 := by unfold maxLen; omega
theorem sameB_self22 (c : Cd) : sameB c c = true := by simp [sameB]
def TwinR (n f : ByteArray) (l : Int) (ss : List ByteArray) (s : Int) (q : ByteArray) (e : Int) (w : World) (er : Ending) (w' : World) : Prop := ∃ g cap, er = .returned (.agg #[.string n, .string f, .int .u8 l, .slice (some ⟨g, 0, none⟩) ss.length cap, .int .i8 s, .string q, .int .i16 e]) ∧ w'.ownsRow w.heap.size 9 1 (.slice (some ⟨g, 0, none⟩) ss.length cap) ss.length (sc ss) ∧ Below w.heap.size w w'
theorem twin_r (n f q : ByteArray) (l s e : Int) (ss : List ByteArray) (sl : Value) (w : World) (hs : Strs w sl ss) (hn : ss.length ≤ 8796093022208) :
    Calls Try.prog 18 #[.agg #[.string n, .string f, .int .u8 l, sl, .int .i8 s, .string q, .int .i16 e]] w (TwinR n f l ss s q e w) := by
  refine (twin_walk n f q l s e ss sl w hs hn).mono ?_
  rintro er w' ⟨g, cap, rfl, ho, hb⟩
  exact ⟨g, cap, rfl, ho, hb⟩
set_option maxHeartbeats 32000000 in
set_option maxRecDepth 100000 in
theorem probeRuns_walk {H : Type} {enc : TypeId × Value → H} (v1 : Value) (d1 : DataW H) (ps1 : List MemPlace) (v : Value) (d : DataW H) (ps : List MemPlace) (fam : ByteArray) (W : World)
    (h1 : DataW.Trod enc Try.prog W 0 (fun _ => true) true 50 v1 d1 ps1) {base1 : Nat} (hok1 : Value.okWide Try.prog W .any base1 50 v1) (hw1 : ∀ n ∈ DataW.weights Try.prog 50 d1, n ≤ reachBytes)
    (h : DataW.Trod enc Try.prog W 0 (fun _ => true) true 51 v d ps) {base : Nat} (hok : Value.okWide Try.prog W .any base 51 v) (hw : ∀ n ∈ DataW.weights Try.prog 51 d, n ≤ reachBytes) (hsh : W.ShapedOpen Try.prog) :
    Calls Try.prog 4 #[v1, v, .string fam] W fun e w' => e = .returned (.bool true) ∧ Below W.heap.size W w' := by
  obtain ⟨fs, hv, hsz, hF⟩ := fates_arg hok h hw
  obtain ⟨c, sl, hc, hs, hnn, ho, hz0⟩ := card_arg hok1 h1 hw1
  obtain ⟨xa, rfl, hz1⟩ := okWide_struct Try.underlying50 hok1
  obtain rfl := agg_cellsR hc
  have hn : c.comp.length ≤ 8796093022208 := by unfold reachBytes at hnn; omega
  have hl : fs.length * 16 ≤ 140737488355328 := by unfold reachBytes at hsz; omega
  clear hz0 hz1 hnn hsz
  obtain ⟨n, f, l, ss, s, q, e⟩ := c
  simp only [Cd.cells]
  simp only at hs hn
  have HV := Lib.hid hv
  obtain ⟨av, cv, rfl, hcap, hz2⟩ := hv
  clear hz2 hcap
  have HS := Lib.hid hs
  have HSN := Lib.hid hn
  have HOK := Lib.hid ho
  have HFO : Hid (∀ f ∈ fs, f.ok) := Lib.hid (fun f hf => by
    obtain ⟨j, hj, rfl⟩ := List.getElem_of_mem hf
    exact hF j hj)
  have HL := Lib.hid hl
  have HSH := Lib.hid hsh
  have B0 := Lib.hid ((Below.refl W.heap.size W).alloc (Nat.le_refl _) (.cells #[.string n, .string f, .int .u8 l, sl, .int .i8 s, .string q, .int .i16 e] 50))
  have P0 := Lib.hid (heap_alloc_new W (.cells #[.string n, .string f, .int .u8 l, sl, .int .i8 s, .string q, .int .i16 e] 50))
  have CG := Lib.hid (given_any _ fs _ (HV.out.below B0.out) hl)
  obtain ⟨nf, hnf⟩ : ∃ x, fs.length = x := ⟨_, rfl⟩
  have HNF := Lib.hid hnf
  obtain ⟨ns, hns⟩ : ∃ x, ss.length = x := ⟨_, rfl⟩
  have HNS := Lib.hid hns
  rw [hnf] at CG ⊢
  obtain ⟨o, hoo⟩ : ∃ o, o = probeO ⟨n, f, l, ss, s, q, e⟩ fs := ⟨_, rfl⟩
  obtain ⟨E, hE⟩ : ∃ E, E = probeE ⟨n, f, l, ss, s, q, e⟩ fs := ⟨_, rfl⟩
  have HO := Lib.hid hoo
  have HE := Lib.hid hE
  have FEW : Hid o.few := Lib.hid (by rw [hoo]; exact few_out)
  obtain ⟨names, hnm⟩ : ∃ x, stepsRun.stepsF fam = x := ⟨_, rfl⟩
  obtain ⟨nn, hnn⟩ : ∃ x, names.length = x := ⟨_, rfl⟩
  have HNM := Lib.hid hnm
  have HNN := Lib.hid hnn
  have NFEW : Hid (nn ≤ 4) := Lib.hid (by rw [← hnn, ← hnm]; exact (steps_few fam).2.1)
  clear h hok hw h1 hok1 hw1 hsh hF hc hs hn ho hl hnf hns hoo hE hnm hnn
  go_enter Try.func4, Try.ntmps4
  go_upto_region 1 with fail
  go_cut [7] from 23 to 215 (fun v7 wx => ∃ (ai : Option Addr) (ci : Nat), v7 = .slice ai nf ci ∧ Hid (Below W.heap.size W wx ∧ wx.heap[W.heap.size]? = some (.cells #[.string n, .string f, .int .u8 l, sl, .int .i8 s, .string q, .int .i16 e] 50 (0, 0)) ∧ wx.ownsRow W.heap.size 67 3 (.slice ai nf ci) nf (fcs fs)))
  case first => as_aux_lemma => --ok
    go_wp2_with fail
    refine CG.out.mono ?_
    rintro er w2 ⟨vo, rfl, hown, hb⟩
    obtain ⟨ai, ci, rfl⟩ := own_slice hown
    have FIN := Lib.hid (And.intro (B0.out.trans (hb.mono B0.out.size)) (And.intro ((hb.block _ (Array.getElem?_eq_some_iff.1 P0.out).1).trans P0.out) (own_base hown B0.out.size)))
    clear hown hb CG B0 P0
    go_wp2_with fail
    go_meet
    exact ⟨ai, ci, rfl, FIN⟩
  case rest =>
  obtain ⟨ai, ci, rfl, hcut⟩ := hcut
  have BX := Lib.hid hcut.out.1
  have PC := Lib.hid hcut.out.2.1
  have FR := Lib.hid hcut.out.2.2
  clear hcut CG B0 P0
  obtain ⟨w2, rfl⟩ : ∃ x : World, x = wc := ⟨_, rfl⟩
  obtain ⟨pc, hpc⟩ : ∃ p, p = W.heap.size := ⟨_, rfl⟩
  have PCW : Hid (pc = W.heap.size) := Lib.hid hpc
  rw [← hpc] at PC ⊢
  clear hpc
  go_upto_region 2 with fail
  go_cut [8] from 23 to 215 (fun v8 wx => ∃ (p8 g cap N3 : Nat), v8 = .pointer (some ⟨p8, 0, none⟩) ∧ Hid (KB W pc p8 #[Value.string n, .string f, .int .u8 l, sl, .int .i8 s, .string q, .int .i16 e] #[Value.string n, .string f, .int .u8 l, .slice (some ⟨g, 0, none⟩) ns cap, .int .i8 s, .string q, .int .i16 e] (.slice ai nf ci) (.slice (some ⟨g, 0, none⟩) ns cap) nf N3 (fcs fs) ss wx ∧ N3 ≤ wx.heap.size))
  case first => as_aux_lemma => --ok
    have e0 := (cell_of_row w2 pc 0 _ _ _ PC.out).trans (show (#[Value.string n, .string f, .int .u8 l, sl, .int .i8 s, .string q, .int .i16 e] : Array Value)[0]? = some (.string n) from rfl)
    have e1 := (cell_of_row w2 pc 1 _ _ _ PC.out).trans (show (#[Value.string n, .string f, .int .u8 l, sl, .int .i8 s, .string q, .int .i16 e] : Array Value)[1]? = some (.string f) from rfl)
    have e2 := (cell_of_row w2 pc 2 _ _ _ PC.out).trans (show (#[Value.string n, .string f, .int .u8 l, sl, .int .i8 s, .string q, .int .i16 e] : Array Value)[2]? = some (.int .u8 l) from rfl)
    have e3 := (cell_of_row w2 pc 3 _ _ _ PC.out).trans (show (#[Value.string n, .string f, .int .u8 l, sl, .int .i8 s, .string q, .int .i16 e] : Array Value)[3]? = some (sl) from rfl)
    have e4 := (cell_of_row w2 pc 4 _ _ _ PC.out).trans (show (#[Value.string n, .string f, .int .u8 l, sl, .int .i8 s, .string q, .int .i16 e] : Array Value)[4]? = some (.int .i8 s) from rfl)
    have e5 := (cell_of_row w2 pc 5 _ _ _ PC.out).trans (show (#[Value.string n, .string f, .int .u8 l, sl, .int .i8 s, .string q, .int .i16 e] : Array Value)[5]? = some (.string q) from rfl)
    have e6 := (cell_of_row w2 pc 6 _ _ _ PC.out).trans (show (#[Value.string n, .string f, .int .u8 l, sl, .int .i8 s, .string q, .int .i16 e] : Array Value)[6]? = some (.int .i16 e) from rfl)
    have CT := Lib.hid (twin_r n f q l s e ss sl w2 (HS.out.below BX.out) HSN.out)
    unfold TwinR at CT
    rw [HNS.out] at CT
    go_wp2_with fail
    refine CT.out.mono ?_
    rintro er w3 ⟨g, cap, rfl, hown, hb⟩
    have B3 := Lib.hid (BX.out.trans (hb.mono BX.out.size))
    have PC3 := Lib.hid ((hb.block _ (Array.getElem?_eq_some_iff.1 PC.out).1).trans PC.out)
    have FR3 := Lib.hid (own_below FR.out hb)
    have TW3 := Lib.hid (RowIn.of (own_base hown BX.out.size) HNS.out)
    have TZ : Hid ((w3.alloc (.cells #[.string ⟨#[]⟩, .string ⟨#[]⟩, .int .u8 0, .slice none 0 0, .int .i8 0, .string ⟨#[]⟩, .int .i16 0] 50)).there w3.heap.size 0 7) := Lib.hid (fun j hj => ⟨by
      rw [cell_of_row _ _ _ _ _ _ (heap_alloc_new w3 (.cells #[.string ⟨#[]⟩, .string ⟨#[]⟩, .int .u8 0, .slice none 0 0, .int .i8 0, .string ⟨#[]⟩, .int .i16 0] 50))]
      exact Option.isSome_iff_exists.2 ⟨_, Array.getElem?_eq_getElem (by simp; omega)⟩, frozen_of_row _ _ _ _ _ (heap_alloc_new w3 (.cells #[.string ⟨#[]⟩, .string ⟨#[]⟩, .int .u8 0, .slice none 0 0, .int .i8 0, .string ⟨#[]⟩, .int .i16 0] 50))⟩)
    clear hb hown CT BX PC FR e0 e1 e2 e3 e4 e5 e6
    go_wp2_with (refine wpList_store_all (by rfl) 50 (.tmp 8) (.tmp 26) (by rfl) w3.heap.size 0 [.string n, .string f, .int .u8 l, .slice (some ⟨g, 0, none⟩) ns cap, .int .i8 s, .string q, .int .i16 e] (by kernel_rfl) (by kernel_rfl) TZ.out (by kernel_rfl) (by simp [Value.oneCell']) ?_)
    intro W4 HW4
    have hh4 := heap_setCells_same [.string n, .string f, .int .u8 l, .slice (some ⟨g, 0, none⟩) ns cap, .int .i8 s, .string q, .int .i16 e] _ 0 _ (heap_alloc_new w3 (.cells #[.string ⟨#[]⟩, .string ⟨#[]⟩, .int .u8 0, .slice none 0 0, .int .i8 0, .string ⟨#[]⟩, .int .i16 0] 50))
    rw [← HW4.out] at hh4
    have hb4 : Below w3.heap.size w3 W4 := by
      rw [HW4.out]
      exact ((Below.refl w3.heap.size w3).alloc (Nat.le_refl _) _).trans (below_lay (Nat.le_refl _) _ _ _)
    have FIN : Hid (KB W pc w3.heap.size #[Value.string n, .string f, .int .u8 l, sl, .int .i8 s, .string q, .int .i16 e] #[Value.string n, .string f, .int .u8 l, .slice (some ⟨g, 0, none⟩) ns cap, .int .i8 s, .string q, .int .i16 e] (.slice ai nf ci) (.slice (some ⟨g, 0, none⟩) ns cap) nf w3.heap.size (fcs fs) ss W4 ∧ w3.heap.size ≤ W4.heap.size) := Lib.hid ⟨⟨B3.out.trans (hb4.mono B3.out.size), (hb4.block _ (Array.getElem?_eq_some_iff.1 PC3.out).1).trans PC3.out, own_below FR3.out hb4, hh4, TW3.out.below hb4, B3.out.size⟩, hb4.size⟩
    clear hh4 hb4 HW4 TZ
    go_wp2_with fail
    go_meet
    exact ⟨_, g, cap, _, rfl, FIN⟩
  case rest =>
  obtain ⟨p8, g, cap, N3, rfl, hcut⟩ := hcut
  have K := Lib.hid hcut.out.1
  have Z := Lib.hid hcut.out.2
  clear hcut BX PC FR
  obtain ⟨w3, rfl⟩ : ∃ x : World, x = wc := ⟨_, rfl⟩
  go_upto_region 3 with fail
  go_cut [9, 10] from 23 to 215 (fun v vE wx => ∃ (p9 N4 : Nat) (aad aag aaz : Option Addr) (cad cag caz : Nat), v = .pointer (some ⟨p9, 0, none⟩) ∧ vE = .int .i64 E ∧ Hid (KB W pc p8 #[Value.string n, .string f, .int .u8 l, sl, .int .i8 s, .string q, .int .i16 e] #[Value.string n, .string f, .int .u8 l, .slice (some ⟨g, 0, none⟩) ns cap, .int .i8 s, .string q, .int .i16 e] (.slice ai nf ci) (.slice (some ⟨g, 0, none⟩) ns cap) nf N3 (fcs fs) ss wx ∧ N4 ≤ wx.heap.size ∧ OAt 56 p9 N3 N4 o (.slice aad o.done.length cad) (.slice aag o.given.length cag) (.slice aaz o.stuck.length caz) wx))
  case first => as_aux_lemma => --ok
    have e0 := (cell_of_row w3 p8 0 _ _ _ K.out.b8).trans (show (#[Value.string n, .string f, .int .u8 l, .slice (some ⟨g, 0, none⟩) ns cap, .int .i8 s, .string q, .int .i16 e] : Array Value)[0]? = some (.string n) from rfl)
    have e1 := (cell_of_row w3 p8 1 _ _ _ K.out.b8).trans (show (#[Value.string n, .string f, .int .u8 l, .slice (some ⟨g, 0, none⟩) ns cap, .int .i8 s, .string q, .int .i16 e] : Array Value)[1]? = some (.string f) from rfl)
    have e2 := (cell_of_row w3 p8 2 _ _ _ K.out.b8).trans (show (#[Value.string n, .string f, .int .u8 l, .slice (some ⟨g, 0, none⟩) ns cap, .int .i8 s, .string q, .int .i16 e] : Array Value)[2]? = some (.int .u8 l) from rfl)
    have e3 := (cell_of_row w3 p8 3 _ _ _ K.out.b8).trans (show (#[Value.string n, .string f, .int .u8 l, .slice (some ⟨g, 0, none⟩) ns cap, .int .i8 s, .string q, .int .i16 e] : Array Value)[3]? = some (.slice (some ⟨g, 0, none⟩) ns cap) from rfl)
    have e4 := (cell_of_row w3 p8 4 _ _ _ K.out.b8).trans (show (#[Value.string n, .string f, .int .u8 l, .slice (some ⟨g, 0, none⟩) ns cap, .int .i8 s, .string q, .int .i16 e] : Array Value)[4]? = some (.int .i8 s) from rfl)
    have e5 := (cell_of_row w3 p8 5 _ _ _ K.out.b8).trans (show (#[Value.string n, .string f, .int .u8 l, .slice (some ⟨g, 0, none⟩) ns cap, .int .i8 s, .string q, .int .i16 e] : Array Value)[5]? = some (.string q) from rfl)
    have e6 := (cell_of_row w3 p8 6 _ _ _ K.out.b8).trans (show (#[Value.string n, .string f, .int .u8 l, .slice (some ⟨g, 0, none⟩) ns cap, .int .i8 s, .string q, .int .i16 e] : Array Value)[6]? = some (.int .i16 e) from rfl)
    have TWS := K.out.tw.strs (by have := HSN.out; unfold maxLen; omega)
    have FA := fates_own (fs := fs) (by rw [HNF.out]; exact K.out.fr)
    have CP := Lib.hid (probe_r HSH.out K.out.bx TWS HOK.out FA HFO.out HE.out HO.out)
    unfold ProbeR at CP
    clear TWS FA
    go_wp2_with fail
    refine CP.out.mono ?_
    rintro er w4 ⟨aad, cad, aag, cag, aaz, caz, rfl, hin, hb⟩
    have K4 := Lib.hid (K.out.below hb)
    have HIN := Lib.hid hin
    have HBZ := Lib.hid hb.size
    have TZ : Hid ((w4.alloc (.cells #[.bool false, .int .i64 0, .int .u8 0, .slice none 0 0, .slice none 0 0, .slice none 0 0] 56)).there w4.heap.size 0 6) := Lib.hid (fun j hj => ⟨by
      rw [cell_of_row _ _ _ _ _ _ (heap_alloc_new w4 (.cells #[.bool false, .int .i64 0, .int .u8 0, .slice none 0 0, .slice none 0 0, .slice none 0 0] 56))]
      exact Option.isSome_iff_exists.2 ⟨_, Array.getElem?_eq_getElem (by simp; omega)⟩, frozen_of_row _ _ _ _ _ (heap_alloc_new w4 (.cells #[.bool false, .int .i64 0, .int .u8 0, .slice none 0 0, .slice none 0 0, .slice none 0 0] 56))⟩)
    clear hb hin CP e0 e1 e2 e3 e4 e5 e6
    go_wp2_with (refine wpList_store_all (by rfl) 56 (.tmp 9) (.tmp 31) (by rfl) w4.heap.size 0 [.bool o.good, .int .i64 o.at_, .int .u8 o.how, .slice aad o.done.length cad, .slice aag o.given.length cag, .slice aaz o.stuck.length caz] (by kernel_rfl) (by kernel_rfl) TZ.out (by kernel_rfl) (by simp [Value.oneCell']) ?_)
    intro W4 HW4
    have hh4 := heap_setCells_same [.bool o.good, .int .i64 o.at_, .int .u8 o.how, .slice aad o.done.length cad, .slice aag o.given.length cag, .slice aaz o.stuck.length caz] _ 0 _ (heap_alloc_new w4 (.cells #[.bool false, .int .i64 0, .int .u8 0, .slice none 0 0, .slice none 0 0, .slice none 0 0] 56))
    rw [← HW4.out] at hh4
    have hb4 : Below w4.heap.size w4 W4 := by
      rw [HW4.out]
      exact ((Below.refl w4.heap.size w4).alloc (Nat.le_refl _) _).trans (below_lay (Nat.le_refl _) _ _ _)
    have FIN : Hid (KB W pc p8 #[Value.string n, .string f, .int .u8 l, sl, .int .i8 s, .string q, .int .i16 e] #[Value.string n, .string f, .int .u8 l, .slice (some ⟨g, 0, none⟩) ns cap, .int .i8 s, .string q, .int .i16 e] (.slice ai nf ci) (.slice (some ⟨g, 0, none⟩) ns cap) nf N3 (fcs fs) ss W4 ∧ w4.heap.size ≤ W4.heap.size ∧ OAt 56 w4.heap.size N3 w4.heap.size o (.slice aad o.done.length cad) (.slice aag o.given.length cag) (.slice aaz o.stuck.length caz) W4) := Lib.hid ⟨K4.out.below hb4, hb4.size, OAt.mk HIN.out Z.out HBZ.out hh4 hb4⟩
    clear hh4 hb4 HW4 TZ K Z K4 HIN HBZ
    go_wp2_with fail
    go_meet
    exact ⟨_, _, aad, aag, aaz, cad, cag, caz, rfl, rfl, FIN⟩
  case rest =>
  obtain ⟨p9, N4, aad, aag, aaz, cad, cag, caz, rfl, rfl, hcut⟩ := hcut
  clear K Z
  have K := Lib.hid hcut.out.1
  have Z := Lib.hid hcut.out.2.1
  have Oa := Lib.hid hcut.out.2.2
  clear hcut
  obtain ⟨w4, rfl⟩ : ∃ x : World, x = wc := ⟨_, rfl⟩
  go_upto_region 4 with fail
  go_cut [11, 12] from 23 to 215 (fun v vE wx => ∃ (p11 N5 : Nat) (abd abg abz : Option Addr) (cbd cbg cbz : Nat), v = .pointer (some ⟨p11, 0, none⟩) ∧ vE = .int .i64 E ∧ Hid (KB W pc p8 #[Value.string n, .string f, .int .u8 l, sl, .int .i8 s, .string q, .int .i16 e] #[Value.string n, .string f, .int .u8 l, .slice (some ⟨g, 0, none⟩) ns cap, .int .i8 s, .string q, .int .i16 e] (.slice ai nf ci) (.slice (some ⟨g, 0, none⟩) ns cap) nf N3 (fcs fs) ss wx ∧ N5 ≤ wx.heap.size ∧ OAt 56 p11 N4 N5 o (.slice abd o.done.length cbd) (.slice abg o.given.length cbg) (.slice abz o.stuck.length cbz) wx ∧ OAt 56 p9 N3 N4 o (.slice aad o.done.length cad) (.slice aag o.given.length cag) (.slice aaz o.stuck.length caz) wx))
  case first => as_aux_lemma => --ok
    have e0 := (cell_of_row w4 p8 0 _ _ _ K.out.b8).trans (show (#[Value.string n, .string f, .int .u8 l, .slice (some ⟨g, 0, none⟩) ns cap, .int .i8 s, .string q, .int .i16 e] : Array Value)[0]? = some (.string n) from rfl)
    have e1 := (cell_of_row w4 p8 1 _ _ _ K.out.b8).trans (show (#[Value.string n, .string f, .int .u8 l, .slice (some ⟨g, 0, none⟩) ns cap, .int .i8 s, .string q, .int .i16 e] : Array Value)[1]? = some (.string f) from rfl)
    have e2 := (cell_of_row w4 p8 2 _ _ _ K.out.b8).trans (show (#[Value.string n, .string f, .int .u8 l, .slice (some ⟨g, 0, none⟩) ns cap, .int .i8 s, .string q, .int .i16 e] : Array Value)[2]? = some (.int .u8 l) from rfl)
    have e3 := (cell_of_row w4 p8 3 _ _ _ K.out.b8).trans (show (#[Value.string n, .string f, .int .u8 l, .slice (some ⟨g, 0, none⟩) ns cap, .int .i8 s, .string q, .int .i16 e] : Array Value)[3]? = some (.slice (some ⟨g, 0, none⟩) ns cap) from rfl)
    have e4 := (cell_of_row w4 p8 4 _ _ _ K.out.b8).trans (show (#[Value.string n, .string f, .int .u8 l, .slice (some ⟨g, 0, none⟩) ns cap, .int .i8 s, .string q, .int .i16 e] : Array Value)[4]? = some (.int .i8 s) from rfl)
    have e5 := (cell_of_row w4 p8 5 _ _ _ K.out.b8).trans (show (#[Value.string n, .string f, .int .u8 l, .slice (some ⟨g, 0, none⟩) ns cap, .int .i8 s, .string q, .int .i16 e] : Array Value)[5]? = some (.string q) from rfl)
    have e6 := (cell_of_row w4 p8 6 _ _ _ K.out.b8).trans (show (#[Value.string n, .string f, .int .u8 l, .slice (some ⟨g, 0, none⟩) ns cap, .int .i8 s, .string q, .int .i16 e] : Array Value)[6]? = some (.int .i16 e) from rfl)
    have TWS := K.out.tw.strs (by have := HSN.out; unfold maxLen; omega)
    have FA := fates_own (fs := fs) (by rw [HNF.out]; exact K.out.fr)
    have CP := Lib.hid (probe_r HSH.out K.out.bx TWS HOK.out FA HFO.out HE.out HO.out)
    unfold ProbeR at CP
    clear TWS FA
    go_wp2_with fail
    refine CP.out.mono ?_
    rintro er w4 ⟨abd, cbd, abg, cbg, abz, cbz, rfl, hin, hb⟩
    have K4 := Lib.hid (K.out.below hb)
    have HIN := Lib.hid hin
    have HBZ := Lib.hid hb.size
    have Oa' := Lib.hid (Oa.out.below hb)
    have TZ : Hid ((w4.alloc (.cells #[.bool false, .int .i64 0, .int .u8 0, .slice none 0 0, .slice none 0 0, .slice none 0 0] 56)).there w4.heap.size 0 6) := Lib.hid (fun j hj => ⟨by
      rw [cell_of_row _ _ _ _ _ _ (heap_alloc_new w4 (.cells #[.bool false, .int .i64 0, .int .u8 0, .slice none 0 0, .slice none 0 0, .slice none 0 0] 56))]
      exact Option.isSome_iff_exists.2 ⟨_, Array.getElem?_eq_getElem (by simp; omega)⟩, frozen_of_row _ _ _ _ _ (heap_alloc_new w4 (.cells #[.bool false, .int .i64 0, .int .u8 0, .slice none 0 0, .slice none 0 0, .slice none 0 0] 56))⟩)
    clear hb hin CP e0 e1 e2 e3 e4 e5 e6
    go_wp2_with (refine wpList_store_all (by rfl) 56 (.tmp 11) (.tmp 37) (by rfl) w4.heap.size 0 [.bool o.good, .int .i64 o.at_, .int .u8 o.how, .slice abd o.done.length cbd, .slice abg o.given.length cbg, .slice abz o.stuck.length cbz] (by kernel_rfl) (by kernel_rfl) TZ.out (by kernel_rfl) (by simp [Value.oneCell']) ?_)
    intro W4 HW4
    have hh4 := heap_setCells_same [.bool o.good, .int .i64 o.at_, .int .u8 o.how, .slice abd o.done.length cbd, .slice abg o.given.length cbg, .slice abz o.stuck.length cbz] _ 0 _ (heap_alloc_new w4 (.cells #[.bool false, .int .i64 0, .int .u8 0, .slice none 0 0, .slice none 0 0, .slice none 0 0] 56))
    rw [← HW4.out] at hh4
    have hb4 : Below w4.heap.size w4 W4 := by
      rw [HW4.out]
      exact ((Below.refl w4.heap.size w4).alloc (Nat.le_refl _) _).trans (below_lay (Nat.le_refl _) _ _ _)
    have FIN : Hid (KB W pc p8 #[Value.string n, .string f, .int .u8 l, sl, .int .i8 s, .string q, .int .i16 e] #[Value.string n, .string f, .int .u8 l, .slice (some ⟨g, 0, none⟩) ns cap, .int .i8 s, .string q, .int .i16 e] (.slice ai nf ci) (.slice (some ⟨g, 0, none⟩) ns cap) nf N3 (fcs fs) ss W4 ∧ w4.heap.size ≤ W4.heap.size ∧ OAt 56 w4.heap.size N4 w4.heap.size o (.slice abd o.done.length cbd) (.slice abg o.given.length cbg) (.slice abz o.stuck.length cbz) W4 ∧ OAt 56 p9 N3 N4 o (.slice aad o.done.length cad) (.slice aag o.given.length cag) (.slice aaz o.stuck.length caz) W4) := Lib.hid ⟨K4.out.below hb4, hb4.size, OAt.mk HIN.out Z.out HBZ.out hh4 hb4, Oa'.out.below hb4⟩
    clear hh4 hb4 HW4 TZ K Z K4 HIN HBZ Oa Oa'
    go_wp2_with fail
    go_meet
    exact ⟨_, _, abd, abg, abz, cbd, cbg, cbz, rfl, rfl, FIN⟩
  case rest =>
  obtain ⟨p11, N5, abd, abg, abz, cbd, cbg, cbz, rfl, rfl, hcut⟩ := hcut
  clear K Z Oa
  have K := Lib.hid hcut.out.1
  have Z := Lib.hid hcut.out.2.1
  have Ob := Lib.hid hcut.out.2.2.1
  have Oa := Lib.hid hcut.out.2.2.2
  clear hcut
  obtain ⟨w5, rfl⟩ : ∃ x : World, x = wc := ⟨_, rfl⟩
  go_upto_region 5 with fail
  go_cut [13, 14] from 23 to 215 (fun v vE wx => ∃ (p13 N6 : Nat) (acd acg acz : Option Addr) (ccd ccg ccz : Nat), v = .pointer (some ⟨p13, 0, none⟩) ∧ vE = .int .i64 E ∧ Hid (KB W pc p8 #[Value.string n, .string f, .int .u8 l, sl, .int .i8 s, .string q, .int .i16 e] #[Value.string n, .string f, .int .u8 l, .slice (some ⟨g, 0, none⟩) ns cap, .int .i8 s, .string q, .int .i16 e] (.slice ai nf ci) (.slice (some ⟨g, 0, none⟩) ns cap) nf N3 (fcs fs) ss wx ∧ N6 ≤ wx.heap.size ∧ OAt 59 p13 N5 N6 o (.slice acd o.done.length ccd) (.slice acg o.given.length ccg) (.slice acz o.stuck.length ccz) wx ∧ OAt 56 p11 N4 N5 o (.slice abd o.done.length cbd) (.slice abg o.given.length cbg) (.slice abz o.stuck.length cbz) wx ∧ OAt 56 p9 N3 N4 o (.slice aad o.done.length cad) (.slice aag o.given.length cag) (.slice aaz o.stuck.length caz) wx))
  case first => as_aux_lemma => --ok
    have e0 := (cell_of_row w5 pc 0 _ _ _ K.out.bc).trans (show (#[Value.string n, .string f, .int .u8 l, sl, .int .i8 s, .string q, .int .i16 e] : Array Value)[0]? = some (.string n) from rfl)
    have e1 := (cell_of_row w5 pc 1 _ _ _ K.out.bc).trans (show (#[Value.string n, .string f, .int .u8 l, sl, .int .i8 s, .string q, .int .i16 e] : Array Value)[1]? = some (.string f) from rfl)
    have e2 := (cell_of_row w5 pc 2 _ _ _ K.out.bc).trans (show (#[Value.string n, .string f, .int .u8 l, sl, .int .i8 s, .string q, .int .i16 e] : Array Value)[2]? = some (.int .u8 l) from rfl)
    have e3 := (cell_of_row w5 pc 3 _ _ _ K.out.bc).trans (show (#[Value.string n, .string f, .int .u8 l, sl, .int .i8 s, .string q, .int .i16 e] : Array Value)[3]? = some (sl) from rfl)
    have e4 := (cell_of_row w5 pc 4 _ _ _ K.out.bc).trans (show (#[Value.string n, .string f, .int .u8 l, sl, .int .i8 s, .string q, .int .i16 e] : Array Value)[4]? = some (.int .i8 s) from rfl)
    have e5 := (cell_of_row w5 pc 5 _ _ _ K.out.bc).trans (show (#[Value.string n, .string f, .int .u8 l, sl, .int .i8 s, .string q, .int .i16 e] : Array Value)[5]? = some (.string q) from rfl)
    have e6 := (cell_of_row w5 pc 6 _ _ _ K.out.bc).trans (show (#[Value.string n, .string f, .int .u8 l, sl, .int .i8 s, .string q, .int .i16 e] : Array Value)[6]? = some (.int .i16 e) from rfl)
    have CP := Lib.hid (rprobe_r HSH.out K.out.bx (HS.out.below K.out.bx) HOK.out (HV.out.below K.out.bx) HFO.out (by have := HL.out; omega) HE.out HO.out)
    rw [HNF.out] at CP
    unfold ProbeR at CP
    go_wp2_with fail
    refine CP.out.mono ?_
    rintro er w4 ⟨acd, ccd, acg, ccg, acz, ccz, rfl, hin, hb⟩
    have K4 := Lib.hid (K.out.below hb)
    have HIN := Lib.hid hin
    have HBZ := Lib.hid hb.size
    have Ob' := Lib.hid (Ob.out.below hb)
    have Oa' := Lib.hid (Oa.out.below hb)
    have TZ : Hid ((w4.alloc (.cells #[.bool false, .int .i64 0, .int .u8 0, .slice none 0 0, .slice none 0 0, .slice none 0 0] 59)).there w4.heap.size 0 6) := Lib.hid (fun j hj => ⟨by
      rw [cell_of_row _ _ _ _ _ _ (heap_alloc_new w4 (.cells #[.bool false, .int .i64 0, .int .u8 0, .slice none 0 0, .slice none 0 0, .slice none 0 0] 59))]
      exact Option.isSome_iff_exists.2 ⟨_, Array.getElem?_eq_getElem (by simp; omega)⟩, frozen_of_row _ _ _ _ _ (heap_alloc_new w4 (.cells #[.bool false, .int .i64 0, .int .u8 0, .slice none 0 0, .slice none 0 0, .slice none 0 0] 59))⟩)
    clear hb hin CP e0 e1 e2 e3 e4 e5 e6
    go_wp2_with (refine wpList_store_all (by rfl) 59 (.tmp 13) (.tmp 43) (by rfl) w4.heap.size 0 [.bool o.good, .int .i64 o.at_, .int .u8 o.how, .slice acd o.done.length ccd, .slice acg o.given.length ccg, .slice acz o.stuck.length ccz] (by kernel_rfl) (by kernel_rfl) TZ.out (by kernel_rfl) (by simp [Value.oneCell']) ?_)
    intro W4 HW4
    have hh4 := heap_setCells_same [.bool o.good, .int .i64 o.at_, .int .u8 o.how, .slice acd o.done.length ccd, .slice acg o.given.length ccg, .slice acz o.stuck.length ccz] _ 0 _ (heap_alloc_new w4 (.cells #[.bool false, .int .i64 0, .int .u8 0, .slice none 0 0, .slice none 0 0, .slice none 0 0] 59))
    rw [← HW4.out] at hh4
    have hb4 : Below w4.heap.size w4 W4 := by
      rw [HW4.out]
      exact ((Below.refl w4.heap.size w4).alloc (Nat.le_refl _) _).trans (below_lay (Nat.le_refl _) _ _ _)
    have FIN : Hid (KB W pc p8 #[Value.string n, .string f, .int .u8 l, sl, .int .i8 s, .string q, .int .i16 e] #[Value.string n, .string f, .int .u8 l, .slice (some ⟨g, 0, none⟩) ns cap, .int .i8 s, .string q, .int .i16 e] (.slice ai nf ci) (.slice (some ⟨g, 0, none⟩) ns cap) nf N3 (fcs fs) ss W4 ∧ w4.heap.size ≤ W4.heap.size ∧ OAt 59 w4.heap.size N5 w4.heap.size o (.slice acd o.done.length ccd) (.slice acg o.given.length ccg) (.slice acz o.stuck.length ccz) W4 ∧ OAt 56 p11 N4 N5 o (.slice abd o.done.length cbd) (.slice abg o.given.length cbg) (.slice abz o.stuck.length cbz) W4 ∧ OAt 56 p9 N3 N4 o (.slice aad o.done.length cad) (.slice aag o.given.length cag) (.slice aaz o.stuck.length caz) W4) := Lib.hid ⟨K4.out.below hb4, hb4.size, OAt.mk HIN.out Z.out HBZ.out hh4 hb4, Ob'.out.below hb4, Oa'.out.below hb4⟩
    clear hh4 hb4 HW4 TZ K Z K4 HIN HBZ Ob Ob' Oa Oa'
    go_wp2_with fail
    go_meet
    exact ⟨_, _, acd, acg, acz, ccd, ccg, ccz, rfl, rfl, FIN⟩
  case rest =>
  obtain ⟨p13, N6, acd, acg, acz, ccd, ccg, ccz, rfl, rfl, hcut⟩ := hcut
  clear K Z Ob Oa
  have K := Lib.hid hcut.out.1
  have Z := Lib.hid hcut.out.2.1
  have Oc := Lib.hid hcut.out.2.2.1
  have Ob := Lib.hid hcut.out.2.2.2.1
  have Oa := Lib.hid hcut.out.2.2.2.2
  clear hcut
  obtain ⟨w6, rfl⟩ : ∃ x : World, x = wc := ⟨_, rfl⟩
  go_upto_region 6 with fail
  go_cut [15] from 23 to 215 (fun v wx => ∃ (N7 : Nat) (al : Option Addr) (cl : Nat), v = .slice al nn cl ∧ Hid (KB W pc p8 #[Value.string n, .string f, .int .u8 l, sl, .int .i8 s, .string q, .int .i16 e] #[Value.string n, .string f, .int .u8 l, .slice (some ⟨g, 0, none⟩) ns cap, .int .i8 s, .string q, .int .i16 e] (.slice ai nf ci) (.slice (some ⟨g, 0, none⟩) ns cap) nf N3 (fcs fs) ss wx ∧ N7 ≤ wx.heap.size ∧ RowIn' N6 N7 (.slice al nn cl) names wx ∧ OAt 59 p13 N5 N6 o (.slice acd o.done.length ccd) (.slice acg o.given.length ccg) (.slice acz o.stuck.length ccz) wx ∧ OAt 56 p11 N4 N5 o (.slice abd o.done.length cbd) (.slice abg o.given.length cbg) (.slice abz o.stuck.length cbz) wx ∧ OAt 56 p9 N3 N4 o (.slice aad o.done.length cad) (.slice aag o.given.length cag) (.slice aaz o.stuck.length caz) wx))
  case first => as_aux_lemma => --ok
    have CS := Lib.hid (stepsRun.steps_any HSH.out fam _ K.out.bx)
    rw [HNM.out, HNN.out] at CS
    go_wp2_with fail
    refine CS.out.mono ?_
    rintro er w4 ⟨vS, rfl, hown, hb⟩
    obtain ⟨al, cl, rfl⟩ := own_slice hown
    have FIN : Hid (KB W pc p8 #[Value.string n, .string f, .int .u8 l, sl, .int .i8 s, .string q, .int .i16 e] #[Value.string n, .string f, .int .u8 l, .slice (some ⟨g, 0, none⟩) ns cap, .int .i8 s, .string q, .int .i16 e] (.slice ai nf ci) (.slice (some ⟨g, 0, none⟩) ns cap) nf N3 (fcs fs) ss w4 ∧ w4.heap.size ≤ w4.heap.size ∧ RowIn' N6 w4.heap.size (.slice al nn cl) names w4 ∧ OAt 59 p13 N5 N6 o (.slice acd o.done.length ccd) (.slice acg o.given.length ccg) (.slice acz o.stuck.length ccz) w4 ∧ OAt 56 p11 N4 N5 o (.slice abd o.done.length cbd) (.slice abg o.given.length cbg) (.slice abz o.stuck.length cbz) w4 ∧ OAt 56 p9 N3 N4 o (.slice aad o.done.length cad) (.slice aag o.given.length cag) (.slice aaz o.stuck.length caz) w4) := Lib.hid ⟨K.out.below hb, Nat.le_refl _, RowIn'.mk hown HNN.out Z.out hb.size, Oc.out.below hb, Ob.out.below hb, Oa.out.below hb⟩
    clear hb hown CS K Z Oc Ob Oa
    go_wp2_with fail
    go_meet
    exact ⟨_, al, cl, rfl, FIN⟩
  case rest =>
  obtain ⟨N7, al, cl, rfl, hcut⟩ := hcut
  clear K Z Oc Ob Oa
  have K := Lib.hid hcut.out.1
  have Z := Lib.hid hcut.out.2.1
  have Rl := Lib.hid hcut.out.2.2.1
  have Oc := Lib.hid hcut.out.2.2.2.1
  have Ob := Lib.hid hcut.out.2.2.2.2.1
  have Oa := Lib.hid hcut.out.2.2.2.2.2
  clear hcut
  obtain ⟨w7, rfl⟩ : ∃ x : World, x = wc := ⟨_, rfl⟩
  go_upto_region 7 with fail
  go_cut [16] from 23 to 215 (fun v wx => ∃ (N8 : Nat) (am : Option Addr) (cm : Nat), v = .slice am nn cm ∧ Hid (KB W pc p8 #[Value.string n, .string f, .int .u8 l, sl, .int .i8 s, .string q, .int .i16 e] #[Value.string n, .string f, .int .u8 l, .slice (some ⟨g, 0, none⟩) ns cap, .int .i8 s, .string q, .int .i16 e] (.slice ai nf ci) (.slice (some ⟨g, 0, none⟩) ns cap) nf N3 (fcs fs) ss wx ∧ N8 ≤ wx.heap.size ∧ RowIn' N7 N8 (.slice am nn cm) names wx ∧ RowIn' N6 N7 (.slice al nn cl) names wx ∧ OAt 59 p13 N5 N6 o (.slice acd o.done.length ccd) (.slice acg o.given.length ccg) (.slice acz o.stuck.length ccz) wx ∧ OAt 56 p11 N4 N5 o (.slice abd o.done.length cbd) (.slice abg o.given.length cbg) (.slice abz o.stuck.length cbz) wx ∧ OAt 56 p9 N3 N4 o (.slice aad o.done.length cad) (.slice aag o.given.length cag) (.slice aaz o.stuck.length caz) wx))
  case first => as_aux_lemma => --ok
    have CS := Lib.hid (stepsRun.steps_any HSH.out fam _ K.out.bx)
    rw [HNM.out, HNN.out] at CS
    go_wp2_with fail
    refine CS.out.mono ?_
    rintro er w4 ⟨vS, rfl, hown, hb⟩
    obtain ⟨am, cm, rfl⟩ := own_slice hown
    have FIN : Hid (KB W pc p8 #[Value.string n, .string f, .int .u8 l, sl, .int .i8 s, .string q, .int .i16 e] #[Value.string n, .string f, .int .u8 l, .slice (some ⟨g, 0, none⟩) ns cap, .int .i8 s, .string q, .int .i16 e] (.slice ai nf ci) (.slice (some ⟨g, 0, none⟩) ns cap) nf N3 (fcs fs) ss w4 ∧ w4.heap.size ≤ w4.heap.size ∧ RowIn' N7 w4.heap.size (.slice am nn cm) names w4 ∧ RowIn' N6 N7 (.slice al nn cl) names w4 ∧ OAt 59 p13 N5 N6 o (.slice acd o.done.length ccd) (.slice acg o.given.length ccg) (.slice acz o.stuck.length ccz) w4 ∧ OAt 56 p11 N4 N5 o (.slice abd o.done.length cbd) (.slice abg o.given.length cbg) (.slice abz o.stuck.length cbz) w4 ∧ OAt 56 p9 N3 N4 o (.slice aad o.done.length cad) (.slice aag o.given.length cag) (.slice aaz o.stuck.length caz) w4) := Lib.hid ⟨K.out.below hb, Nat.le_refl _, RowIn'.mk hown HNN.out Z.out hb.size, Rl.out.below hb, Oc.out.below hb, Ob.out.below hb, Oa.out.below hb⟩
    clear hb hown CS K Z Rl Oc Ob Oa
    go_wp2_with fail
    go_meet
    exact ⟨_, am, cm, rfl, FIN⟩
  case rest =>
  obtain ⟨N8, am, cm, rfl, hcut⟩ := hcut
  clear K Z Rl Oc Ob Oa
  have K := Lib.hid hcut.out.1
  have Z := Lib.hid hcut.out.2.1
  have Rm := Lib.hid hcut.out.2.2.1
  have Rl := Lib.hid hcut.out.2.2.2.1
  have Oc := Lib.hid hcut.out.2.2.2.2.1
  have Ob := Lib.hid hcut.out.2.2.2.2.2.1
  have Oa := Lib.hid hcut.out.2.2.2.2.2.2
  clear hcut
  obtain ⟨w8, rfl⟩ : ∃ x : World, x = wc := ⟨_, rfl⟩
  have K0 : Hid (KD W pc p8 p9 p11 p13 #[Value.string n, .string f, .int .u8 l, sl, .int .i8 s, .string q, .int .i16 e] #[Value.string n, .string f, .int .u8 l, .slice (some ⟨g, 0, none⟩) ns cap, .int .i8 s, .string q, .int .i16 e] (.slice ai nf ci) (.slice (some ⟨g, 0, none⟩) ns cap) nf N3 N4 N5 N6 N7 N8 (fcs fs) ss o names (.slice aad o.done.length cad) (.slice aag o.given.length cag) (.slice aaz o.stuck.length caz) (.slice abd o.done.length cbd) (.slice abg o.given.length cbg) (.slice abz o.stuck.length cbz) (.slice acd o.done.length ccd) (.slice acg o.given.length ccg) (.slice acz o.stuck.length ccz) (.slice al nn cl) (.slice am nn cm) w8) := Lib.hid (KD.mk' K.out Oa.out Ob.out Oc.out Rl.out.2 Rm.out.2 Rl.out.1 Rm.out.1)
  have RL0 : Hid (RowIn N6 N7 w8 (.slice al nn cl) names) := Lib.hid Rl.out.2
  have OA0 : Hid (OutIn N3 N4 w8 o (.slice aad o.done.length cad) (.slice aag o.given.length cag) (.slice aaz o.stuck.length caz)) := Lib.hid Oa.out.2.2
  clear K Z Oa Ob Oc Rl Rm
  go_upto_region 8 with fail
  go_cut [70] from 23 to 215 (fun vt wx => vt = .bool false ∧ Hid (KD W pc p8 p9 p11 p13 #[Value.string n, .string f, .int .u8 l, sl, .int .i8 s, .string q, .int .i16 e] #[Value.string n, .string f, .int .u8 l, .slice (some ⟨g, 0, none⟩) ns cap, .int .i8 s, .string q, .int .i16 e] (.slice ai nf ci) (.slice (some ⟨g, 0, none⟩) ns cap) nf N3 N4 N5 N6 N7 N8 (fcs fs) ss o names (.slice aad o.done.length cad) (.slice aag o.given.length cag) (.slice aaz o.stuck.length caz) (.slice abd o.done.length cbd) (.slice abg o.given.length cbg) (.slice abz o.stuck.length cbz) (.slice acd o.done.length ccd) (.slice acg o.given.length ccg) (.slice acz o.stuck.length ccz) (.slice al nn cl) (.slice am nn cm) wx))
  case first => as_aux_lemma => --ok
    have EA := OA0.out.read FEW.out
    have EC := K0.out.c.2.2.read FEW.out
    have CO := Lib.hid (sout_any EA EC)
    clear EA EC
    have v0 := (cell_of_row w8 p9 0 _ _ _ K0.out.b9).trans (show (#[Value.bool o.good, .int .i64 o.at_, .int .u8 o.how, .slice aad o.done.length cad, .slice aag o.given.length cag, .slice aaz o.stuck.length caz] : Array Value)[0]? = some (.bool o.good) from rfl)
    have v1 := (cell_of_row w8 p9 1 _ _ _ K0.out.b9).trans (show (#[Value.bool o.good, .int .i64 o.at_, .int .u8 o.how, .slice aad o.done.length cad, .slice aag o.given.length cag, .slice aaz o.stuck.length caz] : Array Value)[1]? = some (.int .i64 o.at_) from rfl)
    have v2 := (cell_of_row w8 p9 2 _ _ _ K0.out.b9).trans (show (#[Value.bool o.good, .int .i64 o.at_, .int .u8 o.how, .slice aad o.done.length cad, .slice aag o.given.length cag, .slice aaz o.stuck.length caz] : Array Value)[2]? = some (.int .u8 o.how) from rfl)
    have v3 := (cell_of_row w8 p9 3 _ _ _ K0.out.b9).trans (show (#[Value.bool o.good, .int .i64 o.at_, .int .u8 o.how, .slice aad o.done.length cad, .slice aag o.given.length cag, .slice aaz o.stuck.length caz] : Array Value)[3]? = some (.slice aad o.done.length cad) from rfl)
    have v4 := (cell_of_row w8 p9 4 _ _ _ K0.out.b9).trans (show (#[Value.bool o.good, .int .i64 o.at_, .int .u8 o.how, .slice aad o.done.length cad, .slice aag o.given.length cag, .slice aaz o.stuck.length caz] : Array Value)[4]? = some (.slice aag o.given.length cag) from rfl)
    have v5 := (cell_of_row w8 p9 5 _ _ _ K0.out.b9).trans (show (#[Value.bool o.good, .int .i64 o.at_, .int .u8 o.how, .slice aad o.done.length cad, .slice aag o.given.length cag, .slice aaz o.stuck.length caz] : Array Value)[5]? = some (.slice aaz o.stuck.length caz) from rfl)
    have u0 := (cell_of_row w8 p13 0 _ _ _ K0.out.c.2.1).trans (show (#[Value.bool o.good, .int .i64 o.at_, .int .u8 o.how, .slice acd o.done.length ccd, .slice acg o.given.length ccg, .slice acz o.stuck.length ccz] : Array Value)[0]? = some (.bool o.good) from rfl)
    have u1 := (cell_of_row w8 p13 1 _ _ _ K0.out.c.2.1).trans (show (#[Value.bool o.good, .int .i64 o.at_, .int .u8 o.how, .slice acd o.done.length ccd, .slice acg o.given.length ccg, .slice acz o.stuck.length ccz] : Array Value)[1]? = some (.int .i64 o.at_) from rfl)
    have u2 := (cell_of_row w8 p13 2 _ _ _ K0.out.c.2.1).trans (show (#[Value.bool o.good, .int .i64 o.at_, .int .u8 o.how, .slice acd o.done.length ccd, .slice acg o.given.length ccg, .slice acz o.stuck.length ccz] : Array Value)[2]? = some (.int .u8 o.how) from rfl)
    have u3 := (cell_of_row w8 p13 3 _ _ _ K0.out.c.2.1).trans (show (#[Value.bool o.good, .int .i64 o.at_, .int .u8 o.how, .slice acd o.done.length ccd, .slice acg o.given.length ccg, .slice acz o.stuck.length ccz] : Array Value)[3]? = some (.slice acd o.done.length ccd) from rfl)
    have u4 := (cell_of_row w8 p13 4 _ _ _ K0.out.c.2.1).trans (show (#[Value.bool o.good, .int .i64 o.at_, .int .u8 o.how, .slice acd o.done.length ccd, .slice acg o.given.length ccg, .slice acz o.stuck.length ccz] : Array Value)[4]? = some (.slice acg o.given.length ccg) from rfl)
    have u5 := (cell_of_row w8 p13 5 _ _ _ K0.out.c.2.1).trans (show (#[Value.bool o.good, .int .i64 o.at_, .int .u8 o.how, .slice acd o.done.length ccd, .slice acg o.given.length ccg, .slice acz o.stuck.length ccz] : Array Value)[5]? = some (.slice acz o.stuck.length ccz) from rfl)
    go_wp2_with fail
    refine CO.out.mono ?_
    rintro er w9 ⟨rfl, hb⟩
    have K1 := Lib.hid (K0.out.below hb)
    have RL1 := Lib.hid (RL0.out.below hb)
    clear hb CO K0 RL0 OA0 v0 v1 v2 v3 v4 v5 u0 u1 u2 u3 u4 u5
    have CS := Lib.hid (stepsRun.rsteps_any HSH.out fam w9 K1.out.kb.bx)
    rw [HNM.out, HNN.out] at CS
    go_wp2_with fail
    refine CS.out.mono ?_
    rintro er w10 ⟨vS, rfl, hown, hb⟩
    obtain ⟨aS, cS, rfl⟩ := own_slice hown
    have K2 := Lib.hid (K1.out.below hb)
    have hst := strs_own (zs := names) (by rw [HNN.out]; exact hown) (by have := NFEW.out; rw [HNN.out]; unfold maxLen; omega)
    have hsl := (RL1.out.below hb).strs (by have := NFEW.out; rw [HNN.out]; unfold maxLen; omega)
    have CT := Lib.hid (st_yes hsl hst (Below.refl _ _))
    clear hb hown hst hsl CS K1 RL1
    go_wp2_with fail
    refine CT.out.mono ?_
    rintro er w11 ⟨rfl, m1, hw11⟩
    have K3 : Hid (KD W pc p8 p9 p11 p13 #[Value.string n, .string f, .int .u8 l, sl, .int .i8 s, .string q, .int .i16 e] #[Value.string n, .string f, .int .u8 l, .slice (some ⟨g, 0, none⟩) ns cap, .int .i8 s, .string q, .int .i16 e] (.slice ai nf ci) (.slice (some ⟨g, 0, none⟩) ns cap) nf N3 N4 N5 N6 N7 N8 (fcs fs) ss o names (.slice aad o.done.length cad) (.slice aag o.given.length cag) (.slice aaz o.stuck.length caz) (.slice abd o.done.length cbd) (.slice abg o.given.length cbg) (.slice abz o.stuck.length cbz) (.slice acd o.done.length ccd) (.slice acg o.given.length ccg) (.slice acz o.stuck.length ccz) (.slice al nn cl) (.slice am nn cm) w11) := Lib.hid (by rw [hw11]; exact K2.out.below (below_drewN (Below.refl _ _) m1))
    clear CT K2 hw11
    have e0 := (cell_of_row w11 p8 0 _ _ _ K3.out.kb.b8).trans (show (#[Value.string n, .string f, .int .u8 l, .slice (some ⟨g, 0, none⟩) ns cap, .int .i8 s, .string q, .int .i16 e] : Array Value)[0]? = some (.string n) from rfl)
    have e1 := (cell_of_row w11 p8 1 _ _ _ K3.out.kb.b8).trans (show (#[Value.string n, .string f, .int .u8 l, .slice (some ⟨g, 0, none⟩) ns cap, .int .i8 s, .string q, .int .i16 e] : Array Value)[1]? = some (.string f) from rfl)
    have e2 := (cell_of_row w11 p8 2 _ _ _ K3.out.kb.b8).trans (show (#[Value.string n, .string f, .int .u8 l, .slice (some ⟨g, 0, none⟩) ns cap, .int .i8 s, .string q, .int .i16 e] : Array Value)[2]? = some (.int .u8 l) from rfl)
    have e3 := (cell_of_row w11 p8 3 _ _ _ K3.out.kb.b8).trans (show (#[Value.string n, .string f, .int .u8 l, .slice (some ⟨g, 0, none⟩) ns cap, .int .i8 s, .string q, .int .i16 e] : Array Value)[3]? = some (.slice (some ⟨g, 0, none⟩) ns cap) from rfl)
    have e4 := (cell_of_row w11 p8 4 _ _ _ K3.out.kb.b8).trans (show (#[Value.string n, .string f, .int .u8 l, .slice (some ⟨g, 0, none⟩) ns cap, .int .i8 s, .string q, .int .i16 e] : Array Value)[4]? = some (.int .i8 s) from rfl)
    have e5 := (cell_of_row w11 p8 5 _ _ _ K3.out.kb.b8).trans (show (#[Value.string n, .string f, .int .u8 l, .slice (some ⟨g, 0, none⟩) ns cap, .int .i8 s, .string q, .int .i16 e] : Array Value)[5]? = some (.string q) from rfl)
    have e6 := (cell_of_row w11 p8 6 _ _ _ K3.out.kb.b8).trans (show (#[Value.string n, .string f, .int .u8 l, .slice (some ⟨g, 0, none⟩) ns cap, .int .i8 s, .string q, .int .i16 e] : Array Value)[6]? = some (.int .i16 e) from rfl)
    have f0 := (cell_of_row w11 pc 0 _ _ _ K3.out.kb.bc).trans (show (#[Value.string n, .string f, .int .u8 l, sl, .int .i8 s, .string q, .int .i16 e] : Array Value)[0]? = some (.string n) from rfl)
    have f1 := (cell_of_row w11 pc 1 _ _ _ K3.out.kb.bc).trans (show (#[Value.string n, .string f, .int .u8 l, sl, .int .i8 s, .string q, .int .i16 e] : Array Value)[1]? = some (.string f) from rfl)
    have f2 := (cell_of_row w11 pc 2 _ _ _ K3.out.kb.bc).trans (show (#[Value.string n, .string f, .int .u8 l, sl, .int .i8 s, .string q, .int .i16 e] : Array Value)[2]? = some (.int .u8 l) from rfl)
    have f3 := (cell_of_row w11 pc 3 _ _ _ K3.out.kb.bc).trans (show (#[Value.string n, .string f, .int .u8 l, sl, .int .i8 s, .string q, .int .i16 e] : Array Value)[3]? = some (sl) from rfl)
    have f4 := (cell_of_row w11 pc 4 _ _ _ K3.out.kb.bc).trans (show (#[Value.string n, .string f, .int .u8 l, sl, .int .i8 s, .string q, .int .i16 e] : Array Value)[4]? = some (.int .i8 s) from rfl)
    have f5 := (cell_of_row w11 pc 5 _ _ _ K3.out.kb.bc).trans (show (#[Value.string n, .string f, .int .u8 l, sl, .int .i8 s, .string q, .int .i16 e] : Array Value)[5]? = some (.string q) from rfl)
    have f6 := (cell_of_row w11 pc 6 _ _ _ K3.out.kb.bc).trans (show (#[Value.string n, .string f, .int .u8 l, sl, .int .i8 s, .string q, .int .i16 e] : Array Value)[6]? = some (.int .i16 e) from rfl)
    have TWS := K3.out.kb.tw.strs (by have := HSN.out; unfold maxLen; omega)
    have CM := Lib.hid (rsame_walk n f q n f q l s e l s e ss ss _ _ w11 TWS (HS.out.below K3.out.kb.bx))
    rw [sameB_self22] at CM
    clear TWS
    go_wp2_with fail
    refine CM.out.mono ?_
    rintro er w12 ⟨rfl, hb⟩
    have FIN := Lib.hid (K3.out.below hb)
    clear hb K3 CM e0 e1 e2 e3 e4 e5 e6 f0 f1 f2 f3 f4 f5 f6
    go_wp2_with fail
    go_meet
    exact ⟨rfl, FIN⟩
  case rest =>
  obtain ⟨rfl, hcut⟩ := hcut
  have K := Lib.hid hcut.out
  clear hcut K0 RL0 OA0
  obtain ⟨w9, rfl⟩ : ∃ x : World, x = wc := ⟨_, rfl⟩
  go_upto_block 0 with fail
  go_cut [] from 17 to 215 (fun wx => Hid (KD W pc p8 p9 p11 p13 #[Value.string n, .string f, .int .u8 l, sl, .int .i8 s, .string q, .int .i16 e] #[Value.string n, .string f, .int .u8 l, .slice (some ⟨g, 0, none⟩) ns cap, .int .i8 s, .string q, .int .i16 e] (.slice ai nf ci) (.slice (some ⟨g, 0, none⟩) ns cap) nf N3 N4 N5 N6 N7 N8 (fcs fs) ss o names (.slice aad o.done.length cad) (.slice aag o.given.length cag) (.slice aaz o.stuck.length caz) (.slice abd o.done.length cbd) (.slice abg o.given.length cbg) (.slice abz o.stuck.length cbz) (.slice acd o.done.length ccd) (.slice acg o.given.length ccg) (.slice acz o.stuck.length ccz) (.slice al nn cl) (.slice am nn cm) wx))
  case first => as_aux_lemma => --ok
    go_wp2_with fail
    go_loopg [17] nn (fun r vi wr => ∃ k : Nat, k ≤ nn ∧ r = nn - k ∧ vi = .int .i64 k ∧ Hid (KD W pc p8 p9 p11 p13 #[Value.string n, .string f, .int .u8 l, sl, .int .i8 s, .string q, .int .i16 e] #[Value.string n, .string f, .int .u8 l, .slice (some ⟨g, 0, none⟩) ns cap, .int .i8 s, .string q, .int .i16 e] (.slice ai nf ci) (.slice (some ⟨g, 0, none⟩) ns cap) nf N3 N4 N5 N6 N7 N8 (fcs fs) ss o names (.slice aad o.done.length cad) (.slice aag o.given.length cag) (.slice aaz o.stuck.length caz) (.slice abd o.done.length cbd) (.slice abg o.given.length cbg) (.slice abz o.stuck.length cbz) (.slice acd o.done.length ccd) (.slice acg o.given.length ccg) (.slice acz o.stuck.length ccz) (.slice al nn cl) (.slice am nn cm) wr))
    case atStart => exact ⟨0, by omega, by omega, rfl, K⟩
    case round =>
      clear K
      obtain ⟨k, hk, hr, rfl, hq⟩ := hrel
      have HR := Lib.hid hr
      clear hr
      by_cases hlt : k < nn
      · have hl := hq.out.l
        rw [HNN.out] at hl
        obtain ⟨gl, Cl, ul, rfl, h1, h2, h3, h4, h5⟩ := hl.at hlt
        have NX := Lib.hid (hq.out.set (k := k) h3 (.inr ⟨h1, h2⟩) (.string ⟨#[126]⟩))
        have HLT := Lib.hid hlt
        have wk : wrap64 ((k : Int) + 1) = (k : Int) + 1 := IntWalk.wrap64_in _ (by have := NFEW.out; omega)
        have hki : (0 : Int) ≤ (k : Int) ∧ (k : Int) < (nn : Int) := ⟨Int.natCast_nonneg k, Int.ofNat_lt.2 hlt⟩
        clear h1 h2 h3 hl hq hk hlt
        go_wp2_with fail
        go_roundg (nn - (k + 1))
        case measure => exact meas_ltS HR.out HLT.out
        case rel => exact ⟨k + 1, HLT.out, rfl, by first | rfl | (rw [wk]; rfl), NX⟩
      · obtain rfl : nn = k := by omega
        have FIN := Lib.hid hq.out
        clear hq HR
        go_wp2_with fail
        go_meet
        exact FIN
  case rest =>
  have K := Lib.hid hcut.out
  clear hcut
  obtain ⟨wr, rfl⟩ : ∃ x : World, x = wc := ⟨_, rfl⟩
  have a3 := (cell_of_row wr p9 3 _ _ _ K.out.b9).trans (show (#[Value.bool o.good, .int .i64 o.at_, .int .u8 o.how, .slice aad o.done.length cad, .slice aag o.given.length cag, .slice aaz o.stuck.length caz] : Array Value)[3]? = some (.slice aad o.done.length cad) from rfl)
  have a4 := (cell_of_row wr p9 4 _ _ _ K.out.b9).trans (show (#[Value.bool o.good, .int .i64 o.at_, .int .u8 o.how, .slice aad o.done.length cad, .slice aag o.given.length cag, .slice aaz o.stuck.length caz] : Array Value)[4]? = some (.slice aag o.given.length cag) from rfl)
  have a5 := (cell_of_row wr p9 5 _ _ _ K.out.b9).trans (show (#[Value.bool o.good, .int .i64 o.at_, .int .u8 o.how, .slice aad o.done.length cad, .slice aag o.given.length cag, .slice aaz o.stuck.length caz] : Array Value)[5]? = some (.slice aaz o.stuck.length caz) from rfl)
  obtain ⟨pb, hpb⟩ : ∃ p, p = wr.heap.size := ⟨_, rfl⟩
  have HPB := Lib.hid hpb
  clear hpb
  have FB : Hid (KD W pc p8 p9 p11 p13 #[Value.string n, .string f, .int .u8 l, sl, .int .i8 s, .string q, .int .i16 e] #[Value.string n, .string f, .int .u8 l, .slice (some ⟨g, 0, none⟩) ns cap, .int .i8 s, .string q, .int .i16 e] (.slice ai nf ci) (.slice (some ⟨g, 0, none⟩) ns cap) nf N3 N4 N5 N6 N7 N8 (fcs fs) ss o names (.slice aad o.done.length cad) (.slice aag o.given.length cag) (.slice aaz o.stuck.length caz) (.slice abd o.done.length cbd) (.slice abg o.given.length cbg) (.slice abz o.stuck.length cbz) (.slice acd o.done.length ccd) (.slice acg o.given.length ccg) (.slice acz o.stuck.length ccz) (.slice al nn cl) (.slice am nn cm) (wr.alloc (.cells #[.slice aad o.done.length cad, .slice aag o.given.length cag, .slice aaz o.stuck.length caz] 37)) ∧ (wr.alloc (.cells #[.slice aad o.done.length cad, .slice aag o.given.length cag, .slice aaz o.stuck.length caz] 37)).heap[pb]? = some (.cells #[.slice aad o.done.length cad, .slice aag o.given.length cag, .slice aaz o.stuck.length caz] 37 (0, 0))) := Lib.hid ⟨K.out.below ((Below.refl _ _).alloc (Nat.le_refl _) _), by rw [HPB.out]; exact heap_alloc_new _ _⟩
  clear K
  go_upto_block 2 with fail
  rw [← HPB.out]
  clear a3 a4 a5
  obtain ⟨wq, hwq⟩ : ∃ x, x = wr.alloc (.cells #[.slice aad o.done.length cad, .slice aag o.given.length cag, .slice aaz o.stuck.length caz] 37) := ⟨_, rfl⟩
  rw [← hwq] at FB ⊢
  clear hwq HPB
  go_cut [] from 17 to 215 (fun wx => Hid (KD W pc p8 p9 p11 p13 #[Value.string n, .string f, .int .u8 l, sl, .int .i8 s, .string q, .int .i16 e] #[Value.string n, .string f, .int .u8 l, .slice (some ⟨g, 0, none⟩) ns cap, .int .i8 s, .string q, .int .i16 e] (.slice ai nf ci) (.slice (some ⟨g, 0, none⟩) ns cap) nf N3 N4 N5 N6 N7 N8 (fcs fs) ss o names (.slice aad o.done.length cad) (.slice aag o.given.length cag) (.slice aaz o.stuck.length caz) (.slice abd o.done.length cbd) (.slice abg o.given.length cbg) (.slice abz o.stuck.length cbz) (.slice acd o.done.length ccd) (.slice acg o.given.length ccg) (.slice acz o.stuck.length ccz) (.slice al nn cl) (.slice am nn cm) wx))
  case first => as_aux_lemma => --ok
    go_wp2_with fail
    go_loopg [88] 3 (fun r vi wz => ∃ j : Nat, j ≤ 3 ∧ r = 3 - j ∧ vi = .int .i64 j ∧ Hid (KD W pc p8 p9 p11 p13 #[Value.string n, .string f, .int .u8 l, sl, .int .i8 s, .string q, .int .i16 e] #[Value.string n, .string f, .int .u8 l, .slice (some ⟨g, 0, none⟩) ns cap, .int .i8 s, .string q, .int .i16 e] (.slice ai nf ci) (.slice (some ⟨g, 0, none⟩) ns cap) nf N3 N4 N5 N6 N7 N8 (fcs fs) ss o names (.slice aad o.done.length cad) (.slice aag o.given.length cag) (.slice aaz o.stuck.length caz) (.slice abd o.done.length cbd) (.slice abg o.given.length cbg) (.slice abz o.stuck.length cbz) (.slice acd o.done.length ccd) (.slice acg o.given.length ccg) (.slice acz o.stuck.length ccz) (.slice al nn cl) (.slice am nn cm) wz ∧ wz.heap[pb]? = some (.cells #[.slice aad o.done.length cad, .slice aag o.given.length cag, .slice aaz o.stuck.length caz] 37 (0, 0))))
    case atStart => exact ⟨0, by omega, by omega, rfl, FB⟩
    case round =>
      clear FB
      obtain ⟨j, hj, hr, rfl, hq⟩ := hrel
      have HR := Lib.hid hr
      clear hr
      by_cases hlt : j < 3
      · obtain ⟨aj, nj, cj, dj, hw, hn4⟩ := KD.rowAt FEW.out hq.out.1 hq.out.2 j hlt
        have hji : (0 : Int) ≤ (j : Int) ∧ (j : Int) < 3 := by omega
        have wj : wrap64 ((j : Int) + 1) = (j : Int) + 1 := IntWalk.wrap64_in _ (by omega)
        have HJ := Lib.hid hlt
        have HN4 := Lib.hid hn4
        have Q := Lib.hid (And.intro hq.out.1 (And.intro hq.out.2 hw))
        clear hw hn4 hq hj hlt
        go_wp2_with fail
        clear dj
        go_loopg [20] nj (fun r vi wy => ∃ k2 : Nat, k2 ≤ nj ∧ r = nj - k2 ∧ vi = .int .i64 k2 ∧ Hid (KD W pc p8 p9 p11 p13 #[Value.string n, .string f, .int .u8 l, sl, .int .i8 s, .string q, .int .i16 e] #[Value.string n, .string f, .int .u8 l, .slice (some ⟨g, 0, none⟩) ns cap, .int .i8 s, .string q, .int .i16 e] (.slice ai nf ci) (.slice (some ⟨g, 0, none⟩) ns cap) nf N3 N4 N5 N6 N7 N8 (fcs fs) ss o names (.slice aad o.done.length cad) (.slice aag o.given.length cag) (.slice aaz o.stuck.length caz) (.slice abd o.done.length cbd) (.slice abg o.given.length cbg) (.slice abz o.stuck.length cbz) (.slice acd o.done.length ccd) (.slice acg o.given.length ccg) (.slice acz o.stuck.length ccz) (.slice al nn cl) (.slice am nn cm) wy ∧ wy.heap[pb]? = some (.cells #[.slice aad o.done.length cad, .slice aag o.given.length cag, .slice aaz o.stuck.length caz] 37 (0, 0)) ∧ WrIn N3 N4 wy (.slice aj nj cj) nj))
        case atStart => exact ⟨0, by omega, by omega, rfl, Q⟩
        case round =>
          clear Q
          obtain ⟨k2, hk2, hr2, rfl, hq⟩ := hrel
          have HR2 := Lib.hid hr2
          clear hr2
          by_cases hlt : k2 < nj
          · obtain ⟨gl, Cl, ul, rfl, h1, h2, h3, h4, h5⟩ := hq.out.2.2.at hlt
            have NX := Lib.hid (And.intro (hq.out.1.set (k := k2) h3 (.inl ⟨h1, h2⟩) (.string ⟨#[126]⟩)) (And.intro (heap_apart (k := k2) hq.out.2.1 h3 (by decide) (.string ⟨#[126]⟩)) (hq.out.2.2.set (k := k2) h3 (.string ⟨#[126]⟩))))
            have HLT := Lib.hid hlt
            have wk : wrap64 ((k2 : Int) + 1) = (k2 : Int) + 1 := IntWalk.wrap64_in _ (by have := HN4.out; omega)
            have hki : (0 : Int) ≤ (k2 : Int) ∧ (k2 : Int) < (nj : Int) := ⟨Int.natCast_nonneg k2, Int.ofNat_lt.2 hlt⟩
            clear h1 h2 h3 hq hk2 hlt
            go_wp2_with fail
            go_roundg (nj - (k2 + 1))
            case measure => exact meas_ltS HR2.out HLT.out
            case rel => exact ⟨k2 + 1, HLT.out, rfl, by first | rfl | (rw [wk]; rfl), NX⟩
          · obtain rfl : nj = k2 := by omega
            have NX := Lib.hid (And.intro hq.out.1 hq.out.2.1)
            clear hq hk2 hlt HR2
            go_wp2_with fail
            go_roundg (3 - (j + 1))
            case measure => exact meas_ltS HR.out HJ.out
            case rel => exact ⟨j + 1, HJ.out, rfl, by first | rfl | (rw [wj]; rfl), NX⟩
      · obtain rfl : j = 3 := by omega
        have FIN := Lib.hid hq.out.1
        clear hq hj hlt HR
        go_wp2_with fail
        go_meet
        exact FIN
  case rest =>
  have K := Lib.hid hcut.out
  clear hcut FB
  obtain ⟨wz, rfl⟩ : ∃ x : World, x = wc := ⟨_, rfl⟩
  go_upto_region 22 with fail
  go_cut [112] from 23 to 215 (fun vt wx => vt = .bool false ∧ Hid (KD W pc p8 p9 p11 p13 #[Value.string n, .string f, .int .u8 l, sl, .int .i8 s, .string q, .int .i16 e] #[Value.string n, .string f, .int .u8 l, .slice (some ⟨g, 0, none⟩) ns cap, .int .i8 s, .string q, .int .i16 e] (.slice ai nf ci) (.slice (some ⟨g, 0, none⟩) ns cap) nf N3 N4 N5 N6 N7 N8 (fcs fs) ss o names (.slice aad o.done.length cad) (.slice aag o.given.length cag) (.slice aaz o.stuck.length caz) (.slice abd o.done.length cbd) (.slice abg o.given.length cbg) (.slice abz o.stuck.length cbz) (.slice acd o.done.length ccd) (.slice acg o.given.length ccg) (.slice acz o.stuck.length ccz) (.slice al nn cl) (.slice am nn cm) wx))
  case first => as_aux_lemma => --ok
    have EB := K.out.b.2.2.read FEW.out
    have EC := K.out.c.2.2.read FEW.out
    have CO := Lib.hid (sout_any EB EC)
    clear EB EC
    have v0 := (cell_of_row wz p11 0 _ _ _ K.out.b.2.1).trans (show (#[Value.bool o.good, .int .i64 o.at_, .int .u8 o.how, .slice abd o.done.length cbd, .slice abg o.given.length cbg, .slice abz o.stuck.length cbz] : Array Value)[0]? = some (.bool o.good) from rfl)
    have v1 := (cell_of_row wz p11 1 _ _ _ K.out.b.2.1).trans (show (#[Value.bool o.good, .int .i64 o.at_, .int .u8 o.how, .slice abd o.done.length cbd, .slice abg o.given.length cbg, .slice abz o.stuck.length cbz] : Array Value)[1]? = some (.int .i64 o.at_) from rfl)
    have v2 := (cell_of_row wz p11 2 _ _ _ K.out.b.2.1).trans (show (#[Value.bool o.good, .int .i64 o.at_, .int .u8 o.how, .slice abd o.done.length cbd, .slice abg o.given.length cbg, .slice abz o.stuck.length cbz] : Array Value)[2]? = some (.int .u8 o.how) from rfl)
    have v3 := (cell_of_row wz p11 3 _ _ _ K.out.b.2.1).trans (show (#[Value.bool o.good, .int .i64 o.at_, .int .u8 o.how, .slice abd o.done.length cbd, .slice abg o.given.length cbg, .slice abz o.stuck.length cbz] : Array Value)[3]? = some (.slice abd o.done.length cbd) from rfl)
    have v4 := (cell_of_row wz p11 4 _ _ _ K.out.b.2.1).trans (show (#[Value.bool o.good, .int .i64 o.at_, .int .u8 o.how, .slice abd o.done.length cbd, .slice abg o.given.length cbg, .slice abz o.stuck.length cbz] : Array Value)[4]? = some (.slice abg o.given.length cbg) from rfl)
    have v5 := (cell_of_row wz p11 5 _ _ _ K.out.b.2.1).trans (show (#[Value.bool o.good, .int .i64 o.at_, .int .u8 o.how, .slice abd o.done.length cbd, .slice abg o.given.length cbg, .slice abz o.stuck.length cbz] : Array Value)[5]? = some (.slice abz o.stuck.length cbz) from rfl)
    have u0 := (cell_of_row wz p13 0 _ _ _ K.out.c.2.1).trans (show (#[Value.bool o.good, .int .i64 o.at_, .int .u8 o.how, .slice acd o.done.length ccd, .slice acg o.given.length ccg, .slice acz o.stuck.length ccz] : Array Value)[0]? = some (.bool o.good) from rfl)
    have u1 := (cell_of_row wz p13 1 _ _ _ K.out.c.2.1).trans (show (#[Value.bool o.good, .int .i64 o.at_, .int .u8 o.how, .slice acd o.done.length ccd, .slice acg o.given.length ccg, .slice acz o.stuck.length ccz] : Array Value)[1]? = some (.int .i64 o.at_) from rfl)
    have u2 := (cell_of_row wz p13 2 _ _ _ K.out.c.2.1).trans (show (#[Value.bool o.good, .int .i64 o.at_, .int .u8 o.how, .slice acd o.done.length ccd, .slice acg o.given.length ccg, .slice acz o.stuck.length ccz] : Array Value)[2]? = some (.int .u8 o.how) from rfl)
    have u3 := (cell_of_row wz p13 3 _ _ _ K.out.c.2.1).trans (show (#[Value.bool o.good, .int .i64 o.at_, .int .u8 o.how, .slice acd o.done.length ccd, .slice acg o.given.length ccg, .slice acz o.stuck.length ccz] : Array Value)[3]? = some (.slice acd o.done.length ccd) from rfl)
    have u4 := (cell_of_row wz p13 4 _ _ _ K.out.c.2.1).trans (show (#[Value.bool o.good, .int .i64 o.at_, .int .u8 o.how, .slice acd o.done.length ccd, .slice acg o.given.length ccg, .slice acz o.stuck.length ccz] : Array Value)[4]? = some (.slice acg o.given.length ccg) from rfl)
    have u5 := (cell_of_row wz p13 5 _ _ _ K.out.c.2.1).trans (show (#[Value.bool o.good, .int .i64 o.at_, .int .u8 o.how, .slice acd o.done.length ccd, .slice acg o.given.length ccg, .slice acz o.stuck.length ccz] : Array Value)[5]? = some (.slice acz o.stuck.length ccz) from rfl)
    go_wp2_with fail
    refine CO.out.mono ?_
    rintro er w10 ⟨rfl, hb⟩
    have K1 := Lib.hid (K.out.below hb)
    clear hb CO K v0 v1 v2 v3 v4 v5 u0 u1 u2 u3 u4 u5
    have CS := Lib.hid (stepsRun.rsteps_any HSH.out fam w10 K1.out.kb.bx)
    rw [HNM.out, HNN.out] at CS
    go_wp2_with fail
    refine CS.out.mono ?_
    rintro er w11 ⟨vS, rfl, hown, hb⟩
    obtain ⟨aS, cS, rfl⟩ := own_slice hown
    have K2 := Lib.hid (K1.out.below hb)
    have hst := strs_own (zs := names) (by rw [HNN.out]; exact hown) (by have := NFEW.out; rw [HNN.out]; unfold maxLen; omega)
    have hsl := K2.out.m.strs (by have := NFEW.out; rw [HNN.out]; unfold maxLen; omega)
    have CT := Lib.hid (st_yes hsl hst (Below.refl _ _))
    clear hb hown hst hsl CS K1
    go_wp2_with fail
    refine CT.out.mono ?_
    rintro er w12 ⟨rfl, m1, hw12⟩
    have FIN : Hid (KD W pc p8 p9 p11 p13 #[Value.string n, .string f, .int .u8 l, sl, .int .i8 s, .string q, .int .i16 e] #[Value.string n, .string f, .int .u8 l, .slice (some ⟨g, 0, none⟩) ns cap, .int .i8 s, .string q, .int .i16 e] (.slice ai nf ci) (.slice (some ⟨g, 0, none⟩) ns cap) nf N3 N4 N5 N6 N7 N8 (fcs fs) ss o names (.slice aad o.done.length cad) (.slice aag o.given.length cag) (.slice aaz o.stuck.length caz) (.slice abd o.done.length cbd) (.slice abg o.given.length cbg) (.slice abz o.stuck.length cbz) (.slice acd o.done.length ccd) (.slice acg o.given.length ccg) (.slice acz o.stuck.length ccz) (.slice al nn cl) (.slice am nn cm) w12) := Lib.hid (by rw [hw12]; exact K2.out.below (below_drewN (Below.refl _ _) m1))
    clear CT K2 hw12
    go_wp2_with fail
    go_meet
    exact ⟨rfl, FIN⟩
  case rest =>
  obtain ⟨rfl, hcut⟩ := hcut
  have E0 : Hid (KE W pc p8 p9 p13 #[Value.string n, .string f, .int .u8 l, sl, .int .i8 s, .string q, .int .i16 e] #[Value.string n, .string f, .int .u8 l, .slice (some ⟨g, 0, none⟩) ns cap, .int .i8 s, .string q, .int .i16 e] (.slice ai nf ci) (.slice (some ⟨g, 0, none⟩) ns cap) nf N3 (fcs (halfG nxF fs (0))) ss (.slice none 0 0) (0) (fcs ((fs.map nxF).take (0))) wc) := Lib.hid (by rw [halfG_zero]; exact hcut.out.ke)
  clear hcut K
  obtain ⟨w13, rfl⟩ : ∃ x : World, x = wc := ⟨_, rfl⟩
  go_upto_block 6 with fail
  go_cut [21] from 22 to 215 (fun vn wx => Hid (KE W pc p8 p9 p13 #[Value.string n, .string f, .int .u8 l, sl, .int .i8 s, .string q, .int .i16 e] #[Value.string n, .string f, .int .u8 l, .slice (some ⟨g, 0, none⟩) ns cap, .int .i8 s, .string q, .int .i16 e] (.slice ai nf ci) (.slice (some ⟨g, 0, none⟩) ns cap) nf N3 (fcs (halfG nxF fs (nf))) ss (vn) (nf) (fcs ((fs.map nxF).take (nf))) wx))
  case first => as_aux_lemma => --ok
    go_wp2_with fail
    go_loopg [21, 22] nf (fun r vn vi wr => ∃ k : Nat, k ≤ nf ∧ r = nf - k ∧ vi = .int .i64 k ∧ Hid (KE W pc p8 p9 p13 #[Value.string n, .string f, .int .u8 l, sl, .int .i8 s, .string q, .int .i16 e] #[Value.string n, .string f, .int .u8 l, .slice (some ⟨g, 0, none⟩) ns cap, .int .i8 s, .string q, .int .i16 e] (.slice ai nf ci) (.slice (some ⟨g, 0, none⟩) ns cap) nf N3 (fcs (halfG nxF fs (k))) ss (vn) (k) (fcs ((fs.map nxF).take (k))) wr))
    case atStart => exact ⟨0, by omega, by omega, rfl, E0⟩
    case round =>
      clear E0
      obtain ⟨k, hk, hr, rfl, hq⟩ := hrel
      have HR := Lib.hid hr
      clear hr
      by_cases hlt : k < nf
      · have hlF : k < fs.length := by rw [HNF.out]; exact hlt
        obtain ⟨gi, ci', hform, hgB, hgl⟩ := hq.out.kb.fr.form (by omega)
        injection hform with e1 _ e3
        subst e1 e3
        obtain ⟨b, off, hp, g0⟩ := fates_at HV.out k hlF
        subst hp
        obtain ⟨⟨st, how, back⟩, hft⟩ : ∃ x, fs[k]? = some x := ⟨_, List.getElem?_eq_getElem hlF⟩
        have hft' : fs[k] = ⟨st, how, back⟩ := by rw [List.getElem?_eq_getElem hlF] at hft; simpa using hft
        rw [hft'] at g0
        have hbz : b < W.heap.size := World.block_lt_of_cell? W _ (g0 0 _ rfl)
        have d0 : wr.cell? ⟨b, off + k * 3, none⟩ = some (.int .i64 st) := (hq.out.kb.bx.cell (p := ⟨b, off + k * 3, none⟩) hbz).trans (g0 0 _ rfl)
        have d1 : wr.cell? ⟨b, off + k * 3 + 1, none⟩ = some (.int .u8 how) := (hq.out.kb.bx.cell (p := ⟨b, off + k * 3 + 1, none⟩) hbz).trans (g0 1 _ rfl)
        have d2 : wr.cell? ⟨b, off + k * 3 + 2, none⟩ = some (.int .u8 back) := (hq.out.kb.bx.cell (p := ⟨b, off + k * 3 + 2, none⟩) hbz).trans (g0 2 _ rfl)
        have gx : ∀ j (u : Value), (Ft.cells ⟨st, how, back⟩)[j]? = some u → wr.cell? ⟨gi, k * 3 + j, none⟩ = some u := fun j u hu => by
          have h3 := fcell_lt hu
          rw [hq.out.kb.fr.cellAt (k * 3 + j) (by omega)]
          refine fcs_at _ k (by rw [halfG_len]; exact hlF) j u ?_
          rw [halfG_at nxF hlF, hft']
          exact hu
        have c0 : wr.cell? ⟨gi, k * 3, none⟩ = some (.int .i64 st) := gx 0 _ rfl
        have c1 : wr.cell? ⟨gi, k * 3 + 1, none⟩ = some (.int .u8 how) := gx 1 _ rfl
        have c2 : wr.cell? ⟨gi, k * 3 + 2, none⟩ = some (.int .u8 back) := gx 2 _ rfl
        have f0 : wr.frozen? ⟨gi, k * 3, none⟩ = false := hq.out.kb.fr.frozenAt _
        have f2 : wr.frozen? ⟨gi, k * 3 + 2, none⟩ = false := hq.out.kb.fr.frozenAt _
        obtain ⟨o1, o2, o3, o4⟩ : (0 ≤ how ∧ how ≤ 255 ∧ 0 ≤ back ∧ back ≤ 255) := HFO.out ⟨st, how, back⟩ (by rw [← hft']; exact List.getElem_mem _)
        have m2 : Int.tmod back 3 = back % 3 := Int.tmod_eq_emod_of_nonneg o3
        have wu : IntKind.u8.wrap (2 - back % 3) = 2 - back % 3 := wrap_u8R
        have wk : wrap64 ((k : Int) + 1) = (k : Int) + 1 := wrapR hlt HNF.out HL.out
        have hki : (0 : Int) ≤ (k : Int) ∧ (k : Int) < (nf : Int) := ⟨Int.natCast_nonneg k, Int.ofNat_lt.2 hlt⟩
        have HQ := Lib.hid hq.out
        have HLT := Lib.hid hlt
        have HLF := Lib.hid hlF
        have HFT := Lib.hid hft'
        have hq1 : decide (st = st) = true := decide_eq_true rfl
        have hq2 : decide (how = how) = true := decide_eq_true rfl
        clear gx hq hlt hft hft' hk hgB hgl o1 o2 o3 o4 g0 hbz
        go_wp2_with fail
        go_quiet (fail)
        go_wp2_with fail
        have NZ := KE.turn (HQ.out.below (below_drewN (Below.refl _ _) nq)) hlF HFT.out
        obtain ⟨wz2, hwz⟩ : ∃ x, x = ((wr.drewN nq).setCell ⟨gi, k * 3, none⟩ (.int .i64 (wrap64 (st + 1)))).setCell ⟨gi, k * 3 + 2, none⟩ (.int .u8 (2 - back % 3)) := ⟨_, rfl⟩
        rw [← hwz] at NZ ⊢
        obtain ⟨z0, z1, z2⟩ := KE.cells NZ hlF HNF.out HFT.out
        have Q := Lib.hid NZ
        have NW := Lib.hid NZ.nw
        have HF : Hid (some gi ≠ u21.ownBlock) := Lib.hid (fun e => by
          obtain ⟨C, hC⟩ := own_type NW.out e.symm
          obtain ⟨C', hC'⟩ := own_type Q.out.kb.fr (g := gi) rfl
          rw [hC] at hC'
          injection hC' with hC'
          injection hC' with _ h2 _
          exact absurd h2 (by decide))
        have hz : W.heap.size ≤ wz2.heap.size := Q.out.kb.bx.size
        obtain ⟨hkm, hkb⟩ := roomR HLT.out HNF.out HL.out
        have hgz : gi < wz2.heap.size := World.block_lt_of_cell? wz2 _ z0
        obtain ⟨irf, hif, hf0, hf1, hf2⟩ := info_parts infoRF
        clear NZ hwz HQ c0 c1 c2 d0 d1 d2 f0 f2 m2 wu
        go_region_held3 (fun w' => w'.cell? ⟨gi, k * 3, none⟩ = some (.int .i64 (wrap64 (st + 1))) ∧ w'.cell? ⟨gi, k * 3 + 1, none⟩ = some (.int .u8 how) ∧ w'.cell? ⟨gi, k * 3 + 2, none⟩ = some (.int .u8 (2 - back % 3)))
          (first | go_keep | exact k1)
          ((refine step_append_lies _ (by rfl) (.tmp 177) (.tmp 194) 51 (by rfl) W.heap.size 68 irf _ 3 16 Try.underlying51 hif hf0 hf1 hf2 rfl (by omega) u21 k (fcs ((fs.map nxF).take k)) (by rfl) ((NW.out.drew).alloc _) ⟨wz2.heap.size, 0, none⟩ 1 1 [.int .i64 (wrap64 (st + 1)), .int .u8 how, .int .u8 (2 - back % 3)] (by rfl) (by rfl) (World.news_of_block (cs := #[.int .i64 (wrap64 (st + 1)), .int .u8 how, .int .u8 (2 - back % 3)]) (t := 68) (fr := (0, 0)) (heap_alloc_new wz2.drew _)) (by simp [Value.oneCell']) (by omega) hkm hkb (by simp; omega) (wz2.heap.size + 1) (by simp) ?_; intro g2 cap2 w2 hown2 hgrow2 hat2 hlt2; have k1 : w2.cell? ⟨gi, k * 3, none⟩ = some (.int .i64 (wrap64 (st + 1))) ∧ w2.cell? ⟨gi, k * 3 + 1, none⟩ = some (.int .u8 how) ∧ w2.cell? ⟨gi, k * 3 + 2, none⟩ = some (.int .u8 (2 - back % 3)) := ⟨(hgrow2.cell_far ⟨gi, k * 3, none⟩ (by simp; omega) HF.out).trans (by go_keep), (hgrow2.cell_far ⟨gi, k * 3 + 1, none⟩ (by simp; omega) HF.out).trans (by go_keep), (hgrow2.cell_far ⟨gi, k * 3 + 2, none⟩ (by simp; omega) HF.out).trans (by go_keep)⟩))
        have NX2 : Hid (KE W pc p8 p9 p13 #[Value.string n, .string f, .int .u8 l, sl, .int .i8 s, .string q, .int .i16 e] #[Value.string n, .string f, .int .u8 l, .slice (some ⟨g, 0, none⟩) ns cap, .int .i8 s, .string q, .int .i16 e] (.slice (some ⟨gi, 0, none⟩) nf ci) (.slice (some ⟨g, 0, none⟩) ns cap) nf N3 (fcs (halfG nxF fs (k + 1))) ss (.slice (some ⟨g2, 0, none⟩) (k + 1) cap2) (k + 1) (fcs ((fs.map nxF).take (k + 1))) w2) := Lib.hid (KE.grown Q.out (((Below.refl wz2.heap.size wz2).drew).alloc (by simp) (.cells #[.int .i64 (wrap64 (st + 1)), .int .u8 how, .int .u8 (2 - back % 3)] 68 (0, 0))) hgrow2 (by
          rw [List.take_succ_eq_append_getElem (by rw [List.length_map]; exact hlF), fcs_append, List.getElem_map, HFT.out]
          exact hown2))
        clear hown2 hgrow2 hat2 hlt2 k1 Q NW HF hz hkm hkb hgz z0 z1 z2
        go_wp2_with fail
        go_roundg (nf - (k + 1))
        case measure => exact meas_ltS HR.out HLT.out
        case rel => exact ⟨k + 1, HLT.out, rfl, by first | rfl | (rw [wk]; rfl), NX2⟩
      · obtain rfl : nf = k := by omega
        have FIN := Lib.hid hq.out
        clear hq hk hlt HR
        go_wp2_with fail
        go_meet
        exact FIN
  case rest =>
  obtain ⟨wr, rfl⟩ : ∃ x : World, x = wc := ⟨_, rfl⟩
  have K := hcut.out
  rw [show halfG nxF fs nf = fs.map nxF by rw [← HNF.out]; exact halfG_all nxF fs, show (fs.map nxF).take nf = fs.map nxF from List.take_of_length_le (by rw [List.length_map, HNF.out]; exact Nat.le_refl _)] at K
  obtain ⟨Gs, hGs⟩ : ∃ x, fs.map nxF = x := ⟨_, rfl⟩
  have hGl : Gs.length = nf := by rw [← hGs, List.length_map, HNF.out]
  have HGL := Lib.hid hGl
  have GOK : Hid (∀ f ∈ Gs, f.ok) := Lib.hid (by rw [← hGs]; exact nextOk HFO.out)
  have HLG : Hid (Gs.length ≤ 140737488355328) := Lib.hid (by rw [hGl, ← HNF.out]; have := HL.out; omega)
  rw [hGs] at K
  obtain ⟨an, cn, rfl⟩ := own_slice K.nw
  have FN := Lib.hid (fates_own (fs := Gs) (v := .slice an nf cn) (by rw [hGl]; exact K.nw))
  obtain ⟨o2, ho2⟩ : ∃ o2, o2 = probeO ⟨n, f, l, ss, s, q, e⟩ Gs := ⟨_, rfl⟩
  obtain ⟨E2, hE2⟩ : ∃ E2, E2 = probeE ⟨n, f, l, ss, s, q, e⟩ Gs := ⟨_, rfl⟩
  have HO2 := Lib.hid ho2
  have HE2 := Lib.hid hE2
  have FEW2 : Hid o2.few := Lib.hid (by rw [ho2]; exact few_out)
  have KH := Lib.hid K
  clear K hcut E0 hGs hGl ho2 hE2
  go_upto_region 33 with fail
  go_cut [14] from 23 to 215 (fun vE wx => ∃ (lo hi : Nat) (x1 x2 x3 : Option Addr) (y1 y2 y3 : Nat), vE = .int .i64 E2 ∧ Hid (KF W pc p8 p9 p13 #[Value.string n, .string f, .int .u8 l, sl, .int .i8 s, .string q, .int .i16 e] #[Value.string n, .string f, .int .u8 l, .slice (some ⟨g, 0, none⟩) ns cap, .int .i8 s, .string q, .int .i16 e] (.slice ai nf ci) (.slice (some ⟨g, 0, none⟩) ns cap) nf N3 (fcs Gs) ss o2 lo hi (.slice x1 o2.done.length y1) (.slice x2 o2.given.length y2) (.slice x3 o2.stuck.length y3) wx))
  case first => as_aux_lemma => --ok
    have f0 := (cell_of_row wr pc 0 _ _ _ KH.out.kb.bc).trans (show (#[Value.string n, .string f, .int .u8 l, sl, .int .i8 s, .string q, .int .i16 e] : Array Value)[0]? = some (.string n) from rfl)
    have f1 := (cell_of_row wr pc 1 _ _ _ KH.out.kb.bc).trans (show (#[Value.string n, .string f, .int .u8 l, sl, .int .i8 s, .string q, .int .i16 e] : Array Value)[1]? = some (.string f) from rfl)
    have f2 := (cell_of_row wr pc 2 _ _ _ KH.out.kb.bc).trans (show (#[Value.string n, .string f, .int .u8 l, sl, .int .i8 s, .string q, .int .i16 e] : Array Value)[2]? = some (.int .u8 l) from rfl)
    have f3 := (cell_of_row wr pc 3 _ _ _ KH.out.kb.bc).trans (show (#[Value.string n, .string f, .int .u8 l, sl, .int .i8 s, .string q, .int .i16 e] : Array Value)[3]? = some (sl) from rfl)
    have f4 := (cell_of_row wr pc 4 _ _ _ KH.out.kb.bc).trans (show (#[Value.string n, .string f, .int .u8 l, sl, .int .i8 s, .string q, .int .i16 e] : Array Value)[4]? = some (.int .i8 s) from rfl)
    have f5 := (cell_of_row wr pc 5 _ _ _ KH.out.kb.bc).trans (show (#[Value.string n, .string f, .int .u8 l, sl, .int .i8 s, .string q, .int .i16 e] : Array Value)[5]? = some (.string q) from rfl)
    have f6 := (cell_of_row wr pc 6 _ _ _ KH.out.kb.bc).trans (show (#[Value.string n, .string f, .int .u8 l, sl, .int .i8 s, .string q, .int .i16 e] : Array Value)[6]? = some (.int .i16 e) from rfl)
    have CP := Lib.hid (rprobe_r HSH.out KH.out.kb.bx (HS.out.below KH.out.kb.bx) HOK.out FN.out GOK.out HLG.out HE2.out HO2.out)
    unfold ProbeR at CP
    go_wp2_with fail
    refine CP.out.mono ?_
    rintro er w4 ⟨x1, y1, x2, y2, x3, y3, rfl, hin, hb⟩
    have K4 := Lib.hid (KH.out.below hb)
    have KFN := Lib.hid (KE.kf K4.out hin)
    obtain ⟨q0, q1, q2, q3, q4, q5, h13⟩ := K4.out.b13
    have TZ := Lib.hid (there6 h13)
    clear h13 hin hb K4 CP KH FN f0 f1 f2 f3 f4 f5 f6
    go_wp2_with (refine wpList_store_all (by rfl) 59 (.tmp 13) (.tmp 200) (by rfl) p13 0 [.bool o2.good, .int .i64 o2.at_, .int .u8 o2.how, .slice x1 o2.done.length y1, .slice x2 o2.given.length y2, .slice x3 o2.stuck.length y3] (by kernel_rfl) (by kernel_rfl) TZ.out (by kernel_rfl) (by simp [Value.oneCell']) ?_)
    intro W4 HW4
    rw [← HW4.out] at KFN
    clear HW4 TZ
    go_wp2_with fail
    go_meet
    exact ⟨_, _, x1, x2, x3, y1, y2, y3, rfl, KFN⟩
  case rest =>
  obtain ⟨lo, hi, x1, x2, x3, y1, y2, y3, rfl, hcut⟩ := hcut
  have K := Lib.hid hcut.out
  clear hcut KH FN
  obtain ⟨w14, rfl⟩ : ∃ x : World, x = wc := ⟨_, rfl⟩
  go_upto_region 34 with fail
  go_cut [10] from 23 to 215 (fun vE wx => ∃ (z1 z2 z3 : Option Addr) (t1 t2 t3 : Nat), vE = .int .i64 E2 ∧ Hid (Below W.heap.size W wx ∧ wx.heap[p9]? = some (.cells #[.bool o2.good, .int .i64 o2.at_, .int .u8 o2.how, .slice z1 o2.done.length t1, .slice z2 o2.given.length t2, .slice z3 o2.stuck.length t3] 56 (0, 0)) ∧ wx.heap[p13]? = some (.cells #[.bool o2.good, .int .i64 o2.at_, .int .u8 o2.how, .slice x1 o2.done.length y1, .slice x2 o2.given.length y2, .slice x3 o2.stuck.length y3] 59 (0, 0)) ∧ OutR wx (.agg #[.bool o2.good, .int .i64 o2.at_, .int .u8 o2.how, .slice z1 o2.done.length t1, .slice z2 o2.given.length t2, .slice z3 o2.stuck.length t3]) o2 ∧ OutR wx (.agg #[.bool o2.good, .int .i64 o2.at_, .int .u8 o2.how, .slice x1 o2.done.length y1, .slice x2 o2.given.length y2, .slice x3 o2.stuck.length y3]) o2))
  case first => as_aux_lemma => --ok
    have e0 := (cell_of_row w14 p8 0 _ _ _ K.out.kb.b8).trans (show (#[Value.string n, .string f, .int .u8 l, .slice (some ⟨g, 0, none⟩) ns cap, .int .i8 s, .string q, .int .i16 e] : Array Value)[0]? = some (.string n) from rfl)
    have e1 := (cell_of_row w14 p8 1 _ _ _ K.out.kb.b8).trans (show (#[Value.string n, .string f, .int .u8 l, .slice (some ⟨g, 0, none⟩) ns cap, .int .i8 s, .string q, .int .i16 e] : Array Value)[1]? = some (.string f) from rfl)
    have e2 := (cell_of_row w14 p8 2 _ _ _ K.out.kb.b8).trans (show (#[Value.string n, .string f, .int .u8 l, .slice (some ⟨g, 0, none⟩) ns cap, .int .i8 s, .string q, .int .i16 e] : Array Value)[2]? = some (.int .u8 l) from rfl)
    have e3 := (cell_of_row w14 p8 3 _ _ _ K.out.kb.b8).trans (show (#[Value.string n, .string f, .int .u8 l, .slice (some ⟨g, 0, none⟩) ns cap, .int .i8 s, .string q, .int .i16 e] : Array Value)[3]? = some (.slice (some ⟨g, 0, none⟩) ns cap) from rfl)
    have e4 := (cell_of_row w14 p8 4 _ _ _ K.out.kb.b8).trans (show (#[Value.string n, .string f, .int .u8 l, .slice (some ⟨g, 0, none⟩) ns cap, .int .i8 s, .string q, .int .i16 e] : Array Value)[4]? = some (.int .i8 s) from rfl)
    have e5 := (cell_of_row w14 p8 5 _ _ _ K.out.kb.b8).trans (show (#[Value.string n, .string f, .int .u8 l, .slice (some ⟨g, 0, none⟩) ns cap, .int .i8 s, .string q, .int .i16 e] : Array Value)[5]? = some (.string q) from rfl)
    have e6 := (cell_of_row w14 p8 6 _ _ _ K.out.kb.b8).trans (show (#[Value.string n, .string f, .int .u8 l, .slice (some ⟨g, 0, none⟩) ns cap, .int .i8 s, .string q, .int .i16 e] : Array Value)[6]? = some (.int .i16 e) from rfl)
    have TWS := K.out.kb.tw.strs (by have := HSN.out; unfold maxLen; omega)
    have FA := fates_own (fs := Gs) (v := .slice ai nf ci) (by rw [HGL.out]; exact K.out.kb.fr)
    have CP := Lib.hid (probe_r HSH.out K.out.kb.bx TWS HOK.out FA GOK.out HE2.out HO2.out)
    unfold ProbeR at CP
    clear TWS FA
    go_wp2_with fail
    refine CP.out.mono ?_
    rintro er w4 ⟨z1, t1, z2, t2, z3, t3, rfl, hin, hb⟩
    have K4 := Lib.hid (K.out.below hb)
    obtain ⟨w5, hw5, hfin⟩ := KF.last K4.out hin FEW2.out
    have FIN := Lib.hid hfin
    have HW5 := Lib.hid hw5
    obtain ⟨q0, q1, q2, q3, q4, q5, h9⟩ := K4.out.b9
    have TZ := Lib.hid (there6 h9)
    clear h9 hin hb K4 CP K e0 e1 e2 e3 e4 e5 e6 hfin hw5
    go_wp2_with (refine wpList_store_all (by rfl) 56 (.tmp 9) (.tmp 206) (by rfl) p9 0 [.bool o2.good, .int .i64 o2.at_, .int .u8 o2.how, .slice z1 o2.done.length t1, .slice z2 o2.given.length t2, .slice z3 o2.stuck.length t3] (by kernel_rfl) (by kernel_rfl) TZ.out (by kernel_rfl) (by simp [Value.oneCell']) ?_)
    intro W4 HW4
    have hww : W4 = w5 := HW4.out.trans HW5.out.symm
    subst hww
    clear HW4 HW5 TZ
    go_wp2_with fail
    go_meet
    exact ⟨z1, z2, z3, t1, t2, t3, rfl, FIN⟩
  case rest =>
  obtain ⟨z1, z2, z3, t1, t2, t3, rfl, hcut⟩ := hcut
  have BX := Lib.hid hcut.out.1
  have P9 := Lib.hid hcut.out.2.1
  have P13 := Lib.hid hcut.out.2.2.1
  have CO := Lib.hid (sout_any hcut.out.2.2.2.1 hcut.out.2.2.2.2)
  clear hcut K
  obtain ⟨w15, rfl⟩ : ∃ x : World, x = wc := ⟨_, rfl⟩
  have v0 := (cell_of_row w15 p9 0 _ _ _ P9.out).trans (show (#[Value.bool o2.good, .int .i64 o2.at_, .int .u8 o2.how, .slice z1 o2.done.length t1, .slice z2 o2.given.length t2, .slice z3 o2.stuck.length t3] : Array Value)[0]? = some (.bool o2.good) from rfl)
  have v1 := (cell_of_row w15 p9 1 _ _ _ P9.out).trans (show (#[Value.bool o2.good, .int .i64 o2.at_, .int .u8 o2.how, .slice z1 o2.done.length t1, .slice z2 o2.given.length t2, .slice z3 o2.stuck.length t3] : Array Value)[1]? = some (.int .i64 o2.at_) from rfl)
  have v2 := (cell_of_row w15 p9 2 _ _ _ P9.out).trans (show (#[Value.bool o2.good, .int .i64 o2.at_, .int .u8 o2.how, .slice z1 o2.done.length t1, .slice z2 o2.given.length t2, .slice z3 o2.stuck.length t3] : Array Value)[2]? = some (.int .u8 o2.how) from rfl)
  have v3 := (cell_of_row w15 p9 3 _ _ _ P9.out).trans (show (#[Value.bool o2.good, .int .i64 o2.at_, .int .u8 o2.how, .slice z1 o2.done.length t1, .slice z2 o2.given.length t2, .slice z3 o2.stuck.length t3] : Array Value)[3]? = some (.slice z1 o2.done.length t1) from rfl)
  have v4 := (cell_of_row w15 p9 4 _ _ _ P9.out).trans (show (#[Value.bool o2.good, .int .i64 o2.at_, .int .u8 o2.how, .slice z1 o2.done.length t1, .slice z2 o2.given.length t2, .slice z3 o2.stuck.length t3] : Array Value)[4]? = some (.slice z2 o2.given.length t2) from rfl)
  have v5 := (cell_of_row w15 p9 5 _ _ _ P9.out).trans (show (#[Value.bool o2.good, .int .i64 o2.at_, .int .u8 o2.how, .slice z1 o2.done.length t1, .slice z2 o2.given.length t2, .slice z3 o2.stuck.length t3] : Array Value)[5]? = some (.slice z3 o2.stuck.length t3) from rfl)
  have u0 := (cell_of_row w15 p13 0 _ _ _ P13.out).trans (show (#[Value.bool o2.good, .int .i64 o2.at_, .int .u8 o2.how, .slice x1 o2.done.length y1, .slice x2 o2.given.length y2, .slice x3 o2.stuck.length y3] : Array Value)[0]? = some (.bool o2.good) from rfl)
  have u1 := (cell_of_row w15 p13 1 _ _ _ P13.out).trans (show (#[Value.bool o2.good, .int .i64 o2.at_, .int .u8 o2.how, .slice x1 o2.done.length y1, .slice x2 o2.given.length y2, .slice x3 o2.stuck.length y3] : Array Value)[1]? = some (.int .i64 o2.at_) from rfl)
  have u2 := (cell_of_row w15 p13 2 _ _ _ P13.out).trans (show (#[Value.bool o2.good, .int .i64 o2.at_, .int .u8 o2.how, .slice x1 o2.done.length y1, .slice x2 o2.given.length y2, .slice x3 o2.stuck.length y3] : Array Value)[2]? = some (.int .u8 o2.how) from rfl)
  have u3 := (cell_of_row w15 p13 3 _ _ _ P13.out).trans (show (#[Value.bool o2.good, .int .i64 o2.at_, .int .u8 o2.how, .slice x1 o2.done.length y1, .slice x2 o2.given.length y2, .slice x3 o2.stuck.length y3] : Array Value)[3]? = some (.slice x1 o2.done.length y1) from rfl)
  have u4 := (cell_of_row w15 p13 4 _ _ _ P13.out).trans (show (#[Value.bool o2.good, .int .i64 o2.at_, .int .u8 o2.how, .slice x1 o2.done.length y1, .slice x2 o2.given.length y2, .slice x3 o2.stuck.length y3] : Array Value)[4]? = some (.slice x2 o2.given.length y2) from rfl)
  have u5 := (cell_of_row w15 p13 5 _ _ _ P13.out).trans (show (#[Value.bool o2.good, .int .i64 o2.at_, .int .u8 o2.how, .slice x1 o2.done.length y1, .slice x2 o2.given.length y2, .slice x3 o2.stuck.length y3] : Array Value)[5]? = some (.slice x3 o2.stuck.length y3) from rfl)
  go_wp2_with fail
  refine CO.out.mono ?_
  rintro er w16 ⟨rfl, hb⟩
  have FIN := Lib.hid (BX.out.trans (hb.mono BX.out.size))
  clear hb CO P9 P13 BX v0 v1 v2 v3 v4 v5 u0 u1 u2 u3 u4 u5
  go_wp2_with fail
  go_ret
  exact ⟨rfl, FIN.out⟩
end Go.Proofs.Ytnkababhgloclaa
