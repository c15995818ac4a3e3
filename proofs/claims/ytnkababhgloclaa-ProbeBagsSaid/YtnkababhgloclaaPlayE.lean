/- ProbeBags: were just these things undone? It is so. (Printed by tools/genplaye.py.) -/
import Derived.Test.YtnkababhgloclaaPlayD
namespace Go.Proofs.Ytnkababhgloclaa
open Go.RowKit Go.ChangeShapes
def toR (z : Rs) : RT := ⟨z.id, false, z.name, z.bh.code, z.bh.pan, z.bh.word⟩
def SRs (Nr : Nat) (k : Nat) (o : Obj) : Prop := Nr ≤ k ∧ ∃ C z, o = .cells C 83 z
theorem SRs_not {Nr t : Nat} (ht : t ≠ 83) (k : Nat) (C : Array Value) (z : Nat × Nat) : ¬ SRs Nr k (.cells C t z) := fun ⟨_, C', z', e⟩ => by
  injection e with _ e2 _
  exact ht e2
theorem rl_take : ∀ (l : List Rs) (n : Nat), (rl l).take (n * 5) = rl (l.take n)
  | [], n => by simp [rl]
  | t :: l, 0 => by simp [rl]
  | t :: l, n + 1 => by
    have e : (n + 1) * 5 = (rcells t.id t.name t.bh).length + n * 5 := by simp [rcells]; omega
    rw [rl, e, List.take_length_add_append, rl_take l n, List.take_succ_cons, rl]
theorem rl_drop : ∀ (l : List Rs) (n : Nat), (rl l).drop (n * 5) = rl (l.drop n)
  | [], n => by simp [rl]
  | t :: l, 0 => by simp [rl]
  | t :: l, n + 1 => by
    have e : (n + 1) * 5 = (rcells t.id t.name t.bh).length + n * 5 := by simp [rcells]; omega
    rw [rl, e, List.drop_length_add_append, rl_drop l n, List.drop_succ_cons]
theorem rl_set (Y : List Rs) (k : Nat) (z : Rs) (hk : k < Y.length) : rl (Y.set k z) = (rl Y).take (k * 5) ++ rcells z.id z.name z.bh ++ (rl Y).drop (k * 5 + (rcells z.id z.name z.bh).length) := by
  have e : k * 5 + (rcells z.id z.name z.bh).length = (k + 1) * 5 := by simp [rcells]; omega
  rw [e, rl_take, rl_drop, List.set_eq_take_append_cons_drop, if_pos hk, rl_append]
  simp [rl]
theorem int_at {w : World} {B n : Nat} {v : Value} {l : List Int} (h : w.ownsRow B 3 1 v n (ic l)) (hl : l.length = n) {k : Nat} (hk : k < n) : ∃ g c, v = .slice (some ⟨g, 0, none⟩) n c ∧ w.cell? ⟨g, k, none⟩ = some (.int .i64 (l[k]'(by omega))) := by
  obtain ⟨g, c, e, _⟩ := h.form (by omega)
  subst e
  refine ⟨g, c, rfl, ?_⟩
  rw [h.cellAt k (by omega), ic_at (by omega)]
theorem rs_at {w : World} {B n g c : Nat} {Y : List Rs} (h : w.ownsRow B 83 5 (.slice (some ⟨g, 0, none⟩) n c) n (rl Y)) (hl : Y.length = n) {k : Nat} (hk : k < n) {z : Rs} (hz : Y[k]'(by omega) = z) (j : Nat) (u : Value) (hu : (rcells z.id z.name z.bh)[j]? = some u) : w.cell? ⟨g, k * 5 + j, none⟩ = some u := by
  have h5 : j < 5 := by
    have := (List.getElem?_eq_some_iff.1 hu).1
    simpa [rcells] using this
  rw [h.cellAt (k * 5 + j) (by omega)]
  exact rl_at Y k (by omega) j u (by rw [hz]; exact hu)
theorem thereR {w : World} {B n g c k : Nat} {Y : List Rs} (h : w.ownsRow B 83 5 (.slice (some ⟨g, 0, none⟩) n c) n (rl Y)) (hY : Y.length = n) (hk : k < n) : w.there g (k * 5) 5 := fun j hj => by
  have hl : k * 5 + j < n * 5 := by omega
  rw [h.cellAt (k * 5 + j) hl]
  exact ⟨by rw [List.getElem?_eq_getElem (by rw [rl_len, hY]; exact hl)]; rfl, h.frozenAt (k * 5 + j)⟩
theorem layR {w w0 : World} {Nr n g c k : Nat} {Y : List Rs} (h : w.ownsRow Nr 83 5 (.slice (some ⟨g, 0, none⟩) n c) n (rl Y)) (hY : Y.length = n) (hk : k < n) (hr : Rel 0 (SRs Nr) w0 w) :
    (w.setCells g (k * 5) (rcells (-5) ⟨#[]⟩ (.ret 0))).ownsRow Nr 83 5 (.slice (some ⟨g, 0, none⟩) n c) n (rl (Y.set k ⟨-5, ⟨#[]⟩, .ret 0⟩)) ∧ Rel 0 (SRs Nr) w0 (w.setCells g (k * 5) (rcells (-5) ⟨#[]⟩ (.ret 0))) := by
  obtain ⟨o1, o2⟩ := own_lay (rcells (-5) ⟨#[]⟩ (.ret 0)) (k * 5) h (by simp [rcells]; omega)
  have e := rl_set Y k ⟨-5, ⟨#[]⟩, .ret 0⟩ (by rw [hY]; exact hk)
  simp only at e
  rw [← e] at o1
  exact ⟨o1, hr.trans (Rel.row' h (Nat.zero_le _) o2 (fun k C z hk => ⟨hk, C, z, rfl⟩))⟩
theorem keepU {w w' : World} {g gw q gc gf gF k n cc cf : Nat} {id cd fk : Int} {name wd : ByteArray} {pn : Bool} (hb : Below w.heap.size w w') (h : w.cell? ⟨g, k * 5, none⟩ = some (.int .i64 id) ∧ w.cell? ⟨g, k * 5 + 1, none⟩ = some (.string name) ∧ w.cell? ⟨g, k * 5 + 2, none⟩ = some (.int .i64 cd) ∧ w.cell? ⟨g, k * 5 + 3, none⟩ = some (.bool pn) ∧ w.cell? ⟨g, k * 5 + 4, none⟩ = some (.string wd) ∧ w.cell? ⟨gw, k * 6, none⟩ = some (.int .i64 id) ∧ w.cell? ⟨gw, k * 6 + 1, none⟩ = some (.bool false) ∧ w.cell? ⟨gw, k * 6 + 2, none⟩ = some (.string name) ∧ w.cell? ⟨gw, k * 6 + 3, none⟩ = some (.int .i64 cd) ∧ w.cell? ⟨gw, k * 6 + 4, none⟩ = some (.bool pn) ∧ w.cell? ⟨gw, k * 6 + 5, none⟩ = some (.string wd) ∧ w.cell? ⟨q, 2, none⟩ = some (.slice (some ⟨gc, 0, none⟩) n cc) ∧ w.cell? ⟨q, 3, none⟩ = some (.slice (some ⟨gf, 0, none⟩) n cf) ∧ w.cell? ⟨gc, k, none⟩ = some (.int .i64 id) ∧ w.cell? ⟨gf, k, none⟩ = some (.int .i64 fk) ∧ w.cell? ⟨gF, k, none⟩ = some (.int .i64 fk)) : w'.cell? ⟨g, k * 5, none⟩ = some (.int .i64 id) ∧ w'.cell? ⟨g, k * 5 + 1, none⟩ = some (.string name) ∧ w'.cell? ⟨g, k * 5 + 2, none⟩ = some (.int .i64 cd) ∧ w'.cell? ⟨g, k * 5 + 3, none⟩ = some (.bool pn) ∧ w'.cell? ⟨g, k * 5 + 4, none⟩ = some (.string wd) ∧ w'.cell? ⟨gw, k * 6, none⟩ = some (.int .i64 id) ∧ w'.cell? ⟨gw, k * 6 + 1, none⟩ = some (.bool false) ∧ w'.cell? ⟨gw, k * 6 + 2, none⟩ = some (.string name) ∧ w'.cell? ⟨gw, k * 6 + 3, none⟩ = some (.int .i64 cd) ∧ w'.cell? ⟨gw, k * 6 + 4, none⟩ = some (.bool pn) ∧ w'.cell? ⟨gw, k * 6 + 5, none⟩ = some (.string wd) ∧ w'.cell? ⟨q, 2, none⟩ = some (.slice (some ⟨gc, 0, none⟩) n cc) ∧ w'.cell? ⟨q, 3, none⟩ = some (.slice (some ⟨gf, 0, none⟩) n cf) ∧ w'.cell? ⟨gc, k, none⟩ = some (.int .i64 id) ∧ w'.cell? ⟨gf, k, none⟩ = some (.int .i64 fk) ∧ w'.cell? ⟨gF, k, none⟩ = some (.int .i64 fk) := by
  obtain ⟨h0, h1, h2, h3, h4, h5, h6, h7, h8, h9, h10, h11, h12, h13, h14, h15⟩ := h
  exact ⟨(hb.cell (World.block_lt_of_cell? w _ h0)).trans h0, (hb.cell (World.block_lt_of_cell? w _ h1)).trans h1, (hb.cell (World.block_lt_of_cell? w _ h2)).trans h2, (hb.cell (World.block_lt_of_cell? w _ h3)).trans h3, (hb.cell (World.block_lt_of_cell? w _ h4)).trans h4, (hb.cell (World.block_lt_of_cell? w _ h5)).trans h5, (hb.cell (World.block_lt_of_cell? w _ h6)).trans h6, (hb.cell (World.block_lt_of_cell? w _ h7)).trans h7, (hb.cell (World.block_lt_of_cell? w _ h8)).trans h8, (hb.cell (World.block_lt_of_cell? w _ h9)).trans h9, (hb.cell (World.block_lt_of_cell? w _ h10)).trans h10, (hb.cell (World.block_lt_of_cell? w _ h11)).trans h11, (hb.cell (World.block_lt_of_cell? w _ h12)).trans h12, (hb.cell (World.block_lt_of_cell? w _ h13)).trans h13, (hb.cell (World.block_lt_of_cell? w _ h14)).trans h14, (hb.cell (World.block_lt_of_cell? w _ h15)).trans h15⟩

set_option maxHeartbeats 16000000 in
set_option maxRecDepth 100000 in
theorem undone_yes {w : World} {q b m N0 Nr Nw Nf n : Nat} {calls F : List Int} {Z : List Rs} {vl vw vf : Value} (hP : PlayI w q b m N0 calls F) (hl : w.ownsRow Nr 83 5 vl n (rl Z)) (hw : w.ownsRow Nw 92 6 vw n (rc6 (Z.map toR))) (hf : w.ownsRow Nf 3 1 vf n (ic F)) (hZ : Z.length = n) (hc : calls = Z.map (·.id)) (hF : F.length = n) (hn : n ≤ 256) :
    Calls Try.prog 16 #[.pointer (some ⟨q, 0, none⟩), vl, vw, vf] w fun e w' => e = .returned (.bool true) ∧ Rel 0 (SRs Nr) w w' := by
  have PP := Lib.hid hP
  obtain ⟨al, cl, rfl⟩ := own_slice hl
  obtain ⟨aw, cw, rfl⟩ := own_slice hw
  obtain ⟨af, cF, rfl⟩ := own_slice hf
  have HL := Lib.hid hl
  have HW := Lib.hid hw
  have HF := Lib.hid hf
  have HZ := Lib.hid hZ
  have HC := Lib.hid hc
  have HFL := Lib.hid hF
  have HN := Lib.hid hn
  have HCL : Hid (calls.length = n) := Lib.hid (by rw [hc, List.length_map]; exact hZ)
  obtain ⟨ac, cc, af', cf, e0, e1, e2, e3, e4, _, _⟩ := hP.cells
  rw [HCL.out] at e2
  rw [hF] at e3
  have hnn : ((n : Int) != (n : Int)) = false := by simp
  clear hP hl hw hf hZ hc hF hn e0 e1
  go_enter Try.func16, Try.ntmps16
  go_wp2_with fail
  clear e2 e3 e4
  go_loopg [9] n (fun r v9 wr => ∃ k : Nat, k ≤ n ∧ r = n - k ∧ v9 = .int .i64 k ∧ Hid (∃ Y : List Rs, Y.length = n ∧ (∀ j (h1 : j < Y.length) (h2 : j < Z.length), k ≤ j → Y[j] = Z[j]) ∧ wr.ownsRow Nr 83 5 (.slice al n cl) n (rl Y) ∧ Rel 0 (SRs Nr) w wr))
  case atStart => exact ⟨0, Nat.zero_le _, rfl, rfl, Lib.hid ⟨Z, HZ.out, fun _ _ _ _ => rfl, HL.out, Rel.refl _ _ _⟩⟩
  case round =>
    obtain ⟨k, hk, hr, rfl, hq⟩ := hrel
    obtain ⟨Y, hYL, hYZ, hY, hR⟩ := hq.out
    have HR := Lib.hid hr
    have HYL := Lib.hid hYL
    have HYZ := Lib.hid hYZ
    have YR := Lib.hid hY
    have RR := Lib.hid hR
    clear hr hq hYL hYZ hY hR
    by_cases hlt : k < n
    · obtain ⟨g, cl', hform, _⟩ := YR.out.form (by omega)
      injection hform with q1 q2 q3
      subst q1 q3
      clear q2
      have bd := (Below.refl wr.heap.size wr).drew
      have YD := Lib.hid (own_below YR.out bd)
      have RD : Hid (Rel 0 (SRs Nr) w wr.drew) := Lib.hid (RR.out.trans (Rel.below bd))
      have WD := own_rel HW.out RD.out (fun _ _ _ _ => SRs_not (by decide) _ _ _)
      have FD := own_rel HF.out RD.out (fun _ _ _ _ => SRs_not (by decide) _ _ _)
      have PD := PP.out.rel RD.out (fun _ _ => SRs_not (by decide) _ _ _) (fun _ _ _ _ => SRs_not (by decide) _ _ _)
      obtain ⟨ac, cc, af', cf, _, _, d2, d3, _, oc, of⟩ := PD.cells
      rw [HCL.out] at d2 oc
      rw [HFL.out] at d3 of
      obtain ⟨gc, c1, f1, dc⟩ := int_at oc HCL.out hlt
      injection f1 with f1 fn1 fc1
      subst f1 fc1
      clear fn1
      obtain ⟨gf, c2, f2, df⟩ := int_at of HFL.out hlt
      injection f2 with f2 fn2 fc2
      subst f2 fc2
      clear fn2
      obtain ⟨gF, c3, f3, dF⟩ := int_at FD HFL.out hlt
      injection f3 with f3 fn3 fc3
      subst f3 fc3
      clear fn3
      obtain ⟨gw, c4, f4, _⟩ := WD.form (by omega)
      injection f4 with f4 fn4 fc4
      subst f4 fc4
      clear fn4
      have hkZ : k < Z.length := by rw [HZ.out]; exact hlt
      obtain ⟨⟨id, name, bh⟩, hz⟩ : ∃ z, Z[k] = z := ⟨_, rfl⟩
      have hYk := (HYZ.out k (by rw [HYL.out]; exact hlt) hkZ (Nat.le_refl _)).trans hz
      have gl := rs_at YD.out HYL.out hlt hYk
      have hid : calls[k]'(by rw [HCL.out]; exact hlt) = id := by
        have := HC.out
        simp only [this, List.getElem_map, hz]
      rw [hid] at dc
      obtain ⟨fk, hfk⟩ : ∃ x, F[k]'(by rw [HFL.out]; exact hlt) = x := ⟨_, rfl⟩
      rw [hfk] at df dF
      have hWk : (Z.map toR)[k]'(by rw [List.length_map]; exact hkZ) = toR ⟨id, name, bh⟩ := by rw [List.getElem_map, hz]
      have gW : ∀ j u, (toR ⟨id, name, bh⟩).cells[j]? = some u → wr.drew.cell? ⟨gw, k * 6 + j, none⟩ = some u := fun j u hu => by
        have h6 := rtcell_lt hu
        rw [WD.cellAt (k * 6 + j) (by omega)]
        exact rc6_at _ k (by rw [List.length_map]; exact hkZ) j u (by rw [hWk]; exact hu)
      obtain ⟨h1, h2, wk⟩ := idxD hlt HN.out
      obtain ⟨cd, hcd⟩ : ∃ x, bh.code = x := ⟨_, rfl⟩
      obtain ⟨pn, hpn⟩ : ∃ x, bh.pan = x := ⟨_, rfl⟩
      obtain ⟨wd, hwd⟩ : ∃ x, bh.word = x := ⟨_, rfl⟩
      have hS0 : Hid (wr.drew.cell? ⟨g, k * 5, none⟩ = some (.int .i64 id) ∧ wr.drew.cell? ⟨g, k * 5 + 1, none⟩ = some (.string name) ∧ wr.drew.cell? ⟨g, k * 5 + 2, none⟩ = some (.int .i64 cd) ∧ wr.drew.cell? ⟨g, k * 5 + 3, none⟩ = some (.bool pn) ∧ wr.drew.cell? ⟨g, k * 5 + 4, none⟩ = some (.string wd) ∧ wr.drew.cell? ⟨gw, k * 6, none⟩ = some (.int .i64 id) ∧ wr.drew.cell? ⟨gw, k * 6 + 1, none⟩ = some (.bool false) ∧ wr.drew.cell? ⟨gw, k * 6 + 2, none⟩ = some (.string name) ∧ wr.drew.cell? ⟨gw, k * 6 + 3, none⟩ = some (.int .i64 cd) ∧ wr.drew.cell? ⟨gw, k * 6 + 4, none⟩ = some (.bool pn) ∧ wr.drew.cell? ⟨gw, k * 6 + 5, none⟩ = some (.string wd) ∧ wr.drew.cell? ⟨q, 2, none⟩ = some (.slice (some ⟨gc, 0, none⟩) n cc) ∧ wr.drew.cell? ⟨q, 3, none⟩ = some (.slice (some ⟨gf, 0, none⟩) n cf) ∧ wr.drew.cell? ⟨gc, k, none⟩ = some (.int .i64 id) ∧ wr.drew.cell? ⟨gf, k, none⟩ = some (.int .i64 fk) ∧ wr.drew.cell? ⟨gF, k, none⟩ = some (.int .i64 fk)) := Lib.hid ⟨gl 0 _ rfl, gl 1 _ rfl, by rw [← hcd]; exact gl 2 _ rfl, by rw [← hpn]; exact gl 3 _ rfl, by rw [← hwd]; exact gl 4 _ rfl, gW 0 _ rfl, gW 1 _ rfl, gW 2 _ rfl, by rw [← hcd]; exact gW 3 _ rfl, by rw [← hpn]; exact gW 4 _ rfl, by rw [← hwd]; exact gW 5 _ rfl, d2, d3, dc, df, dF⟩
      have HLT := Lib.hid hlt
      have hfk2 : (fk != fk) = false := by simp
      have hid2 : (id != id) = false := by simp
      clear d2 d3 oc of dc df dF WD FD PD gl gW hz hYk hid hfk hWk hkZ hk hcd hpn hwd bd
      go_upto_region 6 with fail
      refine wp_region_held_drew (S := fun W' => W'.cell? ⟨g, k * 5, none⟩ = some (.int .i64 id) ∧ W'.cell? ⟨g, k * 5 + 1, none⟩ = some (.string name) ∧ W'.cell? ⟨g, k * 5 + 2, none⟩ = some (.int .i64 cd) ∧ W'.cell? ⟨g, k * 5 + 3, none⟩ = some (.bool pn) ∧ W'.cell? ⟨g, k * 5 + 4, none⟩ = some (.string wd) ∧ W'.cell? ⟨gw, k * 6, none⟩ = some (.int .i64 id) ∧ W'.cell? ⟨gw, k * 6 + 1, none⟩ = some (.bool false) ∧ W'.cell? ⟨gw, k * 6 + 2, none⟩ = some (.string name) ∧ W'.cell? ⟨gw, k * 6 + 3, none⟩ = some (.int .i64 cd) ∧ W'.cell? ⟨gw, k * 6 + 4, none⟩ = some (.bool pn) ∧ W'.cell? ⟨gw, k * 6 + 5, none⟩ = some (.string wd) ∧ W'.cell? ⟨q, 2, none⟩ = some (.slice (some ⟨gc, 0, none⟩) n cc) ∧ W'.cell? ⟨q, 3, none⟩ = some (.slice (some ⟨gf, 0, none⟩) n cf) ∧ W'.cell? ⟨gc, k, none⟩ = some (.int .i64 id) ∧ W'.cell? ⟨gf, k, none⟩ = some (.int .i64 fk) ∧ W'.cell? ⟨gF, k, none⟩ = some (.int .i64 fk)) (by kernel_rfl) hS0.out (fun hS => ?_)
      clear hS0
      generalize wr.drew = wd0 at *
      refine wpAnyH_take (i := 0) (v := ?_) rfl (by kernel_rfl) (by kernel_rfl) (by kernel_rfl) (fun _ _ _ h => h) (Or.inl ⟨by kernel_rfl, ?_⟩) hS ?_
      rotate_left
      · intro w _
        go_simp
        try with_reducible rfl
      simp only [Act.put, List.getElem_toArray, List.getElem_cons_zero, List.getElem_cons_succ, List.setIfInBounds_toArray, List.set_cons_zero, List.set_cons_succ]
      refine wpAnyH_take (i := 1) (v := ?_) rfl (by kernel_rfl) (by kernel_rfl) (by kernel_rfl) (fun _ _ _ h => h) (Or.inl ⟨by kernel_rfl, ?_⟩) hS ?_
      rotate_left
      · intro w _
        go_simp
        try with_reducible rfl
      simp only [Act.put, List.getElem_toArray, List.getElem_cons_zero, List.getElem_cons_succ, List.setIfInBounds_toArray, List.set_cons_zero, List.set_cons_succ]
      refine wpAnyH_take (i := 2) (v := ?_) rfl (by kernel_rfl) (by kernel_rfl) (by kernel_rfl) (fun _ _ _ h => h) (Or.inl ⟨by kernel_rfl, ?_⟩) hS ?_
      rotate_left
      · intro w _
        go_simp
        try with_reducible rfl
      simp only [Act.put, List.getElem_toArray, List.getElem_cons_zero, List.getElem_cons_succ, List.setIfInBounds_toArray, List.set_cons_zero, List.set_cons_succ]
      refine wpAnyH_take (i := 3) (v := ?_) rfl (by kernel_rfl) (by kernel_rfl) (by kernel_rfl) (fun _ _ _ h => h) (Or.inl ⟨by kernel_rfl, ?_⟩) hS ?_
      rotate_left
      · intro w hSw
        try dsimp only at hSw
        go_split_ands
        go_simp
        try with_reducible rfl
      simp only [Act.put, List.getElem_toArray, List.getElem_cons_zero, List.getElem_cons_succ, List.setIfInBounds_toArray, List.set_cons_zero, List.set_cons_succ]
      refine wpAnyH_take (i := 4) (v := ?_) rfl (by kernel_rfl) (by kernel_rfl) (by kernel_rfl) (fun _ _ _ h => h) (Or.inl ⟨by kernel_rfl, ?_⟩) hS ?_
      rotate_left
      · intro w _
        go_simp
        try with_reducible rfl
      simp only [Act.put, List.getElem_toArray, List.getElem_cons_zero, List.getElem_cons_succ, List.setIfInBounds_toArray, List.set_cons_zero, List.set_cons_succ]
      refine wpAnyH_take (i := 5) (v := ?_) rfl (by kernel_rfl) (by kernel_rfl) (by kernel_rfl) (fun _ _ _ h => h) (Or.inl ⟨by kernel_rfl, ?_⟩) hS ?_
      rotate_left
      · intro w _
        go_simp
        try with_reducible rfl
      simp only [Act.put, List.getElem_toArray, List.getElem_cons_zero, List.getElem_cons_succ, List.setIfInBounds_toArray, List.set_cons_zero, List.set_cons_succ]
      refine wpAnyH_take (i := 6) (v := ?_) rfl (by kernel_rfl) (by kernel_rfl) (by kernel_rfl) (fun _ _ _ h => h) (Or.inl ⟨by kernel_rfl, ?_⟩) hS ?_
      rotate_left
      · intro w _
        go_simp
        try with_reducible rfl
      simp only [Act.put, List.getElem_toArray, List.getElem_cons_zero, List.getElem_cons_succ, List.setIfInBounds_toArray, List.set_cons_zero, List.set_cons_succ]
      refine wpAnyH_take (i := 7) (v := ?_) rfl (by kernel_rfl) (by kernel_rfl) (by kernel_rfl) (fun _ _ _ h => h) (Or.inl ⟨by kernel_rfl, ?_⟩) hS ?_
      rotate_left
      · intro w hSw
        try dsimp only at hSw
        go_split_ands
        go_simp
        try with_reducible rfl
      simp only [Act.put, List.getElem_toArray, List.getElem_cons_zero, List.getElem_cons_succ, List.setIfInBounds_toArray, List.set_cons_zero, List.set_cons_succ]
      refine wpAnyH_ready (rs := [8]) (by kernel_rfl) (by simp) (AllReadyH.cons rfl (fun K hK => ?_) AllReadyH.nil)
      go_simp
      go_at_call 39
      refine (same_yes wd0 id name cd pn false wd).mono ?_
      rintro e w3 ⟨rfl, hb3⟩
      have B3 := Lib.hid hb3
      have SK := Lib.hid (keepU hb3 hS)
      clear hb3
      refine hK.out _ _ (SK.out) (fun hS2 => ?_)
      clear hK K hS
      have hS := hS2
      clear hS2
      try simp only [Act.put, List.getElem_toArray, List.getElem_cons_zero, List.getElem_cons_succ, List.setIfInBounds_toArray, List.set_cons_zero, List.set_cons_succ]
      refine wpAnyH_take (i := 9) (v := ?_) rfl (by kernel_rfl) (by kernel_rfl) (by kernel_rfl) (fun _ _ _ h => h) (Or.inl ⟨by kernel_rfl, ?_⟩) hS ?_
      rotate_left
      · intro w _
        go_simp
        try with_reducible rfl
      simp only [Act.put, List.getElem_toArray, List.getElem_cons_zero, List.getElem_cons_succ, List.setIfInBounds_toArray, List.set_cons_zero, List.set_cons_succ]
      refine wpAnyH_take (i := 10) (v := ?_) rfl (by kernel_rfl) (by kernel_rfl) (by kernel_rfl) (fun _ _ _ h => h) (Or.inl ⟨by kernel_rfl, ?_⟩) hS ?_
      rotate_left
      · intro w _
        go_simp
        try with_reducible rfl
      simp only [Act.put, List.getElem_toArray, List.getElem_cons_zero, List.getElem_cons_succ, List.setIfInBounds_toArray, List.set_cons_zero, List.set_cons_succ]
      refine wpAnyH_take (i := 11) (v := ?_) rfl (by kernel_rfl) (by kernel_rfl) (by kernel_rfl) (fun _ _ _ h => h) (Or.inl ⟨by kernel_rfl, ?_⟩) hS ?_
      rotate_left
      · intro w _
        go_simp
        try with_reducible rfl
      simp only [Act.put, List.getElem_toArray, List.getElem_cons_zero, List.getElem_cons_succ, List.setIfInBounds_toArray, List.set_cons_zero, List.set_cons_succ]
      refine wpAnyH_take (i := 12) (v := ?_) rfl (by kernel_rfl) (by kernel_rfl) (by kernel_rfl) (fun _ _ _ h => h) (Or.inl ⟨by kernel_rfl, ?_⟩) hS ?_
      rotate_left
      · intro w _
        go_simp
        try with_reducible rfl
      simp only [Act.put, List.getElem_toArray, List.getElem_cons_zero, List.getElem_cons_succ, List.setIfInBounds_toArray, List.set_cons_zero, List.set_cons_succ]
      refine wpAnyH_take (i := 13) (v := ?_) rfl (by kernel_rfl) (by kernel_rfl) (by kernel_rfl) (fun _ _ _ h => h) (Or.inl ⟨by kernel_rfl, ?_⟩) hS ?_
      rotate_left
      · intro w _
        go_simp
        try with_reducible rfl
      simp only [Act.put, List.getElem_toArray, List.getElem_cons_zero, List.getElem_cons_succ, List.setIfInBounds_toArray, List.set_cons_zero, List.set_cons_succ]
      refine wpAnyH_take (i := 14) (v := ?_) rfl (by kernel_rfl) (by kernel_rfl) (by kernel_rfl) (fun _ _ _ h => h) (Or.inl ⟨by kernel_rfl, ?_⟩) hS ?_
      rotate_left
      · intro w hSw
        try dsimp only at hSw
        go_split_ands
        go_simp
        try with_reducible rfl
      simp only [Act.put, List.getElem_toArray, List.getElem_cons_zero, List.getElem_cons_succ, List.setIfInBounds_toArray, List.set_cons_zero, List.set_cons_succ]
      refine wpAnyH_take (i := 15) (v := ?_) rfl (by kernel_rfl) (by kernel_rfl) (by kernel_rfl) (fun _ _ _ h => h) (Or.inl ⟨by kernel_rfl, ?_⟩) hS ?_
      rotate_left
      · intro w _
        go_simp
        try with_reducible rfl
      simp only [Act.put, List.getElem_toArray, List.getElem_cons_zero, List.getElem_cons_succ, List.setIfInBounds_toArray, List.set_cons_zero, List.set_cons_succ]
      refine wpAnyH_take (i := 16) (v := ?_) rfl (by kernel_rfl) (by kernel_rfl) (by kernel_rfl) (fun _ _ _ h => h) (Or.inl ⟨by kernel_rfl, ?_⟩) hS ?_
      rotate_left
      · intro w _
        go_simp
        try with_reducible rfl
      simp only [Act.put, List.getElem_toArray, List.getElem_cons_zero, List.getElem_cons_succ, List.setIfInBounds_toArray, List.set_cons_zero, List.set_cons_succ]
      refine wpAnyH_take (i := 17) (v := ?_) rfl (by kernel_rfl) (by kernel_rfl) (by kernel_rfl) (fun _ _ _ h => h) (Or.inl ⟨by kernel_rfl, ?_⟩) hS ?_
      rotate_left
      · intro w hSw
        try dsimp only at hSw
        go_split_ands
        go_simp
        try with_reducible rfl
      simp only [Act.put, List.getElem_toArray, List.getElem_cons_zero, List.getElem_cons_succ, List.setIfInBounds_toArray, List.set_cons_zero, List.set_cons_succ]
      refine wpAnyH_take (i := 18) (v := ?_) rfl (by kernel_rfl) (by kernel_rfl) (by kernel_rfl) (fun _ _ _ h => h) (Or.inl ⟨by kernel_rfl, ?_⟩) hS ?_
      rotate_left
      · intro w _
        go_simp
        try with_reducible rfl
      simp only [Act.put, List.getElem_toArray, List.getElem_cons_zero, List.getElem_cons_succ, List.setIfInBounds_toArray, List.set_cons_zero, List.set_cons_succ]
      refine wpAnyH_take (i := 19) (v := ?_) rfl (by kernel_rfl) (by kernel_rfl) (by kernel_rfl) (fun _ _ _ h => h) (Or.inl ⟨by kernel_rfl, ?_⟩) hS ?_
      rotate_left
      · intro w _
        go_simp
        try with_reducible rfl
      simp only [Act.put, List.getElem_toArray, List.getElem_cons_zero, List.getElem_cons_succ, List.setIfInBounds_toArray, List.set_cons_zero, List.set_cons_succ]
      refine wpAnyH_take (i := 20) (v := ?_) rfl (by kernel_rfl) (by kernel_rfl) (by kernel_rfl) (fun _ _ _ h => h) (Or.inl ⟨by kernel_rfl, ?_⟩) hS ?_
      rotate_left
      · intro w _
        go_simp
        try with_reducible rfl
      simp only [Act.put, List.getElem_toArray, List.getElem_cons_zero, List.getElem_cons_succ, List.setIfInBounds_toArray, List.set_cons_zero, List.set_cons_succ]
      refine wpAnyH_take (i := 21) (v := ?_) rfl (by kernel_rfl) (by kernel_rfl) (by kernel_rfl) (fun _ _ _ h => h) (Or.inl ⟨by kernel_rfl, ?_⟩) hS ?_
      rotate_left
      · intro w _
        go_simp
        try with_reducible rfl
      simp only [Act.put, List.getElem_toArray, List.getElem_cons_zero, List.getElem_cons_succ, List.setIfInBounds_toArray, List.set_cons_zero, List.set_cons_succ]
      refine wpAnyH_take (i := 22) (v := ?_) rfl (by kernel_rfl) (by kernel_rfl) (by kernel_rfl) (fun _ _ _ h => h) (Or.inl ⟨by kernel_rfl, ?_⟩) hS ?_
      rotate_left
      · intro w hSw
        try dsimp only at hSw
        go_split_ands
        go_simp
        try with_reducible rfl
      simp only [Act.put, List.getElem_toArray, List.getElem_cons_zero, List.getElem_cons_succ, List.setIfInBounds_toArray, List.set_cons_zero, List.set_cons_succ]
      refine wpAnyH_take (i := 23) (v := ?_) rfl (by kernel_rfl) (by kernel_rfl) (by kernel_rfl) (fun _ _ _ h => h) (Or.inl ⟨by kernel_rfl, ?_⟩) hS ?_
      rotate_left
      · intro w _
        go_simp
        try with_reducible rfl
      simp only [Act.put, List.getElem_toArray, List.getElem_cons_zero, List.getElem_cons_succ, List.setIfInBounds_toArray, List.set_cons_zero, List.set_cons_succ]
      refine wpAnyH_take (i := 24) (v := ?_) rfl (by kernel_rfl) (by kernel_rfl) (by kernel_rfl) (fun _ _ _ h => h) (Or.inl ⟨by kernel_rfl, ?_⟩) hS ?_
      rotate_left
      · intro w _
        go_simp
        try with_reducible rfl
      simp only [Act.put, List.getElem_toArray, List.getElem_cons_zero, List.getElem_cons_succ, List.setIfInBounds_toArray, List.set_cons_zero, List.set_cons_succ]
      refine wpAnyH_take (i := 25) (v := ?_) rfl (by kernel_rfl) (by kernel_rfl) (by kernel_rfl) (fun _ _ _ h => h) (Or.inl ⟨by kernel_rfl, ?_⟩) hS ?_
      rotate_left
      · intro w _
        go_simp
        try with_reducible rfl
      simp only [Act.put, List.getElem_toArray, List.getElem_cons_zero, List.getElem_cons_succ, List.setIfInBounds_toArray, List.set_cons_zero, List.set_cons_succ]
      refine wpAnyH_take (i := 26) (v := ?_) rfl (by kernel_rfl) (by kernel_rfl) (by kernel_rfl) (fun _ _ _ h => h) (Or.inl ⟨by kernel_rfl, ?_⟩) hS ?_
      rotate_left
      · intro w _
        go_simp
        try with_reducible rfl
      simp only [Act.put, List.getElem_toArray, List.getElem_cons_zero, List.getElem_cons_succ, List.setIfInBounds_toArray, List.set_cons_zero, List.set_cons_succ]
      refine wpAnyH_take (i := 27) (v := ?_) rfl (by kernel_rfl) (by kernel_rfl) (by kernel_rfl) (fun _ _ _ h => h) (Or.inl ⟨by kernel_rfl, ?_⟩) hS ?_
      rotate_left
      · intro w _
        go_simp
        try with_reducible rfl
      simp only [Act.put, List.getElem_toArray, List.getElem_cons_zero, List.getElem_cons_succ, List.setIfInBounds_toArray, List.set_cons_zero, List.set_cons_succ]
      refine wpAnyH_take (i := 28) (v := ?_) rfl (by kernel_rfl) (by kernel_rfl) (by kernel_rfl) (fun _ _ _ h => h) (Or.inl ⟨by kernel_rfl, ?_⟩) hS ?_
      rotate_left
      · intro w _
        go_simp
        try with_reducible rfl
      simp only [Act.put, List.getElem_toArray, List.getElem_cons_zero, List.getElem_cons_succ, List.setIfInBounds_toArray, List.set_cons_zero, List.set_cons_succ]
      refine wpAnyH_take (i := 29) (v := ?_) rfl (by kernel_rfl) (by kernel_rfl) (by kernel_rfl) (fun _ _ _ h => h) (Or.inl ⟨by kernel_rfl, ?_⟩) hS ?_
      rotate_left
      · intro w hSw
        try dsimp only at hSw
        go_split_ands
        go_simp
        try with_reducible rfl
      simp only [Act.put, List.getElem_toArray, List.getElem_cons_zero, List.getElem_cons_succ, List.setIfInBounds_toArray, List.set_cons_zero, List.set_cons_succ]
      refine wpAnyH_take (i := 30) (v := ?_) rfl (by kernel_rfl) (by kernel_rfl) (by kernel_rfl) (fun _ _ _ h => h) (Or.inl ⟨by kernel_rfl, ?_⟩) hS ?_
      rotate_left
      · intro w _
        go_simp
        try with_reducible rfl
      simp only [Act.put, List.getElem_toArray, List.getElem_cons_zero, List.getElem_cons_succ, List.setIfInBounds_toArray, List.set_cons_zero, List.set_cons_succ]
      refine wpAnyH_take (i := 31) (v := ?_) rfl (by kernel_rfl) (by kernel_rfl) (by kernel_rfl) (fun _ _ _ h => h) (Or.inl ⟨by kernel_rfl, ?_⟩) hS ?_
      rotate_left
      · intro w _
        go_simp
        try with_reducible rfl
      simp only [Act.put, List.getElem_toArray, List.getElem_cons_zero, List.getElem_cons_succ, List.setIfInBounds_toArray, List.set_cons_zero, List.set_cons_succ]
      refine wpAnyH_take (i := 32) (v := ?_) rfl (by kernel_rfl) (by kernel_rfl) (by kernel_rfl) (fun _ _ _ h => h) (Or.inl ⟨by kernel_rfl, ?_⟩) hS ?_
      rotate_left
      · intro w hSw
        try dsimp only at hSw
        go_split_ands
        go_simp
        try with_reducible rfl
      simp only [Act.put, List.getElem_toArray, List.getElem_cons_zero, List.getElem_cons_succ, List.setIfInBounds_toArray, List.set_cons_zero, List.set_cons_succ]
      refine wpAnyH_take (i := 33) (v := ?_) rfl (by kernel_rfl) (by kernel_rfl) (by kernel_rfl) (fun _ _ _ h => h) (Or.inl ⟨by kernel_rfl, ?_⟩) hS ?_
      rotate_left
      · intro w _
        go_simp
        try with_reducible rfl
      simp only [Act.put, List.getElem_toArray, List.getElem_cons_zero, List.getElem_cons_succ, List.setIfInBounds_toArray, List.set_cons_zero, List.set_cons_succ]
      refine wpAnyH_take (i := 34) (v := ?_) rfl (by kernel_rfl) (by kernel_rfl) (by kernel_rfl) (fun _ _ _ h => h) (Or.inl ⟨by kernel_rfl, ?_⟩) hS ?_
      rotate_left
      · intro w _
        go_simp
        try with_reducible rfl
      simp only [Act.put, List.getElem_toArray, List.getElem_cons_zero, List.getElem_cons_succ, List.setIfInBounds_toArray, List.set_cons_zero, List.set_cons_succ]
      refine wpAnyH_take (i := 35) (v := ?_) rfl (by kernel_rfl) (by kernel_rfl) (by kernel_rfl) (fun _ _ _ h => h) (Or.inl ⟨by kernel_rfl, ?_⟩) hS ?_
      rotate_left
      · intro w _
        go_simp
        try with_reducible rfl
      simp only [Act.put, List.getElem_toArray, List.getElem_cons_zero, List.getElem_cons_succ, List.setIfInBounds_toArray, List.set_cons_zero, List.set_cons_succ]
      refine wpAnyH_take (i := 36) (v := ?_) rfl (by kernel_rfl) (by kernel_rfl) (by kernel_rfl) (fun _ _ _ h => h) (Or.inl ⟨by kernel_rfl, ?_⟩) hS ?_
      rotate_left
      · intro w hSw
        try dsimp only at hSw
        go_split_ands
        go_simp
        try with_reducible rfl
      simp only [Act.put, List.getElem_toArray, List.getElem_cons_zero, List.getElem_cons_succ, List.setIfInBounds_toArray, List.set_cons_zero, List.set_cons_succ]
      refine wpAnyH_take (i := 37) (v := ?_) rfl (by kernel_rfl) (by kernel_rfl) (by kernel_rfl) (fun _ _ _ h => h) (Or.inl ⟨by kernel_rfl, ?_⟩) hS ?_
      rotate_left
      · intro w _
        go_simp
        try with_reducible rfl
      simp only [Act.put, List.getElem_toArray, List.getElem_cons_zero, List.getElem_cons_succ, List.setIfInBounds_toArray, List.set_cons_zero, List.set_cons_succ]
      refine wpAnyH_take (i := 38) (v := ?_) rfl (by kernel_rfl) (by kernel_rfl) (by kernel_rfl) (fun _ _ _ h => h) (Or.inl ⟨by kernel_rfl, ?_⟩) hS ?_
      rotate_left
      · intro w _
        go_simp
        try with_reducible rfl
      simp only [Act.put, List.getElem_toArray, List.getElem_cons_zero, List.getElem_cons_succ, List.setIfInBounds_toArray, List.set_cons_zero, List.set_cons_succ]
      refine wpAnyH_done (by kernel_rfl) ?_ _
      obtain ⟨h0, h1, h2, h3, h4, _⟩ := SK.out
      clear hS
      have Y3 := Lib.hid (own_below YD.out B3.out)
      have R3 : Hid (Rel 0 (SRs Nr) w w3) := Lib.hid (RD.out.trans (Rel.below B3.out))
      have TH := Lib.hid (thereR Y3.out HYL.out HLT.out)
      go_wp2_with (refine wpList_store_all (by rfl) 83 (.tmp 89) (.tmp 88) (by rfl) g (k * 5) [.int .i64 (-5), .string ⟨#[]⟩, .int .i64 0, .bool false, .string ⟨#[]⟩] (by rfl) (by rfl) TH.out (by kernel_rfl) (rcells_one (-5) ⟨#[]⟩ (.ret 0)) ?_)
      intro w4 HW4
      have FIN : Hid (w4.ownsRow Nr 83 5 (.slice (some ⟨g, 0, none⟩) n cl) n (rl (Y.set k ⟨-5, ⟨#[]⟩, .ret 0⟩)) ∧ Rel 0 (SRs Nr) w w4) := Lib.hid (by
        rw [HW4.out]
        exact layR Y3.out HYL.out HLT.out R3.out)
      clear HW4 TH h0 h1 h2 h3 h4 SK
      go_wp2_with fail
      go_roundg (n - (k + 1))
      case measure => exact measD HR.out HLT.out
      case rel =>
        refine ⟨k + 1, HLT.out, rfl, by first | rfl | (rw [wk]; rfl), Lib.hid ⟨Y.set k ⟨-5, ⟨#[]⟩, .ret 0⟩, by rw [List.length_set]; exact HYL.out, fun j h1 h2 hj => ?_, FIN.out.1, FIN.out.2⟩⟩
        rw [List.getElem_set_ne (by omega)]
        exact HYZ.out j _ h2 (by omega)
    · obtain rfl : n = k := by omega
      clear hk HR
      go_wp2_with fail
      go_ret
      exact ⟨rfl, RR.out⟩
end Go.Proofs.Ytnkababhgloclaa
