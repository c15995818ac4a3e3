/- A registry's notes: Mark. -/
import Derived.Test.YtpafbnmncioppaaPFullC
import Derived.Deep.MidRow
import Derived.Deep.DeepCutAuto
namespace Go.Proofs.Ytpafbnmncioppaa
open Go.RowKit Go.ChangeShapes Nm
theorem putAll_cells (g : Nat) : ∀ (vs : List Value) (w : World) (p : Nat), w.setCells g p vs = putAll w g p vs
  | [], _, _ => rfl
  | v :: vs, w, p => by rw [World.setCells, putAll, putAll_cells g vs]
/-- A struct is stored whole into cells that are there. -/
theorem wp_store_all {P : Program} {op : Oper} {a : Act} {w : World} {K : Act → World → Prop} {Q : Exit → Act → World → Prop} (ty : TypeId) (x y : Operand) (ho : op.op = .store ty x y)
    (b o : Nat) (cs : List Value) (hx : a.eval x = .pointer (some ⟨b, o, none⟩)) (hy : a.eval y = .agg cs.toArray) (ht : w.there b o cs.length) (hi : (P.info? ty).map (·.size) = some cs.length) (h1 : ∀ v ∈ cs, v.oneCell' = true)
    (h : ∀ W4, Hid (W4 = putAll w b o cs) → K (a.put op.dst undef) W4) : op.wp P a w K Q :=
  wp_store_mid ty x y ho b o cs.toArray hx hy (by simpa using ht) (by simpa using hi) (all_oneCell_toArray h1) (h _ (Lib.hid (by rw [← putAll_cells])))
structure Nt where
  pack : ByteArray
  init : Int
  sum : Int
  stood : Int
def Nt.cells (n : Nt) : List Value := [.string n.pack, .int .i64 n.init, .int .i64 n.sum, .int .i64 n.stood]
theorem ncells_one (n : Nt) : ∀ v ∈ n.cells, v.oneCell' = true := by
  intro v hv
  simp only [Nt.cells, List.mem_cons, List.not_mem_nil, or_false] at hv
  rcases hv with rfl | rfl | rfl | rfl <;> rfl
theorem ncells_lt {n : Nt} {j : Nat} {u : Value} (h : n.cells[j]? = some u) : j < 4 := by
  have := (List.getElem?_eq_some_iff.1 h).1
  simpa [Nt.cells] using this
def keepN (ns : List Nt) (C : Array Value) : Prop := ns.length ≤ 256 ∧ C[1922]? = some (.int .i64 ns.length) ∧ ∀ i (h : i < ns.length) (j : Nat) (u : Value), ns[i].cells[j]? = some u → C[896 + i * 4 + j]? = some u
theorem keepN_inv (ns : List Nt) : ∀ C C' : Array Value, (∀ j, (896 ≤ j ∧ j < 1920) ∨ j = 1922 → C'[j]? = C[j]?) → keepN ns C → keepN ns C' := by
  rintro C C' h ⟨h1, h2, h3⟩
  refine ⟨h1, (h 1922 (.inr rfl)).trans h2, fun i hi j u hj => ?_⟩
  have hj4 := ncells_lt hj
  exact (h _ (.inl (by omega))).trans (h3 i hi j u hj)
abbrev NE (ns : List Nt) (okT : Nat → Prop) : RE := ⟨keepN ns, keepN_inv ns, okT⟩
/-- A registry with its notes. -/
def RegN (okT : Nat → Prop) (w : World) (B b : Nat) (cs rs : List Cd) (ns : List Nt) (fz : Bool) : Prop := @Reg (NE ns okT) w B b cs rs fz
theorem RegN.note {okT : Nat → Prop} {w : World} {B b : Nat} {cs rs : List Cd} {ns : List Nt} {fz : Bool} (h : RegN okT w B b cs rs ns fz) (nt : Nt) (hl : ns.length < 256) :
    RegN okT ((putAll w b (896 + ns.length * 4) nt.cells).setCell ⟨b, 1922, none⟩ (.int .i64 (ns.length + 1))) B b cs rs (ns ++ [nt]) fz := by
  letI : RE := NE ns okT
  obtain ⟨C, m, h1, h2, h3, h4, h5, h6, h7, h8, h9, h10⟩ := h
  obtain ⟨k1, k2, k3⟩ : keepN ns C := h7
  have hc : nt.cells.length = 4 := rfl
  have g1 := putAll_heap nt.cells w C (896 + ns.length * 4) h1
  have row : ∀ (v : Value) (n : Nat) (xs : List Value), w.ownsRow B 9 1 v n xs → ((putAll w b (896 + ns.length * 4) nt.cells).setCell ⟨b, 1922, none⟩ (.int .i64 (ns.length + 1))).ownsRow B 9 1 v n xs := fun v n xs hv => row_stays g1 1922 _ _ _ _ (putAll_row _ w C _ h1 _ _ _ hv)
  refine ⟨_, m, heap_setCell_same _ b 1922 _ _ _ g1, by simpa [setAll_size] using h2, h3, h4, ?_, ?_, ?_, ?_, ?_, ?_⟩
  · rw [Array.getElem?_setIfInBounds_ne (by omega), setAll_out _ _ _ _ (by omega)]; exact h5
  · rw [Array.getElem?_setIfInBounds_ne (by omega), setAll_out _ _ _ _ (by omega)]; exact h6
  · refine ⟨by simp; omega, ?_, fun i hi j u hj => ?_⟩
    · rw [Array.getElem?_setIfInBounds_self_of_lt (by rw [setAll_size]; omega)]; simp
    · have hj4 := ncells_lt hj
      have hi' : i < ns.length + 1 := by simpa using hi
      rw [Array.getElem?_setIfInBounds_ne (by omega)]
      by_cases he : i < ns.length
      · rw [setAll_out _ _ _ _ (by omega)]
        rw [List.getElem_append_left he] at hj
        exact k3 i he j u hj
      · have e : i = ns.length := by omega
        subst e
        rw [setAll_in _ _ _ _ (by rw [hc]; omega) (by rw [hc]; exact hj4)]
        simpa using hj
  · rw [Array.getElem?_setIfInBounds_ne (by omega), setAll_out _ _ _ _ (by omega)]; exact h8
  · exact ((h9.to row).setAll _ (.inl (by omega))).set (.inl (by omega)) _
  · exact ((h10.to row).setAll _ (.inl (by omega))).set (.inl (by omega)) _
/-- What a mark comes to. -/
def markA (ns : List Nt) (fz : Bool) (p : ByteArray) (i : Int) : Int := if fz then 5 else if !nameB p || decide (i < 0) || decide (8 < i) then 1 else if 256 ≤ ns.length then 3 else 0
def markN (cs : List Cd) (ns : List Nt) (fz : Bool) (p : ByteArray) (i s : Int) : List Nt := if markA ns fz p i = 0 then ns ++ [⟨p, i, s, cs.length⟩] else ns
def Mrk (okT : Nat → Prop) (w : World) (B b : Nat) (x : Int) (cs rs : List Cd) (ns : List Nt) (fz : Bool) (e : Ending) (w' : World) : Prop := e = .returned (.int .i64 x) ∧ RegN okT w' B b cs rs ns fz ∧ w.grownBy w' (some b)
theorem RegN.below {okT : Nat → Prop} {w w' : World} {B b : Nat} {cs rs : List Cd} {ns : List Nt} {fz : Bool} (h : RegN okT w B b cs rs ns fz) (hb : Below w.heap.size w w') : RegN okT w' B b cs rs ns fz := by
  letI : RE := NE ns okT
  exact Reg.below h hb
set_option maxHeartbeats 4000000 in
set_option maxRecDepth 100000 in
theorem mark_any (okT : Nat → Prop) (b B : Nat) (cs rs : List Cd) (ns : List Nt) (fz : Bool) (p : ByteArray) (i s : Int) (w : World) (h : RegN okT w B b cs rs ns fz) :
    Calls Try.prog 29 #[.pointer (some ⟨b, 0, none⟩), .string p, .int .i64 i, .int .i64 s] w (Mrk okT w B b (markA ns fz p i) cs rs (markN cs ns fz p i s) fz) := by
  have HR := Lib.hid h
  have h' := h
  obtain ⟨C, m, h1, h2, h3, h4, h5, h6, h7, h8, h9, h10⟩ := h'
  obtain ⟨k1, k2, k3⟩ : keepN ns C := h7
  letI : RE := NE ns okT
  have c3 := reg_cell h1 1923 h8
  cases fz with
  | true =>
    clear h h1 h2 h3 h4 h5 h6 h8 h9 h10 k1 k2 k3
    go_enter Try.func29, Try.ntmps29
    go_wp2_with fail
    go_ret
    exact ⟨rfl, HR.out, World.grownBy.refl w _⟩
  | false =>
    have CN := Lib.hid (name_any p w)
    by_cases hbad : (!nameB p || decide (i < 0) || decide (8 < i)) = true
    · have HA : Hid (markA ns false p i = 1) := Lib.hid (by simp only [markA, hbad, if_true, Bool.false_eq_true, if_false])
      have HN2 : Hid (markN cs ns false p i s = ns) := Lib.hid (by unfold markN; rw [HA.out]; rfl)
      rw [HA.out, HN2.out]
      clear h h1 h2 h3 h4 h5 h6 h8 h9 h10 k1 k2 k3
      cases hn : nameB p with
      | false =>
        rw [hn] at CN
        clear hbad hn
        go_enter Try.func29, Try.ntmps29
        go_wp2_with fail
        refine CN.out.mono ?_
        rintro e w1 ⟨rfl, hb⟩
        have R1 := Lib.hid (HR.out.below hb)
        have G1 : Hid (w.grownBy w1 (some b)) := Lib.hid (grown_below hb)
        clear hb c3
        go_wp2_with fail
        go_ret
        exact ⟨rfl, R1.out, G1.out⟩
      | true =>
        rw [hn] at CN hbad
        clear hn
        by_cases hi : i < 0
        · clear hbad
          go_enter Try.func29, Try.ntmps29
          go_wp2_with fail
          refine CN.out.mono ?_
          rintro e w1 ⟨rfl, hb⟩
          have R1 := Lib.hid (HR.out.below hb)
          have G1 : Hid (w.grownBy w1 (some b)) := Lib.hid (grown_below hb)
          clear hb c3
          go_wp2_with fail
          go_ret
          exact ⟨rfl, R1.out, G1.out⟩
        · have hi8 : i > 8 := by
            simp only [Bool.not_true, Bool.false_or, Bool.or_eq_true, decide_eq_true_eq] at hbad
            omega
          clear hbad
          go_enter Try.func29, Try.ntmps29
          go_wp2_with fail
          refine CN.out.mono ?_
          rintro e w1 ⟨rfl, hb⟩
          have R1 := Lib.hid (HR.out.below hb)
          have G1 : Hid (w.grownBy w1 (some b)) := Lib.hid (grown_below hb)
          clear hb c3
          go_wp2_with fail
          go_ret
          exact ⟨rfl, R1.out, G1.out⟩
    · have hgood := Bool.eq_false_iff.2 hbad
      have hn : nameB p = true ∧ ¬ i < 0 ∧ ¬ i > 8 := by
        simp only [Bool.or_eq_false_iff, Bool.not_eq_false', decide_eq_false_iff_not] at hgood
        exact ⟨hgood.1.1, hgood.1.2, hgood.2⟩
      obtain ⟨hn, hi0, hi8⟩ := hn
      rw [hn] at CN
      clear hbad
      by_cases hf : 256 ≤ ns.length
      · have HA : Hid (markA ns false p i = 3) := Lib.hid (by simp only [markA, hgood, hf, if_true, Bool.false_eq_true, if_false])
        have HN2 : Hid (markN cs ns false p i s = ns) := Lib.hid (by unfold markN; rw [HA.out]; rfl)
        rw [HA.out, HN2.out]
        have K2 := Lib.hid k2
        have HF : Hid ((ns.length : Int) = 256) := Lib.hid (by omega)
        clear h h1 h2 h3 h4 h5 h6 h8 h9 h10 k1 k2 k3 hgood hn hf
        go_enter Try.func29, Try.ntmps29
        go_wp2_with fail
        refine CN.out.mono ?_
        rintro e w1 ⟨rfl, hb⟩
        have R1 := Lib.hid (HR.out.below hb)
        have G1 : Hid (w.grownBy w1 (some b)) := Lib.hid (grown_below hb)
        have c1 : w1.cell? ⟨b, 1922, none⟩ = some (.int .i64 256) := by
          obtain ⟨C, m, h1, h2, h3, h4, h5, h6, h7, h8, h9, h10⟩ := R1.out
          obtain ⟨k1, k2, k3⟩ : keepN ns C := h7
          have := reg_cell h1 1922 k2
          rw [HF.out] at this
          exact this
        clear hb c3
        go_wp2_with fail
        go_ret
        exact ⟨rfl, R1.out, G1.out⟩
      · have HA : Hid (markA ns false p i = 0) := Lib.hid (by simp only [markA, hgood, hf, Bool.false_eq_true, if_false])
        have HN2 : Hid (markN cs ns false p i s = ns ++ [⟨p, i, s, cs.length⟩]) := Lib.hid (by unfold markN; rw [HA.out]; rfl)
        rw [HA.out, HN2.out]
        have HL : Hid (ns.length < 256) := Lib.hid (by omega)
        clear h h1 h2 h4 h5 h6 h8 h9 h10 k1 k2 k3 hgood hn hf
        go_enter Try.func29, Try.ntmps29
        go_wp2_with fail
        refine CN.out.mono ?_
        rintro e w1 ⟨rfl, hb⟩
        have R1 := Lib.hid (HR.out.below hb)
        have G1 : Hid (w.grownBy w1 (some b)) := Lib.hid (grown_below hb)
        clear hb c3
        obtain ⟨n, hn⟩ : ∃ n, ns.length = n := ⟨_, rfl⟩
        obtain ⟨S, hS⟩ : ∃ S, cs.length = S := ⟨_, rfl⟩
        have HNn := Lib.hid hn
        have HSs := Lib.hid hS
        have hn256 : n < 256 := by have := HL.out; omega
        have d1 : decide ((n : Int) = 256) = false := decide_eq_false (by omega)
        have hnc1 : (0 : Int) ≤ (n : Int) := by omega
        have hnc2 : (n : Int) < 256 := by omega
        have x1 : w1.cell? ⟨b, 1922, none⟩ = some (.int .i64 n) ∧ w1.cell? ⟨b, 1920, none⟩ = some (.int .i64 S) := by
          obtain ⟨C, m, h1, h2, h3, h4, h5, h6, h7, h8, h9, h10⟩ := R1.out
          obtain ⟨k1, k2, k3⟩ : keepN ns C := h7
          rw [hn] at k2
          rw [hS] at h5
          exact ⟨reg_cell h1 1922 k2, reg_cell h1 1920 h5⟩
        obtain ⟨c1, c0⟩ := x1
        clear hn hS h3
        go_upto_region 9 with fail
        refine wp_region_any (by kernel_rfl) ?_
        change wpAny _ _ _ _ _ _ _ w1.drew
        have R2 := Lib.hid (R1.out.below ((Below.refl _ _).drew))
        have G2 : Hid (w.grownBy w1.drew (some b)) := Lib.hid (G1.out.trans (grown_below ((Below.refl _ _).drew)))
        replace c1 : w1.drew.cell? ⟨b, 1922, none⟩ = some (.int .i64 n) := c1
        replace c0 : w1.drew.cell? ⟨b, 1920, none⟩ = some (.int .i64 S) := c0
        generalize w1.drew = wd at *
        clear R1 G1
        have TH : Hid (wd.there b (896 + n * 4) 4) := Lib.hid (by
          obtain ⟨C, m, h1, h2, h3, h4, h5, h6, h7, h8, h9, h10⟩ := R2.out
          intro j hj
          refine ⟨?_, frozen_of_row wd b _ _ _ h1⟩
          rw [cell_of_row wd b _ _ _ _ h1]
          exact Option.isSome_iff_exists.2 ⟨_, Array.getElem?_eq_getElem (by omega)⟩)
        refine wpAny_take (i := 0) (v := ?_) rfl (by kernel_rfl) (by kernel_rfl) (by kernel_rfl) (fun _ _ _ h => h) (Or.inl ⟨by kernel_rfl, ?_⟩) ?_
        rotate_left
        · intro w
          go_simp
          try with_reducible rfl
        simp only [Act.put, List.getElem_toArray, List.getElem_cons_zero, List.getElem_cons_succ, List.setIfInBounds_toArray, List.set_cons_zero, List.set_cons_succ]
        refine wpAny_take (i := 1) (v := ?_) rfl (by kernel_rfl) (by kernel_rfl) (by kernel_rfl) (fun _ _ _ h => h) (Or.inl ⟨by kernel_rfl, ?_⟩) ?_
        rotate_left
        · intro w
          go_simp
          try with_reducible rfl
        simp only [Act.put, List.getElem_toArray, List.getElem_cons_zero, List.getElem_cons_succ, List.setIfInBounds_toArray, List.set_cons_zero, List.set_cons_succ]
        refine wpAny_take (i := 2) (v := ?_) rfl (by kernel_rfl) (by kernel_rfl) (by kernel_rfl) (fun _ _ _ h => h) (Or.inl ⟨by kernel_rfl, ?_⟩) ?_
        rotate_left
        · intro w
          go_simp
          try with_reducible rfl
        simp only [Act.put, List.getElem_toArray, List.getElem_cons_zero, List.getElem_cons_succ, List.setIfInBounds_toArray, List.set_cons_zero, List.set_cons_succ]
        refine wpAny_take (i := 3) (v := ?_) rfl (by kernel_rfl) (by kernel_rfl) (by kernel_rfl) (fun _ _ _ h => h) (Or.inl ⟨by kernel_rfl, ?_⟩) ?_
        rotate_left
        · intro w
          go_simp
          try with_reducible rfl
        simp only [Act.put, List.getElem_toArray, List.getElem_cons_zero, List.getElem_cons_succ, List.setIfInBounds_toArray, List.set_cons_zero, List.set_cons_succ]
        refine wpAny_take (i := 5) (v := ?_) rfl (by kernel_rfl) (by kernel_rfl) (by kernel_rfl) (fun _ _ _ h => h) (Or.inl ⟨by kernel_rfl, ?_⟩) ?_
        rotate_left
        · intro w
          go_simp
          try with_reducible rfl
        simp only [Act.put, List.getElem_toArray, List.getElem_cons_zero, List.getElem_cons_succ, List.setIfInBounds_toArray, List.set_cons_zero, List.set_cons_succ]
        refine wpAny_take (i := 6) (v := ?_) rfl (by kernel_rfl) (by kernel_rfl) (by kernel_rfl) (fun _ _ _ h => h) (Or.inl ⟨by kernel_rfl, ?_⟩) ?_
        rotate_left
        · intro w
          go_simp
          try with_reducible rfl
        simp only [Act.put, List.getElem_toArray, List.getElem_cons_zero, List.getElem_cons_succ, List.setIfInBounds_toArray, List.set_cons_zero, List.set_cons_succ]
        refine wpAny_take (i := 7) (v := ?_) rfl (by kernel_rfl) (by kernel_rfl) (by kernel_rfl) (fun _ _ _ h => h) (Or.inl ⟨by kernel_rfl, ?_⟩) ?_
        rotate_left
        · intro w
          go_simp
          try with_reducible rfl
        simp only [Act.put, List.getElem_toArray, List.getElem_cons_zero, List.getElem_cons_succ, List.setIfInBounds_toArray, List.set_cons_zero, List.set_cons_succ]
        refine wpAny_take (i := 8) (v := ?_) rfl (by kernel_rfl) (by kernel_rfl) (by kernel_rfl) (fun _ _ _ h => h) (Or.inl ⟨by kernel_rfl, ?_⟩) ?_
        rotate_left
        · intro w
          go_simp
          try with_reducible rfl
        simp only [Act.put, List.getElem_toArray, List.getElem_cons_zero, List.getElem_cons_succ, List.setIfInBounds_toArray, List.set_cons_zero, List.set_cons_succ]
        refine wpAny_take (i := 9) (v := ?_) rfl (by kernel_rfl) (by kernel_rfl) (by kernel_rfl) (fun _ _ _ h => h) (Or.inl ⟨by kernel_rfl, ?_⟩) ?_
        rotate_left
        · intro w
          go_simp
          try with_reducible rfl
        simp only [Act.put, List.getElem_toArray, List.getElem_cons_zero, List.getElem_cons_succ, List.setIfInBounds_toArray, List.set_cons_zero, List.set_cons_succ]
        refine wpAny_take (i := 10) (v := ?_) rfl (by kernel_rfl) (by kernel_rfl) (by kernel_rfl) (fun _ _ _ h => h) (Or.inl ⟨by kernel_rfl, ?_⟩) ?_
        rotate_left
        · intro w
          go_simp
          try with_reducible rfl
        simp only [Act.put, List.getElem_toArray, List.getElem_cons_zero, List.getElem_cons_succ, List.setIfInBounds_toArray, List.set_cons_zero, List.set_cons_succ]
        refine wpAny_take (i := 13) (v := ?_) rfl (by kernel_rfl) (by kernel_rfl) (by kernel_rfl) (fun _ _ _ h => h) (Or.inl ⟨by kernel_rfl, ?_⟩) ?_
        rotate_left
        · intro w
          go_simp
          try with_reducible rfl
        simp only [Act.put, List.getElem_toArray, List.getElem_cons_zero, List.getElem_cons_succ, List.setIfInBounds_toArray, List.set_cons_zero, List.set_cons_succ]
        refine wpAny_take (i := 14) (v := ?_) rfl (by kernel_rfl) (by kernel_rfl) (by kernel_rfl) (fun _ _ _ h => h) (Or.inl ⟨by kernel_rfl, ?_⟩) ?_
        rotate_left
        · intro w
          go_simp
          try with_reducible rfl
        simp only [Act.put, List.getElem_toArray, List.getElem_cons_zero, List.getElem_cons_succ, List.setIfInBounds_toArray, List.set_cons_zero, List.set_cons_succ]
        refine wpAny_ready (rs := [4, 11]) (by kernel_rfl) (by simp) (AllReady.cons rfl (fun K hK => ?_) (AllReady.cons rfl (fun K hK => ?_) AllReady.nil))
        · skip
          go_simp
          refine hK _ _ ?_
          clear hK K
          try simp only [Act.put, List.setIfInBounds_toArray, List.set_cons_zero, List.set_cons_succ]
          refine wpAny_ready (rs := [11]) (by kernel_rfl) (by simp) (AllReady.cons rfl (fun K hK => ?_) AllReady.nil)
          go_simp
          refine hK _ _ ?_
          clear hK K
          try simp only [Act.put, List.setIfInBounds_toArray, List.set_cons_zero, List.set_cons_succ]
          refine wpAny_take (i := 12) (v := ?_) rfl (by kernel_rfl) (by kernel_rfl) (by kernel_rfl) (fun _ _ _ h => h) (Or.inl ⟨by kernel_rfl, ?_⟩) ?_
          rotate_left
          · intro w
            go_simp
            try with_reducible rfl
          simp only [Act.put, List.getElem_toArray, List.getElem_cons_zero, List.getElem_cons_succ, List.setIfInBounds_toArray, List.set_cons_zero, List.set_cons_succ]
          refine wpAny_take (i := 15) (v := ?_) rfl (by kernel_rfl) (by kernel_rfl) (by kernel_rfl) (fun _ _ _ h => h) (Or.inl ⟨by kernel_rfl, ?_⟩) ?_
          rotate_left
          · intro w
            go_simp
            try with_reducible rfl
          simp only [Act.put, List.getElem_toArray, List.getElem_cons_zero, List.getElem_cons_succ, List.setIfInBounds_toArray, List.set_cons_zero, List.set_cons_succ]
          refine wpAny_ready (rs := [16]) (by kernel_rfl) (by simp) (Go.BigFrame.allReady_want rfl (by kernel_rfl) (fun K hK => ?_) AllReady.nil)
          refine wp_store_all 80 (.tmp 50) (.tmp 47) rfl b (896 + n * 4) [.string p, .int .i64 i, .int .i64 s, .int .i64 S] (by kernel_rfl) (by kernel_rfl) TH.out (by kernel_rfl) (ncells_one ⟨p, i, s, S⟩) ?_
          intro W4 HW4
          refine hK _ _ ?_
          clear hK K
          try simp only [Act.put, List.setIfInBounds_toArray, List.set_cons_zero, List.set_cons_succ]
          refine wpAny_done (by kernel_rfl) ?_ _
          have RF : Hid (RegN okT (W4.setCell ⟨b, 1922, none⟩ (.int .i64 ((n : Int) + 1))) B b cs rs (ns ++ [⟨p, i, s, cs.length⟩]) false) := Lib.hid (by
            have e1 := HNn.out
            have e2 := HSs.out
            have e3 := HW4.out
            clear HNn HSs HW4
            subst e1 e2
            rw [e3]
            exact R2.out.note ⟨p, i, s, cs.length⟩ HL.out)
          have GF : Hid (w.grownBy (W4.setCell ⟨b, 1922, none⟩ (.int .i64 ((n : Int) + 1))) (some b)) := Lib.hid (by rw [HW4.out]; exact (G2.out.trans (putAll_grown _ _ _)).trans (grown_setCell _ _ _ _))
          have x4 : W4.cell? ⟨b, 1922, none⟩ = some (.int .i64 n) ∧ W4.frozen? ⟨b, 1922, none⟩ = false := by
            obtain ⟨C3, m3, h1, h2, h3, h4, h5, h6, h7, h8, h9, h10⟩ := R2.out
            obtain ⟨k1, k2, k3⟩ : keepN ns C3 := h7
            rw [HNn.out] at k2
            rw [HW4.out]
            exact ⟨(cell_of_row _ b 1922 _ _ _ (putAll_heap _ wd C3 _ h1)).trans ((setAll_out _ _ _ _ (by simp; omega)).trans k2), frozen_of_row _ b 1922 _ _ (putAll_heap _ wd C3 _ h1)⟩
          obtain ⟨x5, x6⟩ := x4
          clear c1 c0 HW4
          go_wp2_with fail
          go_ret
          exact ⟨rfl, RF.out, GF.out⟩
        · skip
          go_simp
          refine hK _ _ ?_
          clear hK K
          try simp only [Act.put, List.setIfInBounds_toArray, List.set_cons_zero, List.set_cons_succ]
          refine wpAny_take (i := 12) (v := ?_) rfl (by kernel_rfl) (by kernel_rfl) (by kernel_rfl) (fun _ _ _ h => h) (Or.inl ⟨by kernel_rfl, ?_⟩) ?_
          rotate_left
          · intro w
            go_simp
            try with_reducible rfl
          simp only [Act.put, List.getElem_toArray, List.getElem_cons_zero, List.getElem_cons_succ, List.setIfInBounds_toArray, List.set_cons_zero, List.set_cons_succ]
          refine wpAny_ready (rs := [4]) (by kernel_rfl) (by simp) (AllReady.cons rfl (fun K hK => ?_) AllReady.nil)
          go_simp
          refine hK _ _ ?_
          clear hK K
          try simp only [Act.put, List.setIfInBounds_toArray, List.set_cons_zero, List.set_cons_succ]
          refine wpAny_take (i := 15) (v := ?_) rfl (by kernel_rfl) (by kernel_rfl) (by kernel_rfl) (fun _ _ _ h => h) (Or.inl ⟨by kernel_rfl, ?_⟩) ?_
          rotate_left
          · intro w
            go_simp
            try with_reducible rfl
          simp only [Act.put, List.getElem_toArray, List.getElem_cons_zero, List.getElem_cons_succ, List.setIfInBounds_toArray, List.set_cons_zero, List.set_cons_succ]
          refine wpAny_ready (rs := [16]) (by kernel_rfl) (by simp) (Go.BigFrame.allReady_want rfl (by kernel_rfl) (fun K hK => ?_) AllReady.nil)
          refine wp_store_all 80 (.tmp 50) (.tmp 47) rfl b (896 + n * 4) [.string p, .int .i64 i, .int .i64 s, .int .i64 S] (by kernel_rfl) (by kernel_rfl) TH.out (by kernel_rfl) (ncells_one ⟨p, i, s, S⟩) ?_
          intro W4 HW4
          refine hK _ _ ?_
          clear hK K
          try simp only [Act.put, List.setIfInBounds_toArray, List.set_cons_zero, List.set_cons_succ]
          refine wpAny_done (by kernel_rfl) ?_ _
          have RF : Hid (RegN okT (W4.setCell ⟨b, 1922, none⟩ (.int .i64 ((n : Int) + 1))) B b cs rs (ns ++ [⟨p, i, s, cs.length⟩]) false) := Lib.hid (by
            have e1 := HNn.out
            have e2 := HSs.out
            have e3 := HW4.out
            clear HNn HSs HW4
            subst e1 e2
            rw [e3]
            exact R2.out.note ⟨p, i, s, cs.length⟩ HL.out)
          have GF : Hid (w.grownBy (W4.setCell ⟨b, 1922, none⟩ (.int .i64 ((n : Int) + 1))) (some b)) := Lib.hid (by rw [HW4.out]; exact (G2.out.trans (putAll_grown _ _ _)).trans (grown_setCell _ _ _ _))
          have x4 : W4.cell? ⟨b, 1922, none⟩ = some (.int .i64 n) ∧ W4.frozen? ⟨b, 1922, none⟩ = false := by
            obtain ⟨C3, m3, h1, h2, h3, h4, h5, h6, h7, h8, h9, h10⟩ := R2.out
            obtain ⟨k1, k2, k3⟩ : keepN ns C3 := h7
            rw [HNn.out] at k2
            rw [HW4.out]
            exact ⟨(cell_of_row _ b 1922 _ _ _ (putAll_heap _ wd C3 _ h1)).trans ((setAll_out _ _ _ _ (by simp; omega)).trans k2), frozen_of_row _ b 1922 _ _ (putAll_heap _ wd C3 _ h1)⟩
          obtain ⟨x5, x6⟩ := x4
          clear c1 c0 HW4
          go_wp2_with fail
          go_ret
          exact ⟨rfl, RF.out, GF.out⟩
end Go.Proofs.Ytpafbnmncioppaa
