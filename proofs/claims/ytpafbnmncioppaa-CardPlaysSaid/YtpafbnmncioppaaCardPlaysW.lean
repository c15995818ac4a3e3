/- CardPlays: two registries, in turns, and a nil one. The walk. -/
import Derived.Test.YtpafbnmncioppaaPStepN
import Derived.Test.YtpafbnmncioppaaStepD
import Derived.Test.YtpafbnmncioppaaWorksC
import Derived.Deep.DeepCutAuto
import Derived.Deep.CutBlock
namespace Go.Proofs.Ytpafbnmncioppaa
open Go.RowKit Go.ChangeShapes Nm
theorem regN_new (T : Nat → Prop) (w : World) (B : Nat) : RegN T (w.alloc (.cells zr 84 (0, 0))) B w.heap.size [] [] [] false :=
  ⟨_, 0, heap_alloc_new w _, zr_size, by simp, by simp, zr_n.1, zr_n.2.1, ⟨by simp, zr_n.2.2.1, fun i hi => by simp at hi⟩, zr_n.2.2.2, fun i hi => by simp at hi, fun i hi => by simp at hi⟩
theorem own_nil (w : World) (B e z : Nat) : w.ownsRow B e z (.slice none 0 0) 0 [] := ⟨by simp, .inl ⟨rfl, rfl⟩⟩
theorem rreg_new (T : Nat → Prop) (w : World) (B : Nat) (hB : B ≤ w.heap.size) (hT : T w.heap.size) : RReg T (w.alloc (.cells #[.slice none 0 0, .slice none 0 0, .slice none 0 0, .bool false] 58 (0, 0))) B w.heap.size [] [] [] false :=
  ⟨⟨hT, hB⟩, _, _, _, heap_alloc_new w _, ⟨[], rfl, own_nil _ _ _ _, (fun r hr => by cases hr), (fun g hg => by cases hg), (fun r hr => by cases hr)⟩, ⟨[], rfl, own_nil _ _ _ _, (fun r hr => by cases hr), (fun g hg => by cases hg), (fun r hr => by cases hr)⟩, ⟨own_nil _ _ _ _, fun g hg => by cases hg⟩, fun g hg => by cases hg⟩
/-- Two pairs, each with a territory of its own; the rows of their pointers. -/
def Duo (W : World) (b0 b1 m0 m1 ga gr : Nat) (w : World) : Prop :=
  ∃ (T0 T1 : Nat → Prop) (cs0 rs0 : List Cd) (ns0 : List Nt) (fz0 : Bool) (cs1 rs1 : List Cd) (ns1 : List Nt) (fz1 : Bool),
    PairS T0 w W.heap.size b0 m0 cs0 rs0 ns0 fz0 ∧ PairS T1 w W.heap.size b1 m1 cs1 rs1 ns1 fz1 ∧ (∀ k, T0 k → ¬ T1 k) ∧
    w.heap[ga]? = some (.cells #[.pointer (some ⟨b0, 0, none⟩), .pointer (some ⟨b1, 0, none⟩)] 52 (0, 0)) ∧ w.heap[gr]? = some (.cells #[.pointer (some ⟨m0, 0, none⟩), .pointer (some ⟨m1, 0, none⟩)] 55 (0, 0)) ∧
    (¬ T0 ga ∧ ¬ T1 ga ∧ ¬ T0 gr ∧ ¬ T1 gr) ∧ Below W.heap.size W w
theorem Duo.step0 {W w w' : World} {b0 b1 m0 m1 ga gr : Nat} {T0 T1 : Nat → Prop} {cs0 rs0 cs1 rs1 : List Cd} {ns0 ns1 : List Nt} {fz0 fz1 : Bool} (h0 : PairS T0 w W.heap.size b0 m0 cs0 rs0 ns0 fz0) (h1 : PairS T1 w W.heap.size b1 m1 cs1 rs1 ns1 fz1) (hd : ∀ k, T0 k → ¬ T1 k)
    (ha : w.heap[ga]? = some (.cells #[.pointer (some ⟨b0, 0, none⟩), .pointer (some ⟨b1, 0, none⟩)] 52 (0, 0))) (hr : w.heap[gr]? = some (.cells #[.pointer (some ⟨m0, 0, none⟩), .pointer (some ⟨m1, 0, none⟩)] 55 (0, 0)))
    (hn : ¬ T0 ga ∧ ¬ T1 ga ∧ ¬ T0 gr ∧ ¬ T1 gr) (hb : Below W.heap.size W w) {e : Ending} (hs : Stepped T0 w W.heap.size b0 m0 e w') : Duo W b0 b1 m0 m1 ga gr w' := by
  obtain ⟨_, T', cs, rs, ns, fz, hp, hT, hk⟩ := hs
  have la := (Array.getElem?_eq_some_iff.1 ha).1
  have lr := (Array.getElem?_eq_some_iff.1 hr).1
  refine ⟨T', T1, cs, rs, ns, fz, cs1, rs1, ns1, fz1, hp, h1.kept hk (fun k h h' => hd k h' h), fun k h h' => ?_, (hk.block ga la hn.1).trans ha, (hk.block gr lr hn.2.2.1).trans hr, ⟨fun h => ?_, hn.2.1, fun h => ?_, hn.2.2.2⟩, hk.out (fun k h => (h0.lt k h).1) hb hb.size⟩
  · rcases hT k h with h | h
    · exact hd k h h'
    · have := (h1.lt k h').2; omega
  · rcases hT ga h with h | h
    · exact hn.1 h
    · omega
  · rcases hT gr h with h | h
    · exact hn.2.2.1 h
    · omega
theorem Duo.step1 {W w w' : World} {b0 b1 m0 m1 ga gr : Nat} {T0 T1 : Nat → Prop} {cs0 rs0 cs1 rs1 : List Cd} {ns0 ns1 : List Nt} {fz0 fz1 : Bool} (h0 : PairS T0 w W.heap.size b0 m0 cs0 rs0 ns0 fz0) (h1 : PairS T1 w W.heap.size b1 m1 cs1 rs1 ns1 fz1) (hd : ∀ k, T0 k → ¬ T1 k)
    (ha : w.heap[ga]? = some (.cells #[.pointer (some ⟨b0, 0, none⟩), .pointer (some ⟨b1, 0, none⟩)] 52 (0, 0))) (hr : w.heap[gr]? = some (.cells #[.pointer (some ⟨m0, 0, none⟩), .pointer (some ⟨m1, 0, none⟩)] 55 (0, 0)))
    (hn : ¬ T0 ga ∧ ¬ T1 ga ∧ ¬ T0 gr ∧ ¬ T1 gr) (hb : Below W.heap.size W w) {e : Ending} (hs : Stepped T1 w W.heap.size b1 m1 e w') : Duo W b0 b1 m0 m1 ga gr w' := by
  obtain ⟨_, T', cs, rs, ns, fz, hp, hT, hk⟩ := hs
  have la := (Array.getElem?_eq_some_iff.1 ha).1
  have lr := (Array.getElem?_eq_some_iff.1 hr).1
  refine ⟨T0, T', cs0, rs0, ns0, fz0, cs, rs, ns, fz, h0.kept hk hd, hp, fun k h h' => ?_, (hk.block ga la hn.2.1).trans ha, (hk.block gr lr hn.2.2.2).trans hr, ⟨hn.1, fun h => ?_, hn.2.2.1, fun h => ?_⟩, hk.out (fun k h => (h1.lt k h).1) hb hb.size⟩
  · rcases hT k h' with h' | h'
    · exact hd k h h'
    · have := (h0.lt k h).2; omega
  · rcases hT ga h with h | h
    · exact hn.2.1 h
    · omega
  · rcases hT gr h with h | h
    · exact hn.2.2.2 h
    · omega
theorem Duo.below {W w w' : World} {b0 b1 m0 m1 ga gr : Nat} (h : Duo W b0 b1 m0 m1 ga gr w) (hb : Below w.heap.size w w') : Duo W b0 b1 m0 m1 ga gr w' := by
  obtain ⟨T0, T1, cs0, rs0, ns0, fz0, cs1, rs1, ns1, fz1, h0, h1, hd, ha, hr, hn, hB⟩ := h
  exact ⟨T0, T1, cs0, rs0, ns0, fz0, cs1, rs1, ns1, fz1, h0.below hb, h1.below hb, hd, (hb.block ga (Array.getElem?_eq_some_iff.1 ha).1).trans ha, (hb.block gr (Array.getElem?_eq_some_iff.1 hr).1).trans hr, hn, hB.trans (hb.mono hB.size)⟩
/-- The k-th pair of two: what is behind its pointers; a step leaves two pairs. -/
theorem Duo.pair {W w : World} {b0 b1 m0 m1 ga gr : Nat} (h : Duo W b0 b1 m0 m1 ga gr w) (k : Nat) (hk : k < 2) : ∃ (T : Nat → Prop) (b m : Nat) (cs rs : List Cd) (ns : List Nt) (fz : Bool), PairS T w W.heap.size b m cs rs ns fz ∧ w.cell? ⟨ga, k, none⟩ = some (.pointer (some ⟨b, 0, none⟩)) ∧ w.cell? ⟨gr, k, none⟩ = some (.pointer (some ⟨m, 0, none⟩)) ∧ ∀ e w', Stepped T w W.heap.size b m e w' → Duo W b0 b1 m0 m1 ga gr w' ∧ w'.cell? ⟨ga, k, none⟩ = w.cell? ⟨ga, k, none⟩ ∧ w'.cell? ⟨gr, k, none⟩ = w.cell? ⟨gr, k, none⟩ := by
  obtain ⟨T0, T1, cs0, rs0, ns0, fz0, cs1, rs1, ns1, fz1, h0, h1, hd, ha, hr, hn, hB⟩ := h
  have la := (Array.getElem?_eq_some_iff.1 ha).1
  have lr := (Array.getElem?_eq_some_iff.1 hr).1
  rcases (by omega : k = 0 ∨ k = 1) with rfl | rfl
  · exact ⟨T0, b0, m0, cs0, rs0, ns0, fz0, h0, (cell_of_row _ _ 0 _ _ _ ha).trans rfl, (cell_of_row _ _ 0 _ _ _ hr).trans rfl, fun e w' hs => ⟨Duo.step0 h0 h1 hd ha hr hn hB hs, World.cell?_of_block (a := ⟨ga, 0, none⟩) (hs.2.choose_spec.choose_spec.choose_spec.choose_spec.choose_spec.2.2.block ga la hn.1), World.cell?_of_block (a := ⟨gr, 0, none⟩) (hs.2.choose_spec.choose_spec.choose_spec.choose_spec.choose_spec.2.2.block gr lr hn.2.2.1)⟩⟩
  · exact ⟨T1, b1, m1, cs1, rs1, ns1, fz1, h1, (cell_of_row _ _ 1 _ _ _ ha).trans rfl, (cell_of_row _ _ 1 _ _ _ hr).trans rfl, fun e w' hs => ⟨Duo.step1 h0 h1 hd ha hr hn hB hs, World.cell?_of_block (a := ⟨ga, 1, none⟩) (hs.2.choose_spec.choose_spec.choose_spec.choose_spec.choose_spec.2.2.block ga la hn.2.1), World.cell?_of_block (a := ⟨gr, 1, none⟩) (hs.2.choose_spec.choose_spec.choose_spec.choose_spec.choose_spec.2.2.block gr lr hn.2.2.2)⟩⟩
theorem Duo.out {W w : World} {b0 b1 m0 m1 ga gr : Nat} (h : Duo W b0 b1 m0 m1 ga gr w) : Below W.heap.size W w := by
  obtain ⟨T0, T1, cs0, rs0, ns0, fz0, cs1, rs1, ns1, fz1, h0, h1, hd, ha, hr, hn, hB⟩ := h
  exact hB
theorem pick3 (z : Int) : ∃ (r : Int) (K : Nat), z.tmod 3 = r ∧ K < 3 ∧ (¬ r < 0 → r = (K : Int)) ∧ (r < 0 → -r = (K : Int)) := by
  have h1 := Int.lt_tmod_of_pos z (b := 3) (by omega)
  have h2 := Int.tmod_lt_of_pos z (b := 3) (by omega)
  by_cases h : z.tmod 3 < 0
  · exact ⟨_, (-z.tmod 3).toNat, rfl, by omega, fun h' => absurd h h', fun _ => by omega⟩
  · exact ⟨_, (z.tmod 3).toNat, rfl, by omega, fun _ => by omega, fun h' => absurd h' h⟩
theorem stepped_drew {T : Nat → Prop} {w w' : World} {B b m : Nat} {e : Ending} (h : Stepped T w.drew B b m e w') : Stepped T w B b m e w' := by
  obtain ⟨h1, T', cs, rs, ns, fz, h2, h3, h4⟩ := h
  exact ⟨h1, T', cs, rs, ns, fz, h2, h3, (Kept.below ((Below.refl _ w).drew)).trans h4⟩
theorem duo_new (W : World) (t1 t2 : Nat) (h1 : t1 = 52) (h2 : t2 = 55) : Duo W W.heap.size (W.heap.size + 1) (W.heap.size + 1 + 1 + 1) (W.heap.size + 1 + 1 + 1 + 1) (W.heap.size + 1 + 1) (W.heap.size + 1 + 1 + 1 + 1 + 1)
    ((((((W.alloc (.cells zr 84 (0, 0))).alloc (.cells zr 84 (0, 0))).alloc (.cells #[.pointer (some ⟨W.heap.size, 0, none⟩), .pointer (some ⟨W.heap.size + 1, 0, none⟩)] t1)).alloc (.cells #[.slice none 0 0, .slice none 0 0, .slice none 0 0, .bool false] 58)).alloc (.cells #[.slice none 0 0, .slice none 0 0, .slice none 0 0, .bool false] 58)).alloc (.cells #[.pointer (some ⟨W.heap.size + 1 + 1 + 1, 0, none⟩), .pointer (some ⟨W.heap.size + 1 + 1 + 1 + 1, 0, none⟩)] t2)) := by
  subst h1 h2
  have za := fun (w : World) (o : Obj) => (by simp : (w.alloc o).heap.size = w.heap.size + 1)
  have ba := fun (w : World) (o : Obj) => (Below.refl w.heap.size w).alloc (Nat.le_refl _) o
  generalize hw1 : W.alloc (.cells zr 84 (0, 0)) = w1
  have z1 := za W (.cells zr 84 (0, 0)); rw [hw1] at z1
  have b1 := ba W (.cells zr 84 (0, 0)); rw [hw1] at b1
  have r0 := regN_new (fun k => k = W.heap.size ∨ k = W.heap.size + 1 + 1 + 1) W W.heap.size; rw [hw1] at r0
  generalize hw2 : w1.alloc (.cells zr 84 (0, 0)) = w2
  have z2 := za w1 (.cells zr 84 (0, 0)); rw [hw2] at z2
  have b2 := ba w1 (.cells zr 84 (0, 0)); rw [hw2] at b2
  have r1 := regN_new (fun k => k = W.heap.size + 1 ∨ k = W.heap.size + 1 + 1 + 1 + 1) w1 W.heap.size; rw [hw2] at r1
  generalize hw3 : w2.alloc (.cells #[.pointer (some ⟨W.heap.size, 0, none⟩), .pointer (some ⟨W.heap.size + 1, 0, none⟩)] 52) = w3
  have z3 := za w2 (.cells #[.pointer (some ⟨W.heap.size, 0, none⟩), .pointer (some ⟨W.heap.size + 1, 0, none⟩)] 52); rw [hw3] at z3
  have b3 := ba w2 (.cells #[.pointer (some ⟨W.heap.size, 0, none⟩), .pointer (some ⟨W.heap.size + 1, 0, none⟩)] 52); rw [hw3] at b3
  have a3 := heap_alloc_new w2 (.cells #[.pointer (some ⟨W.heap.size, 0, none⟩), .pointer (some ⟨W.heap.size + 1, 0, none⟩)] 52); rw [hw3] at a3
  generalize hw4 : w3.alloc (.cells #[.slice none 0 0, .slice none 0 0, .slice none 0 0, .bool false] 58) = w4
  have z4 := za w3 (.cells #[.slice none 0 0, .slice none 0 0, .slice none 0 0, .bool false] 58); rw [hw4] at z4
  have b4 := ba w3 (.cells #[.slice none 0 0, .slice none 0 0, .slice none 0 0, .bool false] 58); rw [hw4] at b4
  have e3 : w3.heap.size = W.heap.size + 1 + 1 + 1 := by omega
  have d0 := rreg_new (fun k => k = W.heap.size ∨ k = W.heap.size + 1 + 1 + 1) w3 W.heap.size (by omega) (.inr e3); rw [hw4, e3] at d0
  generalize hw5 : w4.alloc (.cells #[.slice none 0 0, .slice none 0 0, .slice none 0 0, .bool false] 58) = w5
  have z5 := za w4 (.cells #[.slice none 0 0, .slice none 0 0, .slice none 0 0, .bool false] 58); rw [hw5] at z5
  have b5 := ba w4 (.cells #[.slice none 0 0, .slice none 0 0, .slice none 0 0, .bool false] 58); rw [hw5] at b5
  have e4 : w4.heap.size = W.heap.size + 1 + 1 + 1 + 1 := by omega
  have d1 := rreg_new (fun k => k = W.heap.size + 1 ∨ k = W.heap.size + 1 + 1 + 1 + 1) w4 W.heap.size (by omega) (.inr e4); rw [hw5, e4] at d1
  generalize hw6 : w5.alloc (.cells #[.pointer (some ⟨W.heap.size + 1 + 1 + 1, 0, none⟩), .pointer (some ⟨W.heap.size + 1 + 1 + 1 + 1, 0, none⟩)] 55) = w6
  have z6 := za w5 (.cells #[.pointer (some ⟨W.heap.size + 1 + 1 + 1, 0, none⟩), .pointer (some ⟨W.heap.size + 1 + 1 + 1 + 1, 0, none⟩)] 55); rw [hw6] at z6
  have b6 := ba w5 (.cells #[.pointer (some ⟨W.heap.size + 1 + 1 + 1, 0, none⟩), .pointer (some ⟨W.heap.size + 1 + 1 + 1 + 1, 0, none⟩)] 55); rw [hw6] at b6
  have a6 := heap_alloc_new w5 (.cells #[.pointer (some ⟨W.heap.size + 1 + 1 + 1, 0, none⟩), .pointer (some ⟨W.heap.size + 1 + 1 + 1 + 1, 0, none⟩)] 55); rw [hw6] at a6
  have c23 := b2.trans (b3.mono b2.size)
  have c16 : Below w1.heap.size w1 w6 := (((b2.trans (b3.mono (by omega))).trans (b4.mono (by omega))).trans (b5.mono (by omega))).trans (b6.mono (by omega))
  have c26 : Below w2.heap.size w2 w6 := ((b3.trans (b4.mono (by omega))).trans (b5.mono (by omega))).trans (b6.mono (by omega))
  have c36 : Below w3.heap.size w3 w6 := (b4.trans (b5.mono (by omega))).trans (b6.mono (by omega))
  have c46 : Below w4.heap.size w4 w6 := b5.trans (b6.mono (by omega))
  have e1 : w1.heap.size = W.heap.size + 1 := z1
  have e2 : w2.heap.size = W.heap.size + 1 + 1 := by omega
  have e5 : w5.heap.size = W.heap.size + 1 + 1 + 1 + 1 + 1 := by omega
  rw [e1] at r1
  rw [e2] at a3
  rw [e5] at a6
  refine ⟨_, _, [], [], [], false, [], [], [], false, ⟨r0.below c16, d0.below c46, .inl rfl, .inr rfl, ?_, (fun c hc => by cases hc), (fun c hc => by cases hc)⟩, ⟨r1.below c26, d1.below b6, .inl rfl, .inr rfl, ?_, (fun c hc => by cases hc), (fun c hc => by cases hc)⟩, ?_, (c36.block _ (by omega)).trans a3, a6, ⟨by omega, by omega, by omega, by omega⟩, b1.trans (c16.mono (by omega))⟩
  · rintro k (rfl | rfl) <;> omega
  · rintro k (rfl | rfl) <;> omega
  · rintro k (rfl | rfl) <;> omega
set_option maxHeartbeats 16000000 in
set_option maxRecDepth 100000 in
theorem cardPlays_walk {H : Type} {enc : TypeId × Value → H} (v : Value) (d : DataW H) (ps : List MemPlace) (W : World)
    (h : DataW.Trod enc Try.prog W 0 (fun _ => true) true 51 v d ps) {base : Nat} (hok : Value.okWide Try.prog W .any base 51 v) (hw : ∀ n ∈ DataW.weights Try.prog 51 d, n ≤ reachBytes) (hsh : W.ShapedOpen Try.prog) :
    Calls Try.prog 6 #[v] W fun e w' => e = .returned (.bool true) ∧ Below W.heap.size W w' := by
  obtain ⟨ts, hv, hsz, hT⟩ := steps_arg hok h hw
  have HV := Lib.hid hv
  have HT := Lib.hid hT
  obtain ⟨av, cv, rfl, hmc, _⟩ := hv
  have hlen : ts.length ≤ 140737488355328 := by unfold reachBytes at hsz; omega
  clear h hok hw hsz hT
  go_enter Try.func6, Try.ntmps6
  go_wp2_with fail
  refine (new_any W).mono ?_
  rintro er w1 ⟨rfl, rfl⟩
  go_wp2_with fail
  refine (new_any _).mono ?_
  rintro er w2 ⟨rfl, rfl⟩
  have D0 := Lib.hid (duo_new W 52 55 rfl rfl)
  go_wp2_with fail
  go_loopg [5] ts.length (fun r vi wr => ∃ k : Nat, k ≤ ts.length ∧ k ≤ 400 ∧ r = ts.length - k ∧ vi = .int .i64 k ∧ Hid (Duo W W.heap.size (W.heap.size + 1) (W.heap.size + 1 + 1 + 1) (W.heap.size + 1 + 1 + 1 + 1) (W.heap.size + 1 + 1) (W.heap.size + 1 + 1 + 1 + 1 + 1) wr))
  case atStart => exact ⟨0, by omega, by omega, by omega, rfl, D0.out⟩
  case round =>
    clear D0
    obtain ⟨k, hk, hk4, hr, rfl, hq⟩ := hrel
    have HR := Lib.hid hr
    have DD := Lib.hid hq.out
    clear hr hq
    by_cases hgo : k < ts.length ∧ k < 400
    · obtain ⟨hlt, hlt4⟩ := hgo
      have BW := Lib.hid DD.out.out
      obtain ⟨av', cv', ev, _, hst⟩ := HV.out.below BW.out
      cases ev
      obtain ⟨b, off, sl, rfl, gx, hstr⟩ := hst k hlt
      have HSW : Hid (Strs W sl ts[k].card.comp) := Lib.hid (by
        obtain ⟨av', cv', ev, _, hst⟩ := HV.out
        cases ev
        obtain ⟨b', off', sl', e, gx', hstr'⟩ := hst k hlt
        cases e
        have h1 := gx 5 _ rfl
        have h2 := (BW.out.cell (p := ⟨b, off + k * 12 + 5, none⟩) (World.block_lt_of_cell? W _ (gx' 5 _ rfl))).trans (gx' 5 _ rfl)
        rw [h1] at h2
        cases h2
        exact hstr')
      obtain ⟨hx1, hx2, hx3⟩ := HT.out k hlt
      clear hstr hst
      obtain ⟨t, ht⟩ : ∃ t, ts[k]'hlt = t := ⟨_, rfl⟩
      simp only [ht] at gx HSW hx1 hx2 hx3
      obtain ⟨who, kind, ⟨n, f, l, ss, s, q, e⟩, p, i, sm⟩ := t
      simp only [Sp.cells] at gx HSW hx1 hx2 hx3
      have HOK := Lib.hid hx2
      have HFW : Hid (ss.length ≤ 8796093022208) := Lib.hid (by unfold reachBytes at hx1; omega)
      obtain ⟨hw1, hw2⟩ := hx3
      simp only at hw1 hw2
      obtain ⟨c0, c1, c2, c3, c4, c5, c6, c7, c8, c9, c10, c11⟩ : wr.cell? ⟨b, off + k * 12, none⟩ = some (.int .i64 who) ∧ wr.cell? ⟨b, off + k * 12 + 1, none⟩ = some (.int .i64 kind) ∧ wr.cell? ⟨b, off + k * 12 + 2, none⟩ = some (.string n) ∧ wr.cell? ⟨b, off + k * 12 + 3, none⟩ = some (.string f) ∧ wr.cell? ⟨b, off + k * 12 + 4, none⟩ = some (.int .u8 l) ∧ wr.cell? ⟨b, off + k * 12 + 5, none⟩ = some (sl) ∧ wr.cell? ⟨b, off + k * 12 + 6, none⟩ = some (.int .i8 s) ∧ wr.cell? ⟨b, off + k * 12 + 7, none⟩ = some (.string q) ∧ wr.cell? ⟨b, off + k * 12 + 8, none⟩ = some (.int .i16 e) ∧ wr.cell? ⟨b, off + k * 12 + 9, none⟩ = some (.string p) ∧ wr.cell? ⟨b, off + k * 12 + 10, none⟩ = some (.int .i64 i) ∧ wr.cell? ⟨b, off + k * 12 + 11, none⟩ = some (.int .i64 sm) := ⟨gx 0 _ rfl, gx 1 _ rfl, gx 2 _ rfl, gx 3 _ rfl, gx 4 _ rfl, gx 5 _ rfl, gx 6 _ rfl, gx 7 _ rfl, gx 8 _ rfl, gx 9 _ rfl, gx 10 _ rfl, gx 11 _ rfl⟩
      clear gx ht hx1 hx2
      obtain ⟨r0, K, e1, hK, h3, h4⟩ := pick3 who
      have H3 := Lib.hid h3
      have H4 := Lib.hid h4
      clear h3 h4
      have hkc1 : (0 : Int) ≤ (k : Int) := by omega
      have hkc2 : (k : Int) < (ts.length : Int) := by omega
      have hkc3 : (k : Int) < 400 := by omega
      go_upto_if 42 with fail
      go_cut [6] (fun vj wx => vj = .int .i64 K ∧ wr = wx)
      case first => as_aux_lemma => --ok
        by_cases hneg : r0 < 0
        · have e4 := H4.out hneg
          go_wp2_with fail
          go_meet
          exact ⟨rfl, rfl⟩
        · have e4 := H3.out hneg
          go_wp2_with fail
          go_meet
          exact ⟨rfl, rfl⟩
      case rest =>
        obtain ⟨rfl, rfl⟩ := hcut
        clear H3 H4 e1
        by_cases hK2 : K < 2
        · obtain ⟨T, bb, mm, cs, rs, ns, fz, hpair, hca, hcr, hnext⟩ := DD.out.pair K hK2
          have HPAIR := Lib.hid hpair
          have HNEXT := Lib.hid hnext
          have dK : decide ((K : Int) = 2) = false := decide_eq_false (by omega)
          have hKc1 : (0 : Int) ≤ (K : Int) := by omega
          have hKc2 : (K : Int) < 2 := by omega
          have CS := Lib.hid (fun w' (hb : Below wr.heap.size wr w') => step_any T W W.heap.size bb mm cs rs ns fz n f q p who kind l s e i sm ss sl w' (HPAIR.out.below hb) rfl (BW.out.trans (hb.mono BW.out.size)) HSW.out HFW.out HOK.out)
          clear hpair hnext
          have KC : wr.cell? ⟨W.heap.size + 1 + 1, K, none⟩ = some (.pointer (some ⟨bb, 0, none⟩)) ∧ wr.cell? ⟨W.heap.size + 1 + 1 + 1 + 1 + 1, K, none⟩ = some (.pointer (some ⟨mm, 0, none⟩)) ∧ wr.cell? ⟨b, off + k * 12, none⟩ = some (.int .i64 who) ∧ wr.cell? ⟨b, off + k * 12 + 1, none⟩ = some (.int .i64 kind) ∧ wr.cell? ⟨b, off + k * 12 + 2, none⟩ = some (.string n) ∧ wr.cell? ⟨b, off + k * 12 + 3, none⟩ = some (.string f) ∧ wr.cell? ⟨b, off + k * 12 + 4, none⟩ = some (.int .u8 l) ∧ wr.cell? ⟨b, off + k * 12 + 5, none⟩ = some (sl) ∧ wr.cell? ⟨b, off + k * 12 + 6, none⟩ = some (.int .i8 s) ∧ wr.cell? ⟨b, off + k * 12 + 7, none⟩ = some (.string q) ∧ wr.cell? ⟨b, off + k * 12 + 8, none⟩ = some (.int .i16 e) ∧ wr.cell? ⟨b, off + k * 12 + 9, none⟩ = some (.string p) ∧ wr.cell? ⟨b, off + k * 12 + 10, none⟩ = some (.int .i64 i) ∧ wr.cell? ⟨b, off + k * 12 + 11, none⟩ = some (.int .i64 sm) := ⟨hca, hcr, c0, c1, c2, c3, c4, c5, c6, c7, c8, c9, c10, c11⟩
          have STAY : Hid (∀ w', Below W.heap.size W w' → w'.cell? ⟨b, off + k * 12, none⟩ = some (.int .i64 who) ∧ w'.cell? ⟨b, off + k * 12 + 1, none⟩ = some (.int .i64 kind) ∧ w'.cell? ⟨b, off + k * 12 + 2, none⟩ = some (.string n) ∧ w'.cell? ⟨b, off + k * 12 + 3, none⟩ = some (.string f) ∧ w'.cell? ⟨b, off + k * 12 + 4, none⟩ = some (.int .u8 l) ∧ w'.cell? ⟨b, off + k * 12 + 5, none⟩ = some (sl) ∧ w'.cell? ⟨b, off + k * 12 + 6, none⟩ = some (.int .i8 s) ∧ w'.cell? ⟨b, off + k * 12 + 7, none⟩ = some (.string q) ∧ w'.cell? ⟨b, off + k * 12 + 8, none⟩ = some (.int .i16 e) ∧ w'.cell? ⟨b, off + k * 12 + 9, none⟩ = some (.string p) ∧ w'.cell? ⟨b, off + k * 12 + 10, none⟩ = some (.int .i64 i) ∧ w'.cell? ⟨b, off + k * 12 + 11, none⟩ = some (.int .i64 sm)) := Lib.hid (fun w' hb => by
            obtain ⟨av', cv', ev, _, hst⟩ := HV.out.below hb
            cases ev
            obtain ⟨b', off', sl', e', gx', _⟩ := hst k hlt
            cases e'
            obtain ⟨av2, cv2, ev2, _, hst2⟩ := HV.out
            cases ev2
            obtain ⟨b2, off2, sl2, e2, gx2, _⟩ := hst2 k hlt
            cases e2
            have back : ∀ j (u : Value), wr.cell? ⟨b, off + k * 12 + j, none⟩ = some u → (∃ u', W.cell? ⟨b, off + k * 12 + j, none⟩ = some u') → w'.cell? ⟨b, off + k * 12 + j, none⟩ = some u := fun j u hu ⟨u', hu'⟩ => by
              have hl := World.block_lt_of_cell? W _ hu'
              rw [hb.cell (p := ⟨b, off + k * 12 + j, none⟩) hl, ← BW.out.cell (p := ⟨b, off + k * 12 + j, none⟩) hl]
              exact hu
            exact ⟨back 0 _ c0 ⟨_, gx2 0 _ rfl⟩, back 1 _ c1 ⟨_, gx2 1 _ rfl⟩, back 2 _ c2 ⟨_, gx2 2 _ rfl⟩, back 3 _ c3 ⟨_, gx2 3 _ rfl⟩, back 4 _ c4 ⟨_, gx2 4 _ rfl⟩, back 5 _ c5 ⟨_, gx2 5 _ rfl⟩, back 6 _ c6 ⟨_, gx2 6 _ rfl⟩, back 7 _ c7 ⟨_, gx2 7 _ rfl⟩, back 8 _ c8 ⟨_, gx2 8 _ rfl⟩, back 9 _ c9 ⟨_, gx2 9 _ rfl⟩, back 10 _ c10 ⟨_, gx2 10 _ rfl⟩, back 11 _ c11 ⟨_, gx2 11 _ rfl⟩⟩)
          clear hca hcr c0 c1 c2 c3 c4 c5 c6 c7 c8 c9 c10 c11
          go_wp2_with fail
          go_region_held3 (fun w' => w'.cell? ⟨W.heap.size + 1 + 1, K, none⟩ = some (.pointer (some ⟨bb, 0, none⟩)) ∧ w'.cell? ⟨W.heap.size + 1 + 1 + 1 + 1 + 1, K, none⟩ = some (.pointer (some ⟨mm, 0, none⟩)) ∧ w'.cell? ⟨b, off + k * 12, none⟩ = some (.int .i64 who) ∧ w'.cell? ⟨b, off + k * 12 + 1, none⟩ = some (.int .i64 kind) ∧ w'.cell? ⟨b, off + k * 12 + 2, none⟩ = some (.string n) ∧ w'.cell? ⟨b, off + k * 12 + 3, none⟩ = some (.string f) ∧ w'.cell? ⟨b, off + k * 12 + 4, none⟩ = some (.int .u8 l) ∧ w'.cell? ⟨b, off + k * 12 + 5, none⟩ = some (sl) ∧ w'.cell? ⟨b, off + k * 12 + 6, none⟩ = some (.int .i8 s) ∧ w'.cell? ⟨b, off + k * 12 + 7, none⟩ = some (.string q) ∧ w'.cell? ⟨b, off + k * 12 + 8, none⟩ = some (.int .i16 e) ∧ w'.cell? ⟨b, off + k * 12 + 9, none⟩ = some (.string p) ∧ w'.cell? ⟨b, off + k * 12 + 10, none⟩ = some (.int .i64 i) ∧ w'.cell? ⟨b, off + k * 12 + 11, none⟩ = some (.int .i64 sm))
            (first | exact KC | go_keep)
            ((go_at_call 25; refine (CS.out _ ((Below.refl _ _).drew)).mono ?_; rintro er w3 hst; have hnx := HNEXT.out _ _ (stepped_drew hst); have DN := Lib.hid hnx.1; have KC := And.intro (hnx.2.1.trans KC.1) (And.intro (hnx.2.2.trans KC.2.1) (STAY.out _ DN.out.out)); clear hnx; obtain ⟨rfl, _⟩ := hst))
          clear KC
          go_wp2_with fail
          go_roundg (ts.length - (k + 1))
          case measure => rw [HR.out]; omega
          case rel => exact ⟨k + 1, by omega, by omega, rfl, by first | rfl | simp, DN⟩
        · obtain rfl : K = 2 := by omega
          have CS := Lib.hid (nil_any n f q p who kind l s e i sm ss sl wr (HSW.out.below BW.out) HFW.out)
          go_wp2_with fail
          refine CS.out.mono ?_
          rintro er w3 ⟨rfl, hb⟩
          have D3 := Lib.hid (DD.out.below hb)
          clear hb c0 c1 c2 c3 c4 c5 c6 c7 c8 c9 c10 c11
          go_wp2_with fail
          go_roundg (ts.length - (k + 1))
          case measure => rw [HR.out]; omega
          case rel => exact ⟨k + 1, by omega, by omega, rfl, by first | rfl | simp, D3⟩
    · have hend : ¬ (k < ts.length ∧ k < 400) := hgo
      have BW := Lib.hid DD.out.out
      have hkc1 : (0 : Int) ≤ (k : Int) := by omega
      have P0 := Lib.hid (fun w' (hb : Below wr.heap.size wr w') => (DD.out.below hb).pair 0 (by omega))
      obtain ⟨T0, bb, mm, cs, rs, ns, fz, hp0, x0, y0, _⟩ := DD.out.pair 0 (by omega)
      obtain ⟨T1, bb1, mm1, cs1, rs1, ns1, fz1, hp1, x1, y1, _⟩ := DD.out.pair 1 (by omega)
      have tl : ∀ {T : Nat → Prop} {b m : Nat} {cs rs : List Cd} {ns : List Nt} {fz : Bool} (w' : World), Below wr.heap.size wr w' → PairS T wr W.heap.size b m cs rs ns fz → Calls Try.prog 26 #[.pointer (some ⟨b, 0, none⟩), .pointer (some ⟨m, 0, none⟩)] w' (GivesB true w') := fun w' hb hp => by
        have hp' := hp.below hb
        have h4 := hp'.reg.at
        exact told_any _ _ W.heap.size _ _ _ _ _ _ w' hp'.reg hp'.ref (Nat.le_trans BW.out.size hb.size) h4.2.2.2 h4.2.1 h4.2.2.1 hp'.mc hp'.mr
      have CT0 := Lib.hid (fun w' hb => tl w' hb hp0)
      have CT1 := Lib.hid (fun w' hb => tl w' hb hp1)
      have KC : wr.cell? ⟨W.heap.size + 1 + 1, 0, none⟩ = some (.pointer (some ⟨bb, 0, none⟩)) ∧ wr.cell? ⟨W.heap.size + 1 + 1 + 1 + 1 + 1, 0, none⟩ = some (.pointer (some ⟨mm, 0, none⟩)) ∧ wr.cell? ⟨W.heap.size + 1 + 1, 1, none⟩ = some (.pointer (some ⟨bb1, 0, none⟩)) ∧ wr.cell? ⟨W.heap.size + 1 + 1 + 1 + 1 + 1, 1, none⟩ = some (.pointer (some ⟨mm1, 0, none⟩)) := ⟨x0, y0, x1, y1⟩
      have KB : Hid (∀ w', Below wr.heap.size wr w' → w'.cell? ⟨W.heap.size + 1 + 1, 0, none⟩ = some (.pointer (some ⟨bb, 0, none⟩)) ∧ w'.cell? ⟨W.heap.size + 1 + 1 + 1 + 1 + 1, 0, none⟩ = some (.pointer (some ⟨mm, 0, none⟩)) ∧ w'.cell? ⟨W.heap.size + 1 + 1, 1, none⟩ = some (.pointer (some ⟨bb1, 0, none⟩)) ∧ w'.cell? ⟨W.heap.size + 1 + 1 + 1 + 1 + 1, 1, none⟩ = some (.pointer (some ⟨mm1, 0, none⟩))) := Lib.hid (fun w' hb =>
        ⟨(hb.cell (p := ⟨W.heap.size + 1 + 1, 0, none⟩) (World.block_lt_of_cell? wr _ x0)).trans x0, (hb.cell (p := ⟨W.heap.size + 1 + 1 + 1 + 1 + 1, 0, none⟩) (World.block_lt_of_cell? wr _ y0)).trans y0, (hb.cell (p := ⟨W.heap.size + 1 + 1, 1, none⟩) (World.block_lt_of_cell? wr _ x1)).trans x1, (hb.cell (p := ⟨W.heap.size + 1 + 1 + 1 + 1 + 1, 1, none⟩) (World.block_lt_of_cell? wr _ y1)).trans y1⟩)
      have BX : Hid (Below wr.heap.size wr wr) := Lib.hid (Below.refl _ _)
      have HSH := Lib.hid hsh
      clear tl hp0 hp1 x0 y0 x1 y1 P0
      by_cases hkl : k = ts.length
      · have hx1 : ¬ (k : Int) < (ts.length : Int) := by omega
        clear hkl
        go_wp2_with fail
        go_region_held3 (fun w' => w'.cell? ⟨W.heap.size + 1 + 1, 0, none⟩ = some (.pointer (some ⟨bb, 0, none⟩)) ∧ w'.cell? ⟨W.heap.size + 1 + 1 + 1 + 1 + 1, 0, none⟩ = some (.pointer (some ⟨mm, 0, none⟩)) ∧ w'.cell? ⟨W.heap.size + 1 + 1, 1, none⟩ = some (.pointer (some ⟨bb1, 0, none⟩)) ∧ w'.cell? ⟨W.heap.size + 1 + 1 + 1 + 1 + 1, 1, none⟩ = some (.pointer (some ⟨mm1, 0, none⟩)))
          (first | exact KC | go_keep)
          (first
            | (go_at_call_of 26 (Value.pointer (some ⟨bb, 0, none⟩)); refine (CT0.out _ (BX.out.drew)).mono ?_; rintro er w3 ⟨rfl, hb⟩; have BX := Lib.hid (BX.out.drew.trans (hb.mono BX.out.size)); have KC := KB.out _ BX.out; clear hb)
            | (go_at_call_of 26 (Value.pointer (some ⟨bb1, 0, none⟩)); refine (CT1.out _ BX.out).mono ?_; rintro er w4 ⟨rfl, hb⟩; have BX := Lib.hid (BX.out.trans (hb.mono BX.out.size)); have KC := KB.out _ BX.out; clear hb)
            | (go_at_call 23; refine (wkRun.works_any HSH.out _ (BW.out.trans (BX.out.mono BW.out.size))).mono ?_; rintro er w5 ⟨rfl, hb⟩; have BX := Lib.hid (BX.out.trans (hb.mono BX.out.size)); have KC := KB.out _ BX.out; clear hb))
        clear KC
        go_wp2_with fail
        go_ret
        exact ⟨rfl, BW.out.trans (BX.out.mono BW.out.size)⟩
      · have hx1 : (k : Int) < (ts.length : Int) := by omega
        obtain rfl : k = 400 := by omega
        clear hkl
        go_wp2_with fail
        go_region_held3 (fun w' => w'.cell? ⟨W.heap.size + 1 + 1, 0, none⟩ = some (.pointer (some ⟨bb, 0, none⟩)) ∧ w'.cell? ⟨W.heap.size + 1 + 1 + 1 + 1 + 1, 0, none⟩ = some (.pointer (some ⟨mm, 0, none⟩)) ∧ w'.cell? ⟨W.heap.size + 1 + 1, 1, none⟩ = some (.pointer (some ⟨bb1, 0, none⟩)) ∧ w'.cell? ⟨W.heap.size + 1 + 1 + 1 + 1 + 1, 1, none⟩ = some (.pointer (some ⟨mm1, 0, none⟩)))
          (first | exact KC | go_keep)
          (first
            | (go_at_call_of 26 (Value.pointer (some ⟨bb, 0, none⟩)); refine (CT0.out _ (BX.out.drew)).mono ?_; rintro er w3 ⟨rfl, hb⟩; have BX := Lib.hid (BX.out.drew.trans (hb.mono BX.out.size)); have KC := KB.out _ BX.out; clear hb)
            | (go_at_call_of 26 (Value.pointer (some ⟨bb1, 0, none⟩)); refine (CT1.out _ BX.out).mono ?_; rintro er w4 ⟨rfl, hb⟩; have BX := Lib.hid (BX.out.trans (hb.mono BX.out.size)); have KC := KB.out _ BX.out; clear hb)
            | (go_at_call 23; refine (wkRun.works_any HSH.out _ (BW.out.trans (BX.out.mono BW.out.size))).mono ?_; rintro er w5 ⟨rfl, hb⟩; have BX := Lib.hid (BX.out.trans (hb.mono BX.out.size)); have KC := KB.out _ BX.out; clear hb))
        clear KC
        go_wp2_with fail
        go_ret
        exact ⟨rfl, BW.out.trans (BX.out.mono BW.out.size)⟩
end Go.Proofs.Ytpafbnmncioppaa
