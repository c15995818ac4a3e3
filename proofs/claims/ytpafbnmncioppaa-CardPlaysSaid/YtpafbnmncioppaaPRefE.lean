/- A card enters the document's registry. (Printed by tools/genrent.py.) -/
import Derived.Test.YtpafbnmncioppaaPRefD
import Derived.Deep.AppendLies
import Derived.Great.BuildSlice
import Derived.Deep.DeepCutAuto
namespace Go.Proofs.Ytpafbnmncioppaa
open Go.RowKit Go.ChangeShapes Nm Tx
/-- One of its rows of cards has grown by a card. -/
theorem CRow.grew {T : Nat → Prop} {w w4 w5 : World} {B : Nat} {v : Value} {cs : List Cd} {l : List (Cd × Value)} {c : Cd} {u : Value} {g2 cap2 : Nat}
    (h1 : l.map (·.1) = cs) (h2 : w4.ownsRow B 38 7 v l.length (ccells l)) (h3 : RowsOf w4 B l) (h4 : InT T v) (h5 : ∀ r ∈ l, InT T r.2) (hb : Below w.heap.size w w4) (hB : B ≤ w.heap.size)
    (hu : w4.ownsRow w.heap.size 9 1 u c.comp.length (sc c.comp)) (ho : w5.ownsRow B 38 7 (.slice (some ⟨g2, 0, none⟩) (l.length + 1) cap2) (l.length + 1) (ccells l ++ c.cells u)) (hg : w4.grownBy w5 v.ownBlock) (hat : v.ownBlock = some g2 ∨ g2 = w4.heap.size) (hlt : g2 < w5.heap.size) :
    CRow (TN T w w5) w5 B (.slice (some ⟨g2, 0, none⟩) (l.length + 1) cap2) (cs ++ [c]) := by
  refine ⟨l ++ [(c, u)], by simp [h1], ?_, ?_, ?_, ?_⟩
  · rw [ccells_append]
    simpa [ccells] using ho
  · intro r hr
    rcases List.mem_append.1 hr with hr | hr
    · exact (h3 r hr).kept hg (own_ne (h3 r hr) h2 (by decide))
    · rw [List.mem_singleton.1 hr]
      have hu' := own_base hu hB
      exact hu'.kept hg (own_ne hu' h2 (by decide))
  · intro g e
    simp only [Value.ownBlock, Option.some.injEq] at e
    subst e
    rcases hat with hat | hat
    · exact .inl (h4 _ hat)
    · exact .inr ⟨by have := hb.size; omega, hlt⟩
  · intro r hr g e
    rcases List.mem_append.1 hr with hr | hr
    · exact .inl (h5 r hr g e)
    · rw [List.mem_singleton.1 hr] at e
      have := hu.lt g e
      exact .inr ⟨this.1, Nat.lt_of_lt_of_le this.2 hg.size⟩
/-- A row that has not grown. -/
theorem CRow.beside {T : Nat → Prop} {w w4 w5 : World} {B : Nat} {v v2 : Value} {cs : List Cd} {l : List (Cd × Value)} (h : CRow T w4 B v2 cs) (h2 : w4.ownsRow B 38 7 v l.length (ccells l)) (hn : ∀ g, v.ownBlock = some g → v2.ownBlock ≠ some g) (hg : w4.grownBy w5 v.ownBlock) : CRow (TN T w w5) w5 B v2 cs := by
  obtain ⟨l2, e1, e2, e3, e4, e5⟩ := h
  have key : v.ownBlock = none ∨ v2.ownBlock ≠ v.ownBlock := by
    cases hv : v.ownBlock with
    | none => exact .inl rfl
    | some g => exact .inr (hn g hv)
  refine ⟨l2, e1, e2.kept hg ?_, fun r hr => (e3 r hr).kept hg (own_ne (e3 r hr) h2 (by decide)), fun g hh => .inl (e4 g hh), fun r hr g hh => .inl (e5 r hr g hh)⟩
  rcases key with key | key
  · cases hv2 : v2.ownBlock with
    | none => first | exact .inl rfl | exact .inr (by rw [key])
    | some g => exact .inr (by rw [key]; simp)
  · exact .inr key
theorem own_beside {w4 w5 : World} {B n : Nat} {v vn : Value} {l : List (Cd × Value)} {xs : List Value} (h : w4.ownsRow B 80 4 vn n xs) (h2 : w4.ownsRow B 38 7 v l.length (ccells l)) (hg : w4.grownBy w5 v.ownBlock) : w5.ownsRow B 80 4 vn n xs := h.kept hg (own_ne h h2 (by decide))
theorem kept_row {T : Nat → Prop} {w w4 w5 : World} {B : Nat} {v : Value} {l : List (Cd × Value)} (h2 : w4.ownsRow B 38 7 v l.length (ccells l)) (h4 : InT T v) (hT : ∀ k, T k → k < w.heap.size) (hb : Below w.heap.size w w4) (hg : w4.grownBy w5 v.ownBlock) : Kept (Own3 T w) w w5 := by
  refine ⟨hg.os.trans hb.os, hg.tape.trans hb.tape, hg.output.trans hb.output, Nat.le_trans hb.size hg.size, fun k hk hx => ?_⟩
  refine (hg.block k (Nat.lt_of_lt_of_le hk hb.size) (fun e => hx ?_)).trans (hb.block k hk)
  refine ⟨h4 k e.symm, ?_⟩
  rcases h2.2 with ⟨rfl, _⟩ | ⟨g, cap, cur, rfl, _, hc, _⟩
  · cases e
  · simp only [Value.ownBlock, Option.some.injEq] at e
    subst e
    exact ⟨_, _, _, (hb.block k hk).symm.trans hc, .inl rfl⟩
theorem addR {T : Nat → Prop} {B m : Nat} {cs rs : List Cd} {ns : List Nt} {w w4 w5 : World} {ac ar : Option Addr} {cc cr : Nat} {lc lr : List (Cd × Value)} {vn : Value} {c : Cd} {u : Value} {g2 cap2 : Nat}
    (hM : T m ∧ B ≤ m) (hH : Own3 T w m) (hB : B ≤ w.heap.size) (hT : ∀ k, T k → k < w.heap.size) (hmlt : m < w.heap.size) (m4 : w4.heap[m]? = some (.cells #[.slice ac lc.length cc, .slice ar lr.length cr, vn, .bool false] 58 (0, 0)))
    (hlc : lc.map (·.1) = cs) (c1 : w.ownsRow B 38 7 (.slice ac lc.length cc) lc.length (ccells lc)) (c2 : RowsOf w B lc) (c3 : InT T (.slice ac lc.length cc)) (c4 : ∀ r ∈ lc, InT T r.2)
    (hlr : lr.map (·.1) = rs) (r1 : w.ownsRow B 38 7 (.slice ar lr.length cr) lr.length (ccells lr)) (r2 : RowsOf w B lr) (r3 : InT T (.slice ar lr.length cr)) (r4 : ∀ r ∈ lr, InT T r.2)
    (n1 : w.ownsRow B 80 4 vn ns.length (nc ns)) (n2 : InT T vn) (n3 : ∀ g, (Value.slice ac lc.length cc).ownBlock = some g → (Value.slice ar lr.length cr).ownBlock ≠ some g) (hb : Below w.heap.size w w4)
    (hu : w4.ownsRow w.heap.size 9 1 u c.comp.length (sc c.comp)) (ho : w5.ownsRow B 38 7 (.slice (some ⟨g2, 0, none⟩) (lr.length + 1) cap2) (lr.length + 1) (ccells lr ++ c.cells u)) (hg : w4.grownBy w5 (Value.ownBlock (.slice ar lr.length cr))) (hat : Value.ownBlock (.slice ar lr.length cr) = some g2 ∨ g2 = w4.heap.size) (hlt : g2 < w5.heap.size) :
    w5.heap[m]? = some (.cells #[.slice ac lc.length cc, .slice ar lr.length cr, vn, .bool false] 58 (0, 0)) ∧ RReg (TN T w (w5.setCell ⟨m, 1, none⟩ (.slice (some ⟨g2, 0, none⟩) (lr.length + 1) cap2))) (w5.setCell ⟨m, 1, none⟩ (.slice (some ⟨g2, 0, none⟩) (lr.length + 1) cap2)) B m cs (rs ++ [c]) ns false ∧ Kept (Own3 T w) w (w5.setCell ⟨m, 1, none⟩ (.slice (some ⟨g2, 0, none⟩) (lr.length + 1) cap2)) := by
  have R4w : w4.ownsRow B 38 7 (.slice ar lr.length cr) lr.length (ccells lr) := own_below r1 hb
  have hm4 : m < w4.heap.size := Nat.lt_of_lt_of_le hmlt hb.size
  have m5 : w5.heap[m]? = some (.cells #[.slice ac lc.length cc, .slice ar lr.length cr, vn, .bool false] 58 (0, 0)) := (hg.block m hm4 (fun e => by
    rcases R4w.2 with ⟨e2, _⟩ | ⟨g, cap, cur, e2, _, hc, _⟩
    · rw [e2] at e; cases e
    · rw [e2] at e
      simp only [Value.ownBlock, Option.some.injEq] at e
      subst e
      rw [m4] at hc
      injection hc with hc
      injection hc with _ h2 _
      exact absurd h2 (by decide))).trans m4
  have GW := CRow.grew (T := T) (w := w) hlr R4w (r2.below hb) r3 r4 hb hB hu ho hg hat hlt
  have GB : CRow (TN T w w5) w5 B (.slice ac lc.length cc) cs := CRow.beside (T := T) (w := w) ⟨lc, hlc, own_below c1 hb, c2.below hb, c3, c4⟩ R4w (fun g e e2 => n3 g e2 e) hg
  have GN := own_beside (own_below n1 hb) R4w hg
  have KT := (kept_row (T := T) R4w r3 hT hb hg).trans (kept_setCell (Own3 T w) w5 m 1 (.slice (some ⟨g2, 0, none⟩) (lr.length + 1) cap2) hH)
  have hz : (w5.setCell ⟨m, 1, none⟩ (.slice (some ⟨g2, 0, none⟩) (lr.length + 1) cap2)).heap.size = w5.heap.size := by simp
  refine ⟨m5, RReg.mono (T := TN T w w5) ⟨⟨.inl hM.1, hM.2⟩, _, _, _, heap_setCell_same w5 m 1 _ _ _ m5, GB.setReg m5 _, GW.setReg m5 _, ⟨own_setReg GN (by decide) m5 _, fun g hg => .inl (n2 g hg)⟩, ?_⟩ (fun k hk => by
    rcases hk with hk | hk
    · exact .inl hk
    · exact .inr (by rw [hz]; exact hk)), KT⟩
  intro g e1 e2
  simp only [Value.ownBlock, Option.some.injEq] at e2
  subst e2
  rcases hat with hat | hat
  · exact n3 _ e1 hat
  · have := own_block_lt c1 e1
    have := hb.size
    omega
theorem addC {T : Nat → Prop} {B m : Nat} {cs rs : List Cd} {ns : List Nt} {w w4 w5 : World} {ac ar : Option Addr} {cc cr : Nat} {lc lr : List (Cd × Value)} {vn : Value} {c : Cd} {u : Value} {g2 cap2 : Nat}
    (hM : T m ∧ B ≤ m) (hH : Own3 T w m) (hB : B ≤ w.heap.size) (hT : ∀ k, T k → k < w.heap.size) (hmlt : m < w.heap.size) (m4 : w4.heap[m]? = some (.cells #[.slice ac lc.length cc, .slice ar lr.length cr, vn, .bool false] 58 (0, 0)))
    (hlc : lc.map (·.1) = cs) (c1 : w.ownsRow B 38 7 (.slice ac lc.length cc) lc.length (ccells lc)) (c2 : RowsOf w B lc) (c3 : InT T (.slice ac lc.length cc)) (c4 : ∀ r ∈ lc, InT T r.2)
    (hlr : lr.map (·.1) = rs) (r1 : w.ownsRow B 38 7 (.slice ar lr.length cr) lr.length (ccells lr)) (r2 : RowsOf w B lr) (r3 : InT T (.slice ar lr.length cr)) (r4 : ∀ r ∈ lr, InT T r.2)
    (n1 : w.ownsRow B 80 4 vn ns.length (nc ns)) (n2 : InT T vn) (n3 : ∀ g, (Value.slice ac lc.length cc).ownBlock = some g → (Value.slice ar lr.length cr).ownBlock ≠ some g) (hb : Below w.heap.size w w4)
    (hu : w4.ownsRow w.heap.size 9 1 u c.comp.length (sc c.comp)) (ho : w5.ownsRow B 38 7 (.slice (some ⟨g2, 0, none⟩) (lc.length + 1) cap2) (lc.length + 1) (ccells lc ++ c.cells u)) (hg : w4.grownBy w5 (Value.ownBlock (.slice ac lc.length cc))) (hat : Value.ownBlock (.slice ac lc.length cc) = some g2 ∨ g2 = w4.heap.size) (hlt : g2 < w5.heap.size) :
    w5.heap[m]? = some (.cells #[.slice ac lc.length cc, .slice ar lr.length cr, vn, .bool false] 58 (0, 0)) ∧ RReg (TN T w (w5.setCell ⟨m, 0, none⟩ (.slice (some ⟨g2, 0, none⟩) (lc.length + 1) cap2))) (w5.setCell ⟨m, 0, none⟩ (.slice (some ⟨g2, 0, none⟩) (lc.length + 1) cap2)) B m (cs ++ [c]) rs ns false ∧ Kept (Own3 T w) w (w5.setCell ⟨m, 0, none⟩ (.slice (some ⟨g2, 0, none⟩) (lc.length + 1) cap2)) := by
  have R4w : w4.ownsRow B 38 7 (.slice ac lc.length cc) lc.length (ccells lc) := own_below c1 hb
  have hm4 : m < w4.heap.size := Nat.lt_of_lt_of_le hmlt hb.size
  have m5 : w5.heap[m]? = some (.cells #[.slice ac lc.length cc, .slice ar lr.length cr, vn, .bool false] 58 (0, 0)) := (hg.block m hm4 (fun e => by
    rcases R4w.2 with ⟨e2, _⟩ | ⟨g, cap, cur, e2, _, hc, _⟩
    · rw [e2] at e; cases e
    · rw [e2] at e
      simp only [Value.ownBlock, Option.some.injEq] at e
      subst e
      rw [m4] at hc
      injection hc with hc
      injection hc with _ h2 _
      exact absurd h2 (by decide))).trans m4
  have GW := CRow.grew (T := T) (w := w) hlc R4w (c2.below hb) c3 c4 hb hB hu ho hg hat hlt
  have GB : CRow (TN T w w5) w5 B (.slice ar lr.length cr) rs := CRow.beside (T := T) (w := w) ⟨lr, hlr, own_below r1 hb, r2.below hb, r3, r4⟩ R4w n3 hg
  have GN := own_beside (own_below n1 hb) R4w hg
  have KT := (kept_row (T := T) R4w c3 hT hb hg).trans (kept_setCell (Own3 T w) w5 m 0 (.slice (some ⟨g2, 0, none⟩) (lc.length + 1) cap2) hH)
  have hz : (w5.setCell ⟨m, 0, none⟩ (.slice (some ⟨g2, 0, none⟩) (lc.length + 1) cap2)).heap.size = w5.heap.size := by simp
  refine ⟨m5, RReg.mono (T := TN T w w5) ⟨⟨.inl hM.1, hM.2⟩, _, _, _, heap_setCell_same w5 m 0 _ _ _ m5, GW.setReg m5 _, GB.setReg m5 _, ⟨own_setReg GN (by decide) m5 _, fun g hg => .inl (n2 g hg)⟩, ?_⟩ (fun k hk => by
    rcases hk with hk | hk
    · exact .inl hk
    · exact .inr (by rw [hz]; exact hk)), KT⟩
  intro g e1 e2
  simp only [Value.ownBlock, Option.some.injEq] at e1
  subst e1
  rcases hat with hat | hat
  · exact n3 _ hat e2
  · have := own_block_lt r1 e2
    have := hb.size
    omega
theorem build_one (n f q : ByteArray) (l s e : Int) (a : Option Addr) (k c : Nat) (w : World) : (Instr.buildSlice 33 1 #[(0, .agg #[.string n, .string f, .int .u8 l, .slice a k c, .int .i8 s, .string q, .int .i16 e])]).run Try.prog w = .ok (.slice (some ⟨w.heap.size, 0, none⟩) 1 1) (w.alloc (.cells #[.string n, .string f, .int .u8 l, .slice a k c, .int .i8 s, .string q, .int .i16 e] 38)) := by
  go_simp
theorem wp_build_one {o : Oper} {ac : Act} {w : World} {K : Act → World → Prop} {Q : Exit → Act → World → Prop} (x : Operand) (ho : o.op = .buildSlice 33 1 #[(0, x)]) (n f q : ByteArray) (l s e : Int) (a : Option Addr) (k c : Nat) (hx : ac.eval x = .agg #[.string n, .string f, .int .u8 l, .slice a k c, .int .i8 s, .string q, .int .i16 e])
    (h : K (ac.put o.dst (.slice (some ⟨w.heap.size, 0, none⟩) 1 1)) (w.alloc (.cells #[.string n, .string f, .int .u8 l, .slice a k c, .int .i8 s, .string q, .int .i16 e] 38))) : o.wp Try.prog ac w K Q := by
  unfold Oper.wp execOp
  simp only [ho, Sem.run_bind, List.map_toArray, List.map_cons, List.map_nil, hx, build_one, Result.andThen_ok]
  exact h
theorem infoC2 : (Try.prog.info? 38).map (fun i => (i.zero, i.size, i.bytes)) = some (some (.agg #[.string .empty, .string .empty, .int .u8 0, .slice none 0 0, .int .i8 0, .string .empty, .int .i16 0]), 7, 96) := by kernel_rfl
set_option maxHeartbeats 16000000 in
set_option maxRecDepth 100000 in
theorem renter_any (T : Nat → Prop) (B m : Nat) (cs rs : List Cd) (ns : List Nt) (fz : Bool) (n f q : ByteArray) (l s e : Int) (ss : List ByteArray) (sl : Value) (w : World) (h : RReg T w B m cs rs ns fz) (hB : B ≤ w.heap.size) (hT : ∀ k, T k → k < w.heap.size) (hc64 : cs.length ≤ 64) (hr64 : rs.length ≤ 64) (hml : ∀ c ∈ cs, c.comp.length ≤ 8796093022208) (hs : Strs w sl ss) (hn : ss.length ≤ 8796093022208) (hok : Cd.ok ⟨n, f, l, ss, s, q, e⟩) :
    Calls Try.prog 42 #[.pointer (some ⟨m, 0, none⟩), .agg #[.string n, .string f, .int .u8 l, sl, .int .i8 s, .string q, .int .i16 e]] w (Doc T w B m (entA cs rs fz ⟨n, f, l, ss, s, q, e⟩) (entC cs rs fz ⟨n, f, l, ss, s, q, e⟩) (entR cs rs fz ⟨n, f, l, ss, s, q, e⟩) ns fz) := by
  obtain ⟨ir, hi, hz0, hz1, hz2⟩ := info_parts infoC2
  have HH := Lib.hid h
  obtain ⟨h0, vc, vr, vn, h1, h2, h3, ⟨h4, h5⟩, h6⟩ := h
  obtain ⟨lc, hlc, hc1, hc2, hc3, hc4⟩ := h2
  obtain ⟨lr, hlr, hr1, hr2, hr3, hr4⟩ := h3
  obtain ⟨ac, cc, rfl⟩ := own_slice hc1
  obtain ⟨ar, cr, rfl⟩ := own_slice hr1
  have b1 : Below w.heap.size w (w.alloc (.cells #[.string n, .string f, .int .u8 l, sl, .int .i8 s, .string q, .int .i16 e] 38)) := (Below.refl _ w).alloc (Nat.le_refl _) _
  have z1 : (w.alloc (.cells #[.string n, .string f, .int .u8 l, sl, .int .i8 s, .string q, .int .i16 e] 38)).heap.size = w.heap.size + 1 := by simp
  have B1 := Lib.hid b1
  have Z1 := Lib.hid z1
  have HB := Lib.hid hB
  have HT := Lib.hid hT
  have HLC := Lib.hid hlc
  have HLR := Lib.hid hlr
  have hlcl : lc.length ≤ 64 := by rw [← List.length_map (f := (·.1)), hlc]; exact hc64
  have hlrl : lr.length ≤ 64 := by rw [← List.length_map (f := (·.1)), hlr]; exact hr64
  have HS := Lib.hid hs
  have M0 := Lib.hid h1
  have HM := Lib.hid h0
  have C1 := Lib.hid hc1
  have C2 := Lib.hid hc2
  have C3 := Lib.hid hc3
  have C4 := Lib.hid hc4
  have R1 := Lib.hid hr1
  have R2 := Lib.hid hr2
  have R3 := Lib.hid hr3
  have R4 := Lib.hid hr4
  have N1 := Lib.hid h4
  have N2 := Lib.hid h5
  have N3 := Lib.hid h6
  have hmlt : m < w.heap.size := (Array.getElem?_eq_some_iff.1 h1).1
  have HML := Lib.hid hmlt
  have CELL : Hid (∀ w', Below w.heap.size w w' → w'.heap[m]? = some (.cells #[.slice ac lc.length cc, .slice ar lr.length cr, vn, .bool fz] 58 (0, 0))) := Lib.hid (fun w' hb => (hb.block m hmlt).trans h1)
  have CAT : Hid (∀ w', Below w.heap.size w w' → CardsAt w' (.slice ac lc.length cc) cs) := Lib.hid (fun w' hb => CRow.cards (T := T) (B := B) ⟨lc, hlc, own_below hc1 hb, hc2.below hb, hc3, hc4⟩ hc64 hml)
  have SAME : Hid (∀ w', Below w.heap.size w w' → RReg (TN T w w') w' B m cs rs ns fz ∧ Kept (Own3 T w) w w') := Lib.hid (fun w' hb => ⟨(HH.out.below hb).mono (fun k hk => .inl hk), Kept.below hb⟩)
  have CM := rmay_walk n f q l s e ss sl _ (hs.below b1) hok
  have c3 : (w.alloc (.cells #[.string n, .string f, .int .u8 l, sl, .int .i8 s, .string q, .int .i16 e] 38)).cell? ⟨m, 3, none⟩ = some (.bool fz) := (cell_of_row _ m 3 _ _ _ (CELL.out _ b1)).trans rfl
  clear h0 h1 hc1 hc2 hc3 hc4 hr1 hr2 hr3 hr4 h4 h5 h6 hlc hlr hs b1 z1 hmlt hB hT hml
  cases fz with
  | true =>
    simp only [entA, entC, entR, if_true]
    clear CM
    go_enter Try.func42, Try.ntmps42
    go_wp2_with fail
    go_ret
    exact ⟨rfl, (SAME.out _ B1.out).1, (SAME.out _ B1.out).2⟩
  | false =>
    by_cases hm : mayB ⟨n, f, l, ss, s, q, e⟩ = true
    · rw [hm] at CM
      have HMY := Lib.hid hm
      have CM := Lib.hid CM
      clear hm
      go_enter Try.func42, Try.ntmps42
      go_wp2_with fail
      refine CM.out.mono ?_
      rintro er w1 ⟨rfl, hb⟩
      rw [Z1.out] at hb
      have B2 := Lib.hid (B1.out.trans (hb.mono (by omega)))
      have K1 := Lib.hid (box_cells hb)
      have X1 := Lib.hid hb
      clear hb c3 CM
      go_upto_region 5 with fail
      go_cut [18] (fun t wx => t = .bool (namedB cs n) ∧ Hid (Below w.heap.size w wx ∧ Below (w.heap.size + 1) (w.alloc (.cells #[.string n, .string f, .int .u8 l, sl, .int .i8 s, .string q, .int .i16 e] 38)) wx))
      case first => as_aux_lemma => --ok
        have c0 : w1.cell? ⟨m, 0, none⟩ = some (.slice ac lc.length cc) := (cell_of_row _ m 0 _ _ _ (CELL.out _ B2.out)).trans rfl
        obtain ⟨k0, _⟩ := K1.out
        have CN := Lib.hid (fun w' hb => named_any (.slice ac lc.length cc) cs n w' (CAT.out w' hb))
        have B3 := Lib.hid (B2.out.drew)
        refine wp_region_any (by kernel_rfl) ?_
        refine wpAny_take (i := 0) (v := ?_) rfl (by kernel_rfl) (by kernel_rfl) (by kernel_rfl) (fun _ _ _ h => h) (Or.inl ⟨by kernel_rfl, ?_⟩) ?_
        rotate_left
        · intro w
          go_simp
          try with_reducible rfl
        simp only [Act.put, List.getElem_toArray, List.getElem_cons_zero, List.getElem_cons_succ, List.setIfInBounds_toArray, List.set_cons_zero, List.set_cons_succ]
        refine wpAny_take (i := 1) (v := ?_) rfl (by kernel_rfl) (by kernel_rfl) (by kernel_rfl) (fun _ _ _ h => h) (Or.inl ⟨by kernel_rfl, ?_⟩) ?_
        rotate_left
        · intro w
          go_simp
          try with_reducible rfl
        simp only [Act.put, List.getElem_toArray, List.getElem_cons_zero, List.getElem_cons_succ, List.setIfInBounds_toArray, List.set_cons_zero, List.set_cons_succ]
        refine wpAny_take (i := 2) (v := ?_) rfl (by kernel_rfl) (by kernel_rfl) (by kernel_rfl) (fun _ _ _ h => h) (Or.inl ⟨by kernel_rfl, ?_⟩) ?_
        rotate_left
        · intro w
          go_simp
          try with_reducible rfl
        simp only [Act.put, List.getElem_toArray, List.getElem_cons_zero, List.getElem_cons_succ, List.setIfInBounds_toArray, List.set_cons_zero, List.set_cons_succ]
        refine wpAny_take (i := 4) (v := ?_) rfl (by kernel_rfl) (by kernel_rfl) (by kernel_rfl) (fun _ _ _ h => h) (Or.inl ⟨by kernel_rfl, ?_⟩) ?_
        rotate_left
        · intro w
          go_simp
          try with_reducible rfl
        simp only [Act.put, List.getElem_toArray, List.getElem_cons_zero, List.getElem_cons_succ, List.setIfInBounds_toArray, List.set_cons_zero, List.set_cons_succ]
        refine wpAny_ready (rs := [3, 5]) (by kernel_rfl) (by simp) (AllReady.cons rfl (fun K hK => ?_) (AllReady.cons rfl (fun K hK => ?_) AllReady.nil))
        · go_simp
          refine hK _ _ ?_
          clear hK K
          try simp only [Act.put, List.setIfInBounds_toArray, List.set_cons_zero, List.set_cons_succ]
          refine wpAny_ready (rs := [5]) (by kernel_rfl) (by simp) (AllReady.cons rfl (fun K hK => ?_) AllReady.nil)
          go_simp
          refine hK _ _ ?_
          clear hK K
          try simp only [Act.put, List.setIfInBounds_toArray, List.set_cons_zero, List.set_cons_succ]
          refine wpAny_ready (rs := [6]) (by kernel_rfl) (by simp) (AllReady.cons rfl (fun K hK => ?_) AllReady.nil)
          go_simp
          refine (CN.out _ B3.out).mono ?_
          rintro er w2 ⟨rfl, rfl⟩
          go_simp
          refine hK _ _ ?_
          clear hK K
          try simp only [Act.put, List.setIfInBounds_toArray, List.set_cons_zero, List.set_cons_succ]
          refine wpAny_done (by kernel_rfl) ?_ _
          go_wp2_with fail
          go_meet
          exact ⟨rfl, Lib.hid ⟨B3.out, X1.out.drew⟩⟩
        · go_simp
          refine hK _ _ ?_
          clear hK K
          try simp only [Act.put, List.setIfInBounds_toArray, List.set_cons_zero, List.set_cons_succ]
          refine wpAny_ready (rs := [3]) (by kernel_rfl) (by simp) (AllReady.cons rfl (fun K hK => ?_) AllReady.nil)
          go_simp
          refine hK _ _ ?_
          clear hK K
          try simp only [Act.put, List.setIfInBounds_toArray, List.set_cons_zero, List.set_cons_succ]
          refine wpAny_ready (rs := [6]) (by kernel_rfl) (by simp) (AllReady.cons rfl (fun K hK => ?_) AllReady.nil)
          go_simp
          refine (CN.out _ B3.out).mono ?_
          rintro er w2 ⟨rfl, rfl⟩
          go_simp
          refine hK _ _ ?_
          clear hK K
          try simp only [Act.put, List.setIfInBounds_toArray, List.set_cons_zero, List.set_cons_succ]
          refine wpAny_done (by kernel_rfl) ?_ _
          go_wp2_with fail
          go_meet
          exact ⟨rfl, Lib.hid ⟨B3.out, X1.out.drew⟩⟩
      case rest =>
        obtain ⟨rfl, hcut⟩ := hcut
        clear B2 K1 X1
        have B2 := Lib.hid hcut.out.1
        have X1 := Lib.hid hcut.out.2
        clear hcut
        obtain ⟨wb, rfl⟩ : ∃ ww : World, ww = wc := ⟨_, rfl⟩
        by_cases ht : namedB cs n = true
        · rw [ht]
          have HN := Lib.hid ht
          clear ht
          have c1 : wb.cell? ⟨m, 1, none⟩ = some (.slice ar lr.length cr) := (cell_of_row _ m 1 _ _ _ (CELL.out _ B2.out)).trans rfl
          by_cases hf : lr.length < 64
          · have d1 : decide ((lr.length : Int) ≥ 64) = false := decide_eq_false (by omega)
            have HE : Hid (entA cs rs false ⟨n, f, l, ss, s, q, e⟩ = 71) := Lib.hid (by
              have : ¬ 64 ≤ rs.length := by rw [← HLR.out, List.length_map]; omega
              simp only [entA, HMY.out, HN.out, this, if_true, Bool.false_eq_true, if_false])
            go_upto_region 8 with fail
            go_cut [] (fun wx => Hid (RReg (TN T w wx) wx B m cs (rs ++ [⟨n, f, l, ss, s, q, e⟩]) ns false ∧ Kept (Own3 T w) w wx))
            case first => as_aux_lemma => --ok
              obtain ⟨k0, k1, k2, k3, k4, k5, k6⟩ := box_cells X1.out
              have B3 := Lib.hid (B2.out.drew)
              have HS3 := Lib.hid (HS.out.below B3.out)
              refine wp_region_any (by kernel_rfl) ?_
              refine wpAny_take (i := 0) (v := ?_) rfl (by kernel_rfl) (by kernel_rfl) (by kernel_rfl) (fun _ _ _ h => h) (Or.inl ⟨by kernel_rfl, ?_⟩) ?_
              rotate_left
              · intro w
                go_simp
                try with_reducible rfl
              simp only [Act.put, List.getElem_toArray, List.getElem_cons_zero, List.getElem_cons_succ, List.setIfInBounds_toArray, List.set_cons_zero, List.set_cons_succ]
              refine wpAny_take (i := 1) (v := ?_) rfl (by kernel_rfl) (by kernel_rfl) (by kernel_rfl) (fun _ _ _ h => h) (Or.inl ⟨by kernel_rfl, ?_⟩) ?_
              rotate_left
              · intro w
                go_simp
                try with_reducible rfl
              simp only [Act.put, List.getElem_toArray, List.getElem_cons_zero, List.getElem_cons_succ, List.setIfInBounds_toArray, List.set_cons_zero, List.set_cons_succ]
              refine wpAny_take (i := 2) (v := ?_) rfl (by kernel_rfl) (by kernel_rfl) (by kernel_rfl) (fun _ _ _ h => h) (Or.inl ⟨by kernel_rfl, ?_⟩) ?_
              rotate_left
              · intro w
                go_simp
                try with_reducible rfl
              simp only [Act.put, List.getElem_toArray, List.getElem_cons_zero, List.getElem_cons_succ, List.setIfInBounds_toArray, List.set_cons_zero, List.set_cons_succ]
              refine wpAny_take (i := 3) (v := ?_) rfl (by kernel_rfl) (by kernel_rfl) (by kernel_rfl) (fun _ _ _ h => h) (Or.inl ⟨by kernel_rfl, ?_⟩) ?_
              rotate_left
              · intro w
                go_simp
                try with_reducible rfl
              simp only [Act.put, List.getElem_toArray, List.getElem_cons_zero, List.getElem_cons_succ, List.setIfInBounds_toArray, List.set_cons_zero, List.set_cons_succ]
              refine wpAny_ready (rs := [4, 5]) (by kernel_rfl) (by simp) (AllReady.cons rfl (fun K hK => ?_) (AllReady.cons rfl (fun K hK => ?_) AllReady.nil))
              · skip
                go_simp
                refine hK _ _ ?_
                clear hK K
                try simp only [Act.put, List.setIfInBounds_toArray, List.set_cons_zero, List.set_cons_succ]
                refine wpAny_ready (rs := [5]) (by kernel_rfl) (by simp) (AllReady.cons rfl (fun K hK => ?_) AllReady.nil)
                go_simp
                refine hK _ _ ?_
                clear hK K
                try simp only [Act.put, List.setIfInBounds_toArray, List.set_cons_zero, List.set_cons_succ]
                refine wpAny_ready (rs := [6]) (by kernel_rfl) (by simp) (AllReady.cons rfl (fun K hK => ?_) AllReady.nil)
                go_simp
                refine (twin_walk n f q l s e ss sl _ HS3.out hn).mono ?_
                rintro er w3 ⟨gt, ct, rfl, hown, hb3⟩
                simp only [Cd.cells]
                simp only at hown
                have B4 := Lib.hid (B3.out.trans (hb3.mono B3.out.size))
                have TX := Lib.hid (own_base hown B3.out.size)
                have cz : w3.cell? ⟨m, 1, none⟩ = some (.slice ar lr.length cr) := (cell_of_row _ m 1 _ _ _ (CELL.out _ B4.out)).trans rfl
                clear hown hb3
                go_simp
                refine hK _ _ ?_
                clear hK K
                try simp only [Act.put, List.setIfInBounds_toArray, List.set_cons_zero, List.set_cons_succ]
                refine wpAny_ready (rs := [7]) (by kernel_rfl) (by simp) (Go.BigFrame.allReady_want rfl (by kernel_rfl) (fun K hK => ?_) AllReady.nil)
                refine wp_build_one (.tmp 31) (by kernel_rfl) n f q l s e (some ⟨gt, 0, none⟩) ss.length ct (by kernel_rfl) ?_
                refine hK _ _ ?_
                clear hK K
                try simp only [Act.put, List.setIfInBounds_toArray, List.set_cons_zero, List.set_cons_succ]
                have B5 := Lib.hid (B4.out.alloc B4.out.size (.cells #[.string n, .string f, .int .u8 l, .slice (some ⟨gt, 0, none⟩) ss.length ct, .int .i8 s, .string q, .int .i16 e] 38))
                have cy : (w3.alloc (.cells #[.string n, .string f, .int .u8 l, .slice (some ⟨gt, 0, none⟩) ss.length ct, .int .i8 s, .string q, .int .i16 e] 38)).cell? ⟨m, 1, none⟩ = some (.slice ar lr.length cr) := (cell_of_row _ m 1 _ _ _ (CELL.out _ B5.out)).trans rfl
                refine wpAny_ready (rs := [8]) (by kernel_rfl) (by simp) (AllReady.cons rfl (fun K hK => ?_) AllReady.nil)
                have OW4 := Lib.hid (own_below R1.out B5.out)
                refine step_append_lies _ (by rfl) (.tmp 29) (.tmp 32) 33 (by rfl) B 38 ir _ 7 96 Try.underlying33 hi hz0 hz1 hz2 rfl (by omega) (.slice ar lr.length cr) lr.length (ccells lr) (by kernel_rfl) OW4.out ⟨w3.heap.size, 0, none⟩ 1 1 [.string n, .string f, .int .u8 l, .slice (some ⟨gt, 0, none⟩) ss.length ct, .int .i8 s, .string q, .int .i16 e] (by kernel_rfl) (by rfl) (World.news_of_block (cs := #[.string n, .string f, .int .u8 l, .slice (some ⟨gt, 0, none⟩) ss.length ct, .int .i8 s, .string q, .int .i16 e]) (t := 38) (fr := (0, 0)) (heap_alloc_new w3 _)) (by simp [Value.oneCell']) (by omega) (by unfold maxLen; omega) (by omega) (by have := HB.out; have := B4.out.size; simp; omega) (w3.heap.size + 1) (by simp) ?_
                intro g2 cap2 w5 hown2 hgrow2 hat2 hlt2
                have FIN := Lib.hid (addR (c := ⟨n, f, l, ss, s, q, e⟩) HM.out (reg_at HH.out) HB.out HT.out HML.out (CELL.out _ B5.out) HLC.out C1.out C2.out C3.out C4.out HLR.out R1.out R2.out R3.out R4.out N1.out N2.out N3.out B5.out (TX.out.alloc _) hown2 hgrow2 (hat2.imp id (fun e => by rw [e]; simp)) hlt2)
                have x5 : w5.cell? ⟨m, 1, none⟩ = some (.slice ar lr.length cr) := (cell_of_row _ m 1 _ _ _ FIN.out.1).trans rfl
                have f5 := frozen_of_row w5 m 1 _ _ FIN.out.1
                clear hown2 hgrow2 hat2 hlt2
                refine hK _ _ ?_
                clear hK K
                try simp only [Act.put, List.setIfInBounds_toArray, List.set_cons_zero, List.set_cons_succ]
                refine wpAny_take (i := 9) (v := ?_) rfl (by kernel_rfl) (by kernel_rfl) (by kernel_rfl) (fun _ _ _ h => h) (Or.inl ⟨by kernel_rfl, ?_⟩) ?_
                rotate_left
                · intro w
                  go_simp
                  try with_reducible rfl
                simp only [Act.put, List.getElem_toArray, List.getElem_cons_zero, List.getElem_cons_succ, List.setIfInBounds_toArray, List.set_cons_zero, List.set_cons_succ]
                refine wpAny_take (i := 10) (v := ?_) rfl (by kernel_rfl) (by kernel_rfl) (by kernel_rfl) (fun _ _ _ h => h) (Or.inl ⟨by kernel_rfl, ?_⟩) ?_
                rotate_left
                · intro w
                  go_simp
                  try with_reducible rfl
                simp only [Act.put, List.getElem_toArray, List.getElem_cons_zero, List.getElem_cons_succ, List.setIfInBounds_toArray, List.set_cons_zero, List.set_cons_succ]
                refine wpAny_ready (rs := [11]) (by kernel_rfl) (by simp) (AllReady.cons rfl (fun K hK => ?_) AllReady.nil)
                go_simp
                refine hK _ _ ?_
                clear hK K
                try simp only [Act.put, List.setIfInBounds_toArray, List.set_cons_zero, List.set_cons_succ]
                refine wpAny_done (by kernel_rfl) ?_ _
                go_wp2_with fail
                go_meet
                exact Lib.hid ⟨FIN.out.2.1, FIN.out.2.2⟩
              · skip
                go_simp
                refine hK _ _ ?_
                clear hK K
                try simp only [Act.put, List.setIfInBounds_toArray, List.set_cons_zero, List.set_cons_succ]
                refine wpAny_ready (rs := [4, 6]) (by kernel_rfl) (by simp) (AllReady.cons rfl (fun K hK => ?_) (AllReady.cons rfl (fun K hK => ?_) AllReady.nil))
                · skip
                  go_simp
                  refine hK _ _ ?_
                  clear hK K
                  try simp only [Act.put, List.setIfInBounds_toArray, List.set_cons_zero, List.set_cons_succ]
                  refine wpAny_ready (rs := [6]) (by kernel_rfl) (by simp) (AllReady.cons rfl (fun K hK => ?_) AllReady.nil)
                  go_simp
                  refine (twin_walk n f q l s e ss sl _ HS3.out hn).mono ?_
                  rintro er w3 ⟨gt, ct, rfl, hown, hb3⟩
                  simp only [Cd.cells]
                  simp only at hown
                  have B4 := Lib.hid (B3.out.trans (hb3.mono B3.out.size))
                  have TX := Lib.hid (own_base hown B3.out.size)
                  have cz : w3.cell? ⟨m, 1, none⟩ = some (.slice ar lr.length cr) := (cell_of_row _ m 1 _ _ _ (CELL.out _ B4.out)).trans rfl
                  clear hown hb3
                  go_simp
                  refine hK _ _ ?_
                  clear hK K
                  try simp only [Act.put, List.setIfInBounds_toArray, List.set_cons_zero, List.set_cons_succ]
                  refine wpAny_ready (rs := [7]) (by kernel_rfl) (by simp) (Go.BigFrame.allReady_want rfl (by kernel_rfl) (fun K hK => ?_) AllReady.nil)
                  refine wp_build_one (.tmp 31) (by kernel_rfl) n f q l s e (some ⟨gt, 0, none⟩) ss.length ct (by kernel_rfl) ?_
                  refine hK _ _ ?_
                  clear hK K
                  try simp only [Act.put, List.setIfInBounds_toArray, List.set_cons_zero, List.set_cons_succ]
                  have B5 := Lib.hid (B4.out.alloc B4.out.size (.cells #[.string n, .string f, .int .u8 l, .slice (some ⟨gt, 0, none⟩) ss.length ct, .int .i8 s, .string q, .int .i16 e] 38))
                  have cy : (w3.alloc (.cells #[.string n, .string f, .int .u8 l, .slice (some ⟨gt, 0, none⟩) ss.length ct, .int .i8 s, .string q, .int .i16 e] 38)).cell? ⟨m, 1, none⟩ = some (.slice ar lr.length cr) := (cell_of_row _ m 1 _ _ _ (CELL.out _ B5.out)).trans rfl
                  refine wpAny_ready (rs := [8]) (by kernel_rfl) (by simp) (AllReady.cons rfl (fun K hK => ?_) AllReady.nil)
                  have OW4 := Lib.hid (own_below R1.out B5.out)
                  refine step_append_lies _ (by rfl) (.tmp 29) (.tmp 32) 33 (by rfl) B 38 ir _ 7 96 Try.underlying33 hi hz0 hz1 hz2 rfl (by omega) (.slice ar lr.length cr) lr.length (ccells lr) (by kernel_rfl) OW4.out ⟨w3.heap.size, 0, none⟩ 1 1 [.string n, .string f, .int .u8 l, .slice (some ⟨gt, 0, none⟩) ss.length ct, .int .i8 s, .string q, .int .i16 e] (by kernel_rfl) (by rfl) (World.news_of_block (cs := #[.string n, .string f, .int .u8 l, .slice (some ⟨gt, 0, none⟩) ss.length ct, .int .i8 s, .string q, .int .i16 e]) (t := 38) (fr := (0, 0)) (heap_alloc_new w3 _)) (by simp [Value.oneCell']) (by omega) (by unfold maxLen; omega) (by omega) (by have := HB.out; have := B4.out.size; simp; omega) (w3.heap.size + 1) (by simp) ?_
                  intro g2 cap2 w5 hown2 hgrow2 hat2 hlt2
                  have FIN := Lib.hid (addR (c := ⟨n, f, l, ss, s, q, e⟩) HM.out (reg_at HH.out) HB.out HT.out HML.out (CELL.out _ B5.out) HLC.out C1.out C2.out C3.out C4.out HLR.out R1.out R2.out R3.out R4.out N1.out N2.out N3.out B5.out (TX.out.alloc _) hown2 hgrow2 (hat2.imp id (fun e => by rw [e]; simp)) hlt2)
                  have x5 : w5.cell? ⟨m, 1, none⟩ = some (.slice ar lr.length cr) := (cell_of_row _ m 1 _ _ _ FIN.out.1).trans rfl
                  have f5 := frozen_of_row w5 m 1 _ _ FIN.out.1
                  clear hown2 hgrow2 hat2 hlt2
                  refine hK _ _ ?_
                  clear hK K
                  try simp only [Act.put, List.setIfInBounds_toArray, List.set_cons_zero, List.set_cons_succ]
                  refine wpAny_take (i := 9) (v := ?_) rfl (by kernel_rfl) (by kernel_rfl) (by kernel_rfl) (fun _ _ _ h => h) (Or.inl ⟨by kernel_rfl, ?_⟩) ?_
                  rotate_left
                  · intro w
                    go_simp
                    try with_reducible rfl
                  simp only [Act.put, List.getElem_toArray, List.getElem_cons_zero, List.getElem_cons_succ, List.setIfInBounds_toArray, List.set_cons_zero, List.set_cons_succ]
                  refine wpAny_take (i := 10) (v := ?_) rfl (by kernel_rfl) (by kernel_rfl) (by kernel_rfl) (fun _ _ _ h => h) (Or.inl ⟨by kernel_rfl, ?_⟩) ?_
                  rotate_left
                  · intro w
                    go_simp
                    try with_reducible rfl
                  simp only [Act.put, List.getElem_toArray, List.getElem_cons_zero, List.getElem_cons_succ, List.setIfInBounds_toArray, List.set_cons_zero, List.set_cons_succ]
                  refine wpAny_ready (rs := [11]) (by kernel_rfl) (by simp) (AllReady.cons rfl (fun K hK => ?_) AllReady.nil)
                  go_simp
                  refine hK _ _ ?_
                  clear hK K
                  try simp only [Act.put, List.setIfInBounds_toArray, List.set_cons_zero, List.set_cons_succ]
                  refine wpAny_done (by kernel_rfl) ?_ _
                  go_wp2_with fail
                  go_meet
                  exact Lib.hid ⟨FIN.out.2.1, FIN.out.2.2⟩
                · skip
                  go_simp
                  refine (twin_walk n f q l s e ss sl _ HS3.out hn).mono ?_
                  rintro er w3 ⟨gt, ct, rfl, hown, hb3⟩
                  simp only [Cd.cells]
                  simp only at hown
                  have B4 := Lib.hid (B3.out.trans (hb3.mono B3.out.size))
                  have TX := Lib.hid (own_base hown B3.out.size)
                  have cz : w3.cell? ⟨m, 1, none⟩ = some (.slice ar lr.length cr) := (cell_of_row _ m 1 _ _ _ (CELL.out _ B4.out)).trans rfl
                  clear hown hb3
                  go_simp
                  refine hK _ _ ?_
                  clear hK K
                  try simp only [Act.put, List.setIfInBounds_toArray, List.set_cons_zero, List.set_cons_succ]
                  refine wpAny_ready (rs := [4, 7]) (by kernel_rfl) (by simp) (AllReady.cons rfl (fun K hK => ?_) (Go.BigFrame.allReady_want rfl (by kernel_rfl) (fun K hK => ?_) AllReady.nil))
                  · skip
                    go_simp
                    refine hK _ _ ?_
                    clear hK K
                    try simp only [Act.put, List.setIfInBounds_toArray, List.set_cons_zero, List.set_cons_succ]
                    refine wpAny_ready (rs := [7]) (by kernel_rfl) (by simp) (Go.BigFrame.allReady_want rfl (by kernel_rfl) (fun K hK => ?_) AllReady.nil)
                    refine wp_build_one (.tmp 31) (by kernel_rfl) n f q l s e (some ⟨gt, 0, none⟩) ss.length ct (by kernel_rfl) ?_
                    refine hK _ _ ?_
                    clear hK K
                    try simp only [Act.put, List.setIfInBounds_toArray, List.set_cons_zero, List.set_cons_succ]
                    have B5 := Lib.hid (B4.out.alloc B4.out.size (.cells #[.string n, .string f, .int .u8 l, .slice (some ⟨gt, 0, none⟩) ss.length ct, .int .i8 s, .string q, .int .i16 e] 38))
                    have cy : (w3.alloc (.cells #[.string n, .string f, .int .u8 l, .slice (some ⟨gt, 0, none⟩) ss.length ct, .int .i8 s, .string q, .int .i16 e] 38)).cell? ⟨m, 1, none⟩ = some (.slice ar lr.length cr) := (cell_of_row _ m 1 _ _ _ (CELL.out _ B5.out)).trans rfl
                    refine wpAny_ready (rs := [8]) (by kernel_rfl) (by simp) (AllReady.cons rfl (fun K hK => ?_) AllReady.nil)
                    have OW4 := Lib.hid (own_below R1.out B5.out)
                    refine step_append_lies _ (by rfl) (.tmp 29) (.tmp 32) 33 (by rfl) B 38 ir _ 7 96 Try.underlying33 hi hz0 hz1 hz2 rfl (by omega) (.slice ar lr.length cr) lr.length (ccells lr) (by kernel_rfl) OW4.out ⟨w3.heap.size, 0, none⟩ 1 1 [.string n, .string f, .int .u8 l, .slice (some ⟨gt, 0, none⟩) ss.length ct, .int .i8 s, .string q, .int .i16 e] (by kernel_rfl) (by rfl) (World.news_of_block (cs := #[.string n, .string f, .int .u8 l, .slice (some ⟨gt, 0, none⟩) ss.length ct, .int .i8 s, .string q, .int .i16 e]) (t := 38) (fr := (0, 0)) (heap_alloc_new w3 _)) (by simp [Value.oneCell']) (by omega) (by unfold maxLen; omega) (by omega) (by have := HB.out; have := B4.out.size; simp; omega) (w3.heap.size + 1) (by simp) ?_
                    intro g2 cap2 w5 hown2 hgrow2 hat2 hlt2
                    have FIN := Lib.hid (addR (c := ⟨n, f, l, ss, s, q, e⟩) HM.out (reg_at HH.out) HB.out HT.out HML.out (CELL.out _ B5.out) HLC.out C1.out C2.out C3.out C4.out HLR.out R1.out R2.out R3.out R4.out N1.out N2.out N3.out B5.out (TX.out.alloc _) hown2 hgrow2 (hat2.imp id (fun e => by rw [e]; simp)) hlt2)
                    have x5 : w5.cell? ⟨m, 1, none⟩ = some (.slice ar lr.length cr) := (cell_of_row _ m 1 _ _ _ FIN.out.1).trans rfl
                    have f5 := frozen_of_row w5 m 1 _ _ FIN.out.1
                    clear hown2 hgrow2 hat2 hlt2
                    refine hK _ _ ?_
                    clear hK K
                    try simp only [Act.put, List.setIfInBounds_toArray, List.set_cons_zero, List.set_cons_succ]
                    refine wpAny_take (i := 9) (v := ?_) rfl (by kernel_rfl) (by kernel_rfl) (by kernel_rfl) (fun _ _ _ h => h) (Or.inl ⟨by kernel_rfl, ?_⟩) ?_
                    rotate_left
                    · intro w
                      go_simp
                      try with_reducible rfl
                    simp only [Act.put, List.getElem_toArray, List.getElem_cons_zero, List.getElem_cons_succ, List.setIfInBounds_toArray, List.set_cons_zero, List.set_cons_succ]
                    refine wpAny_take (i := 10) (v := ?_) rfl (by kernel_rfl) (by kernel_rfl) (by kernel_rfl) (fun _ _ _ h => h) (Or.inl ⟨by kernel_rfl, ?_⟩) ?_
                    rotate_left
                    · intro w
                      go_simp
                      try with_reducible rfl
                    simp only [Act.put, List.getElem_toArray, List.getElem_cons_zero, List.getElem_cons_succ, List.setIfInBounds_toArray, List.set_cons_zero, List.set_cons_succ]
                    refine wpAny_ready (rs := [11]) (by kernel_rfl) (by simp) (AllReady.cons rfl (fun K hK => ?_) AllReady.nil)
                    go_simp
                    refine hK _ _ ?_
                    clear hK K
                    try simp only [Act.put, List.setIfInBounds_toArray, List.set_cons_zero, List.set_cons_succ]
                    refine wpAny_done (by kernel_rfl) ?_ _
                    go_wp2_with fail
                    go_meet
                    exact Lib.hid ⟨FIN.out.2.1, FIN.out.2.2⟩
                  · skip
                    refine wp_build_one (.tmp 31) (by kernel_rfl) n f q l s e (some ⟨gt, 0, none⟩) ss.length ct (by kernel_rfl) ?_
                    refine hK _ _ ?_
                    clear hK K
                    try simp only [Act.put, List.setIfInBounds_toArray, List.set_cons_zero, List.set_cons_succ]
                    have B5 := Lib.hid (B4.out.alloc B4.out.size (.cells #[.string n, .string f, .int .u8 l, .slice (some ⟨gt, 0, none⟩) ss.length ct, .int .i8 s, .string q, .int .i16 e] 38))
                    have cy : (w3.alloc (.cells #[.string n, .string f, .int .u8 l, .slice (some ⟨gt, 0, none⟩) ss.length ct, .int .i8 s, .string q, .int .i16 e] 38)).cell? ⟨m, 1, none⟩ = some (.slice ar lr.length cr) := (cell_of_row _ m 1 _ _ _ (CELL.out _ B5.out)).trans rfl
                    refine wpAny_ready (rs := [4]) (by kernel_rfl) (by simp) (AllReady.cons rfl (fun K hK => ?_) AllReady.nil)
                    go_simp
                    refine hK _ _ ?_
                    clear hK K
                    try simp only [Act.put, List.setIfInBounds_toArray, List.set_cons_zero, List.set_cons_succ]
                    refine wpAny_ready (rs := [8]) (by kernel_rfl) (by simp) (AllReady.cons rfl (fun K hK => ?_) AllReady.nil)
                    have OW4 := Lib.hid (own_below R1.out B5.out)
                    refine step_append_lies _ (by rfl) (.tmp 29) (.tmp 32) 33 (by rfl) B 38 ir _ 7 96 Try.underlying33 hi hz0 hz1 hz2 rfl (by omega) (.slice ar lr.length cr) lr.length (ccells lr) (by kernel_rfl) OW4.out ⟨w3.heap.size, 0, none⟩ 1 1 [.string n, .string f, .int .u8 l, .slice (some ⟨gt, 0, none⟩) ss.length ct, .int .i8 s, .string q, .int .i16 e] (by kernel_rfl) (by rfl) (World.news_of_block (cs := #[.string n, .string f, .int .u8 l, .slice (some ⟨gt, 0, none⟩) ss.length ct, .int .i8 s, .string q, .int .i16 e]) (t := 38) (fr := (0, 0)) (heap_alloc_new w3 _)) (by simp [Value.oneCell']) (by omega) (by unfold maxLen; omega) (by omega) (by have := HB.out; have := B4.out.size; simp; omega) (w3.heap.size + 1) (by simp) ?_
                    intro g2 cap2 w5 hown2 hgrow2 hat2 hlt2
                    have FIN := Lib.hid (addR (c := ⟨n, f, l, ss, s, q, e⟩) HM.out (reg_at HH.out) HB.out HT.out HML.out (CELL.out _ B5.out) HLC.out C1.out C2.out C3.out C4.out HLR.out R1.out R2.out R3.out R4.out N1.out N2.out N3.out B5.out (TX.out.alloc _) hown2 hgrow2 (hat2.imp id (fun e => by rw [e]; simp)) hlt2)
                    have x5 : w5.cell? ⟨m, 1, none⟩ = some (.slice ar lr.length cr) := (cell_of_row _ m 1 _ _ _ FIN.out.1).trans rfl
                    have f5 := frozen_of_row w5 m 1 _ _ FIN.out.1
                    clear hown2 hgrow2 hat2 hlt2
                    refine hK _ _ ?_
                    clear hK K
                    try simp only [Act.put, List.setIfInBounds_toArray, List.set_cons_zero, List.set_cons_succ]
                    refine wpAny_take (i := 9) (v := ?_) rfl (by kernel_rfl) (by kernel_rfl) (by kernel_rfl) (fun _ _ _ h => h) (Or.inl ⟨by kernel_rfl, ?_⟩) ?_
                    rotate_left
                    · intro w
                      go_simp
                      try with_reducible rfl
                    simp only [Act.put, List.getElem_toArray, List.getElem_cons_zero, List.getElem_cons_succ, List.setIfInBounds_toArray, List.set_cons_zero, List.set_cons_succ]
                    refine wpAny_take (i := 10) (v := ?_) rfl (by kernel_rfl) (by kernel_rfl) (by kernel_rfl) (fun _ _ _ h => h) (Or.inl ⟨by kernel_rfl, ?_⟩) ?_
                    rotate_left
                    · intro w
                      go_simp
                      try with_reducible rfl
                    simp only [Act.put, List.getElem_toArray, List.getElem_cons_zero, List.getElem_cons_succ, List.setIfInBounds_toArray, List.set_cons_zero, List.set_cons_succ]
                    refine wpAny_ready (rs := [11]) (by kernel_rfl) (by simp) (AllReady.cons rfl (fun K hK => ?_) AllReady.nil)
                    go_simp
                    refine hK _ _ ?_
                    clear hK K
                    try simp only [Act.put, List.setIfInBounds_toArray, List.set_cons_zero, List.set_cons_succ]
                    refine wpAny_done (by kernel_rfl) ?_ _
                    go_wp2_with fail
                    go_meet
                    exact Lib.hid ⟨FIN.out.2.1, FIN.out.2.2⟩
            case rest =>
              go_wp2_with fail
              go_ret
              simp only [Doc, entC, entR, HE.out]
              exact ⟨rfl, hcut.out.1, hcut.out.2⟩
          · have d1 : decide ((lr.length : Int) ≥ 64) = true := decide_eq_true (by omega)
            have HE : Hid (entA cs rs false ⟨n, f, l, ss, s, q, e⟩ = 3) := Lib.hid (by
              have : 64 ≤ rs.length := by rw [← HLR.out, List.length_map]; omega
              simp only [entA, HMY.out, HN.out, this, if_true, Bool.false_eq_true, if_false])
            go_wp2_with fail
            go_ret
            simp only [Doc, entC, entR, HE.out]
            exact ⟨rfl, (SAME.out _ B2.out).1, (SAME.out _ B2.out).2⟩
        · have ht := Bool.eq_false_iff.2 ht
          rw [ht]
          have HN := Lib.hid ht
          clear ht
          have c1 : wb.cell? ⟨m, 0, none⟩ = some (.slice ac lc.length cc) := (cell_of_row _ m 0 _ _ _ (CELL.out _ B2.out)).trans rfl
          by_cases hf : lc.length < 64
          · have d1 : decide ((lc.length : Int) ≥ 64) = false := decide_eq_false (by omega)
            have HE : Hid (entA cs rs false ⟨n, f, l, ss, s, q, e⟩ = 0) := Lib.hid (by
              have : ¬ 64 ≤ cs.length := by rw [← HLC.out, List.length_map]; omega
              simp only [entA, HMY.out, HN.out, this, if_true, Bool.false_eq_true, if_false])
            go_upto_region 12 with fail
            go_cut [] (fun wx => Hid (RReg (TN T w wx) wx B m (cs ++ [⟨n, f, l, ss, s, q, e⟩]) rs ns false ∧ Kept (Own3 T w) w wx))
            case first => as_aux_lemma => --ok
              obtain ⟨k0, k1, k2, k3, k4, k5, k6⟩ := box_cells X1.out
              have B3 := Lib.hid (B2.out.drew)
              have HS3 := Lib.hid (HS.out.below B3.out)
              refine wp_region_any (by kernel_rfl) ?_
              refine wpAny_take (i := 0) (v := ?_) rfl (by kernel_rfl) (by kernel_rfl) (by kernel_rfl) (fun _ _ _ h => h) (Or.inl ⟨by kernel_rfl, ?_⟩) ?_
              rotate_left
              · intro w
                go_simp
                try with_reducible rfl
              simp only [Act.put, List.getElem_toArray, List.getElem_cons_zero, List.getElem_cons_succ, List.setIfInBounds_toArray, List.set_cons_zero, List.set_cons_succ]
              refine wpAny_take (i := 1) (v := ?_) rfl (by kernel_rfl) (by kernel_rfl) (by kernel_rfl) (fun _ _ _ h => h) (Or.inl ⟨by kernel_rfl, ?_⟩) ?_
              rotate_left
              · intro w
                go_simp
                try with_reducible rfl
              simp only [Act.put, List.getElem_toArray, List.getElem_cons_zero, List.getElem_cons_succ, List.setIfInBounds_toArray, List.set_cons_zero, List.set_cons_succ]
              refine wpAny_take (i := 2) (v := ?_) rfl (by kernel_rfl) (by kernel_rfl) (by kernel_rfl) (fun _ _ _ h => h) (Or.inl ⟨by kernel_rfl, ?_⟩) ?_
              rotate_left
              · intro w
                go_simp
                try with_reducible rfl
              simp only [Act.put, List.getElem_toArray, List.getElem_cons_zero, List.getElem_cons_succ, List.setIfInBounds_toArray, List.set_cons_zero, List.set_cons_succ]
              refine wpAny_take (i := 3) (v := ?_) rfl (by kernel_rfl) (by kernel_rfl) (by kernel_rfl) (fun _ _ _ h => h) (Or.inl ⟨by kernel_rfl, ?_⟩) ?_
              rotate_left
              · intro w
                go_simp
                try with_reducible rfl
              simp only [Act.put, List.getElem_toArray, List.getElem_cons_zero, List.getElem_cons_succ, List.setIfInBounds_toArray, List.set_cons_zero, List.set_cons_succ]
              refine wpAny_ready (rs := [4, 5]) (by kernel_rfl) (by simp) (AllReady.cons rfl (fun K hK => ?_) (AllReady.cons rfl (fun K hK => ?_) AllReady.nil))
              · skip
                go_simp
                refine hK _ _ ?_
                clear hK K
                try simp only [Act.put, List.setIfInBounds_toArray, List.set_cons_zero, List.set_cons_succ]
                refine wpAny_ready (rs := [5]) (by kernel_rfl) (by simp) (AllReady.cons rfl (fun K hK => ?_) AllReady.nil)
                go_simp
                refine hK _ _ ?_
                clear hK K
                try simp only [Act.put, List.setIfInBounds_toArray, List.set_cons_zero, List.set_cons_succ]
                refine wpAny_ready (rs := [6]) (by kernel_rfl) (by simp) (AllReady.cons rfl (fun K hK => ?_) AllReady.nil)
                go_simp
                refine (twin_walk n f q l s e ss sl _ HS3.out hn).mono ?_
                rintro er w3 ⟨gt, ct, rfl, hown, hb3⟩
                simp only [Cd.cells]
                simp only at hown
                have B4 := Lib.hid (B3.out.trans (hb3.mono B3.out.size))
                have TX := Lib.hid (own_base hown B3.out.size)
                have cz : w3.cell? ⟨m, 0, none⟩ = some (.slice ac lc.length cc) := (cell_of_row _ m 0 _ _ _ (CELL.out _ B4.out)).trans rfl
                clear hown hb3
                go_simp
                refine hK _ _ ?_
                clear hK K
                try simp only [Act.put, List.setIfInBounds_toArray, List.set_cons_zero, List.set_cons_succ]
                refine wpAny_ready (rs := [7]) (by kernel_rfl) (by simp) (Go.BigFrame.allReady_want rfl (by kernel_rfl) (fun K hK => ?_) AllReady.nil)
                refine wp_build_one (.tmp 48) (by kernel_rfl) n f q l s e (some ⟨gt, 0, none⟩) ss.length ct (by kernel_rfl) ?_
                refine hK _ _ ?_
                clear hK K
                try simp only [Act.put, List.setIfInBounds_toArray, List.set_cons_zero, List.set_cons_succ]
                have B5 := Lib.hid (B4.out.alloc B4.out.size (.cells #[.string n, .string f, .int .u8 l, .slice (some ⟨gt, 0, none⟩) ss.length ct, .int .i8 s, .string q, .int .i16 e] 38))
                have cy : (w3.alloc (.cells #[.string n, .string f, .int .u8 l, .slice (some ⟨gt, 0, none⟩) ss.length ct, .int .i8 s, .string q, .int .i16 e] 38)).cell? ⟨m, 0, none⟩ = some (.slice ac lc.length cc) := (cell_of_row _ m 0 _ _ _ (CELL.out _ B5.out)).trans rfl
                refine wpAny_ready (rs := [8]) (by kernel_rfl) (by simp) (AllReady.cons rfl (fun K hK => ?_) AllReady.nil)
                have OW4 := Lib.hid (own_below C1.out B5.out)
                refine step_append_lies _ (by rfl) (.tmp 46) (.tmp 49) 33 (by rfl) B 38 ir _ 7 96 Try.underlying33 hi hz0 hz1 hz2 rfl (by omega) (.slice ac lc.length cc) lc.length (ccells lc) (by kernel_rfl) OW4.out ⟨w3.heap.size, 0, none⟩ 1 1 [.string n, .string f, .int .u8 l, .slice (some ⟨gt, 0, none⟩) ss.length ct, .int .i8 s, .string q, .int .i16 e] (by kernel_rfl) (by rfl) (World.news_of_block (cs := #[.string n, .string f, .int .u8 l, .slice (some ⟨gt, 0, none⟩) ss.length ct, .int .i8 s, .string q, .int .i16 e]) (t := 38) (fr := (0, 0)) (heap_alloc_new w3 _)) (by simp [Value.oneCell']) (by omega) (by unfold maxLen; omega) (by omega) (by have := HB.out; have := B4.out.size; simp; omega) (w3.heap.size + 1) (by simp) ?_
                intro g2 cap2 w5 hown2 hgrow2 hat2 hlt2
                have FIN := Lib.hid (addC (c := ⟨n, f, l, ss, s, q, e⟩) HM.out (reg_at HH.out) HB.out HT.out HML.out (CELL.out _ B5.out) HLC.out C1.out C2.out C3.out C4.out HLR.out R1.out R2.out R3.out R4.out N1.out N2.out N3.out B5.out (TX.out.alloc _) hown2 hgrow2 (hat2.imp id (fun e => by rw [e]; simp)) hlt2)
                have x5 : w5.cell? ⟨m, 0, none⟩ = some (.slice ac lc.length cc) := (cell_of_row _ m 0 _ _ _ FIN.out.1).trans rfl
                have f5 := frozen_of_row w5 m 0 _ _ FIN.out.1
                clear hown2 hgrow2 hat2 hlt2
                refine hK _ _ ?_
                clear hK K
                try simp only [Act.put, List.setIfInBounds_toArray, List.set_cons_zero, List.set_cons_succ]
                refine wpAny_take (i := 9) (v := ?_) rfl (by kernel_rfl) (by kernel_rfl) (by kernel_rfl) (fun _ _ _ h => h) (Or.inl ⟨by kernel_rfl, ?_⟩) ?_
                rotate_left
                · intro w
                  go_simp
                  try with_reducible rfl
                simp only [Act.put, List.getElem_toArray, List.getElem_cons_zero, List.getElem_cons_succ, List.setIfInBounds_toArray, List.set_cons_zero, List.set_cons_succ]
                refine wpAny_take (i := 10) (v := ?_) rfl (by kernel_rfl) (by kernel_rfl) (by kernel_rfl) (fun _ _ _ h => h) (Or.inl ⟨by kernel_rfl, ?_⟩) ?_
                rotate_left
                · intro w
                  go_simp
                  try with_reducible rfl
                simp only [Act.put, List.getElem_toArray, List.getElem_cons_zero, List.getElem_cons_succ, List.setIfInBounds_toArray, List.set_cons_zero, List.set_cons_succ]
                refine wpAny_ready (rs := [11]) (by kernel_rfl) (by simp) (AllReady.cons rfl (fun K hK => ?_) AllReady.nil)
                go_simp
                refine hK _ _ ?_
                clear hK K
                try simp only [Act.put, List.setIfInBounds_toArray, List.set_cons_zero, List.set_cons_succ]
                refine wpAny_done (by kernel_rfl) ?_ _
                go_wp2_with fail
                go_meet
                exact Lib.hid ⟨FIN.out.2.1, FIN.out.2.2⟩
              · skip
                go_simp
                refine hK _ _ ?_
                clear hK K
                try simp only [Act.put, List.setIfInBounds_toArray, List.set_cons_zero, List.set_cons_succ]
                refine wpAny_ready (rs := [4, 6]) (by kernel_rfl) (by simp) (AllReady.cons rfl (fun K hK => ?_) (AllReady.cons rfl (fun K hK => ?_) AllReady.nil))
                · skip
                  go_simp
                  refine hK _ _ ?_
                  clear hK K
                  try simp only [Act.put, List.setIfInBounds_toArray, List.set_cons_zero, List.set_cons_succ]
                  refine wpAny_ready (rs := [6]) (by kernel_rfl) (by simp) (AllReady.cons rfl (fun K hK => ?_) AllReady.nil)
                  go_simp
                  refine (twin_walk n f q l s e ss sl _ HS3.out hn).mono ?_
                  rintro er w3 ⟨gt, ct, rfl, hown, hb3⟩
                  simp only [Cd.cells]
                  simp only at hown
                  have B4 := Lib.hid (B3.out.trans (hb3.mono B3.out.size))
                  have TX := Lib.hid (own_base hown B3.out.size)
                  have cz : w3.cell? ⟨m, 0, none⟩ = some (.slice ac lc.length cc) := (cell_of_row _ m 0 _ _ _ (CELL.out _ B4.out)).trans rfl
                  clear hown hb3
                  go_simp
                  refine hK _ _ ?_
                  clear hK K
                  try simp only [Act.put, List.setIfInBounds_toArray, List.set_cons_zero, List.set_cons_succ]
                  refine wpAny_ready (rs := [7]) (by kernel_rfl) (by simp) (Go.BigFrame.allReady_want rfl (by kernel_rfl) (fun K hK => ?_) AllReady.nil)
                  refine wp_build_one (.tmp 48) (by kernel_rfl) n f q l s e (some ⟨gt, 0, none⟩) ss.length ct (by kernel_rfl) ?_
                  refine hK _ _ ?_
                  clear hK K
                  try simp only [Act.put, List.setIfInBounds_toArray, List.set_cons_zero, List.set_cons_succ]
                  have B5 := Lib.hid (B4.out.alloc B4.out.size (.cells #[.string n, .string f, .int .u8 l, .slice (some ⟨gt, 0, none⟩) ss.length ct, .int .i8 s, .string q, .int .i16 e] 38))
                  have cy : (w3.alloc (.cells #[.string n, .string f, .int .u8 l, .slice (some ⟨gt, 0, none⟩) ss.length ct, .int .i8 s, .string q, .int .i16 e] 38)).cell? ⟨m, 0, none⟩ = some (.slice ac lc.length cc) := (cell_of_row _ m 0 _ _ _ (CELL.out _ B5.out)).trans rfl
                  refine wpAny_ready (rs := [8]) (by kernel_rfl) (by simp) (AllReady.cons rfl (fun K hK => ?_) AllReady.nil)
                  have OW4 := Lib.hid (own_below C1.out B5.out)
                  refine step_append_lies _ (by rfl) (.tmp 46) (.tmp 49) 33 (by rfl) B 38 ir _ 7 96 Try.underlying33 hi hz0 hz1 hz2 rfl (by omega) (.slice ac lc.length cc) lc.length (ccells lc) (by kernel_rfl) OW4.out ⟨w3.heap.size, 0, none⟩ 1 1 [.string n, .string f, .int .u8 l, .slice (some ⟨gt, 0, none⟩) ss.length ct, .int .i8 s, .string q, .int .i16 e] (by kernel_rfl) (by rfl) (World.news_of_block (cs := #[.string n, .string f, .int .u8 l, .slice (some ⟨gt, 0, none⟩) ss.length ct, .int .i8 s, .string q, .int .i16 e]) (t := 38) (fr := (0, 0)) (heap_alloc_new w3 _)) (by simp [Value.oneCell']) (by omega) (by unfold maxLen; omega) (by omega) (by have := HB.out; have := B4.out.size; simp; omega) (w3.heap.size + 1) (by simp) ?_
                  intro g2 cap2 w5 hown2 hgrow2 hat2 hlt2
                  have FIN := Lib.hid (addC (c := ⟨n, f, l, ss, s, q, e⟩) HM.out (reg_at HH.out) HB.out HT.out HML.out (CELL.out _ B5.out) HLC.out C1.out C2.out C3.out C4.out HLR.out R1.out R2.out R3.out R4.out N1.out N2.out N3.out B5.out (TX.out.alloc _) hown2 hgrow2 (hat2.imp id (fun e => by rw [e]; simp)) hlt2)
                  have x5 : w5.cell? ⟨m, 0, none⟩ = some (.slice ac lc.length cc) := (cell_of_row _ m 0 _ _ _ FIN.out.1).trans rfl
                  have f5 := frozen_of_row w5 m 0 _ _ FIN.out.1
                  clear hown2 hgrow2 hat2 hlt2
                  refine hK _ _ ?_
                  clear hK K
                  try simp only [Act.put, List.setIfInBounds_toArray, List.set_cons_zero, List.set_cons_succ]
                  refine wpAny_take (i := 9) (v := ?_) rfl (by kernel_rfl) (by kernel_rfl) (by kernel_rfl) (fun _ _ _ h => h) (Or.inl ⟨by kernel_rfl, ?_⟩) ?_
                  rotate_left
                  · intro w
                    go_simp
                    try with_reducible rfl
                  simp only [Act.put, List.getElem_toArray, List.getElem_cons_zero, List.getElem_cons_succ, List.setIfInBounds_toArray, List.set_cons_zero, List.set_cons_succ]
                  refine wpAny_take (i := 10) (v := ?_) rfl (by kernel_rfl) (by kernel_rfl) (by kernel_rfl) (fun _ _ _ h => h) (Or.inl ⟨by kernel_rfl, ?_⟩) ?_
                  rotate_left
                  · intro w
                    go_simp
                    try with_reducible rfl
                  simp only [Act.put, List.getElem_toArray, List.getElem_cons_zero, List.getElem_cons_succ, List.setIfInBounds_toArray, List.set_cons_zero, List.set_cons_succ]
                  refine wpAny_ready (rs := [11]) (by kernel_rfl) (by simp) (AllReady.cons rfl (fun K hK => ?_) AllReady.nil)
                  go_simp
                  refine hK _ _ ?_
                  clear hK K
                  try simp only [Act.put, List.setIfInBounds_toArray, List.set_cons_zero, List.set_cons_succ]
                  refine wpAny_done (by kernel_rfl) ?_ _
                  go_wp2_with fail
                  go_meet
                  exact Lib.hid ⟨FIN.out.2.1, FIN.out.2.2⟩
                · skip
                  go_simp
                  refine (twin_walk n f q l s e ss sl _ HS3.out hn).mono ?_
                  rintro er w3 ⟨gt, ct, rfl, hown, hb3⟩
                  simp only [Cd.cells]
                  simp only at hown
                  have B4 := Lib.hid (B3.out.trans (hb3.mono B3.out.size))
                  have TX := Lib.hid (own_base hown B3.out.size)
                  have cz : w3.cell? ⟨m, 0, none⟩ = some (.slice ac lc.length cc) := (cell_of_row _ m 0 _ _ _ (CELL.out _ B4.out)).trans rfl
                  clear hown hb3
                  go_simp
                  refine hK _ _ ?_
                  clear hK K
                  try simp only [Act.put, List.setIfInBounds_toArray, List.set_cons_zero, List.set_cons_succ]
                  refine wpAny_ready (rs := [4, 7]) (by kernel_rfl) (by simp) (AllReady.cons rfl (fun K hK => ?_) (Go.BigFrame.allReady_want rfl (by kernel_rfl) (fun K hK => ?_) AllReady.nil))
                  · skip
                    go_simp
                    refine hK _ _ ?_
                    clear hK K
                    try simp only [Act.put, List.setIfInBounds_toArray, List.set_cons_zero, List.set_cons_succ]
                    refine wpAny_ready (rs := [7]) (by kernel_rfl) (by simp) (Go.BigFrame.allReady_want rfl (by kernel_rfl) (fun K hK => ?_) AllReady.nil)
                    refine wp_build_one (.tmp 48) (by kernel_rfl) n f q l s e (some ⟨gt, 0, none⟩) ss.length ct (by kernel_rfl) ?_
                    refine hK _ _ ?_
                    clear hK K
                    try simp only [Act.put, List.setIfInBounds_toArray, List.set_cons_zero, List.set_cons_succ]
                    have B5 := Lib.hid (B4.out.alloc B4.out.size (.cells #[.string n, .string f, .int .u8 l, .slice (some ⟨gt, 0, none⟩) ss.length ct, .int .i8 s, .string q, .int .i16 e] 38))
                    have cy : (w3.alloc (.cells #[.string n, .string f, .int .u8 l, .slice (some ⟨gt, 0, none⟩) ss.length ct, .int .i8 s, .string q, .int .i16 e] 38)).cell? ⟨m, 0, none⟩ = some (.slice ac lc.length cc) := (cell_of_row _ m 0 _ _ _ (CELL.out _ B5.out)).trans rfl
                    refine wpAny_ready (rs := [8]) (by kernel_rfl) (by simp) (AllReady.cons rfl (fun K hK => ?_) AllReady.nil)
                    have OW4 := Lib.hid (own_below C1.out B5.out)
                    refine step_append_lies _ (by rfl) (.tmp 46) (.tmp 49) 33 (by rfl) B 38 ir _ 7 96 Try.underlying33 hi hz0 hz1 hz2 rfl (by omega) (.slice ac lc.length cc) lc.length (ccells lc) (by kernel_rfl) OW4.out ⟨w3.heap.size, 0, none⟩ 1 1 [.string n, .string f, .int .u8 l, .slice (some ⟨gt, 0, none⟩) ss.length ct, .int .i8 s, .string q, .int .i16 e] (by kernel_rfl) (by rfl) (World.news_of_block (cs := #[.string n, .string f, .int .u8 l, .slice (some ⟨gt, 0, none⟩) ss.length ct, .int .i8 s, .string q, .int .i16 e]) (t := 38) (fr := (0, 0)) (heap_alloc_new w3 _)) (by simp [Value.oneCell']) (by omega) (by unfold maxLen; omega) (by omega) (by have := HB.out; have := B4.out.size; simp; omega) (w3.heap.size + 1) (by simp) ?_
                    intro g2 cap2 w5 hown2 hgrow2 hat2 hlt2
                    have FIN := Lib.hid (addC (c := ⟨n, f, l, ss, s, q, e⟩) HM.out (reg_at HH.out) HB.out HT.out HML.out (CELL.out _ B5.out) HLC.out C1.out C2.out C3.out C4.out HLR.out R1.out R2.out R3.out R4.out N1.out N2.out N3.out B5.out (TX.out.alloc _) hown2 hgrow2 (hat2.imp id (fun e => by rw [e]; simp)) hlt2)
                    have x5 : w5.cell? ⟨m, 0, none⟩ = some (.slice ac lc.length cc) := (cell_of_row _ m 0 _ _ _ FIN.out.1).trans rfl
                    have f5 := frozen_of_row w5 m 0 _ _ FIN.out.1
                    clear hown2 hgrow2 hat2 hlt2
                    refine hK _ _ ?_
                    clear hK K
                    try simp only [Act.put, List.setIfInBounds_toArray, List.set_cons_zero, List.set_cons_succ]
                    refine wpAny_take (i := 9) (v := ?_) rfl (by kernel_rfl) (by kernel_rfl) (by kernel_rfl) (fun _ _ _ h => h) (Or.inl ⟨by kernel_rfl, ?_⟩) ?_
                    rotate_left
                    · intro w
                      go_simp
                      try with_reducible rfl
                    simp only [Act.put, List.getElem_toArray, List.getElem_cons_zero, List.getElem_cons_succ, List.setIfInBounds_toArray, List.set_cons_zero, List.set_cons_succ]
                    refine wpAny_take (i := 10) (v := ?_) rfl (by kernel_rfl) (by kernel_rfl) (by kernel_rfl) (fun _ _ _ h => h) (Or.inl ⟨by kernel_rfl, ?_⟩) ?_
                    rotate_left
                    · intro w
                      go_simp
                      try with_reducible rfl
                    simp only [Act.put, List.getElem_toArray, List.getElem_cons_zero, List.getElem_cons_succ, List.setIfInBounds_toArray, List.set_cons_zero, List.set_cons_succ]
                    refine wpAny_ready (rs := [11]) (by kernel_rfl) (by simp) (AllReady.cons rfl (fun K hK => ?_) AllReady.nil)
                    go_simp
                    refine hK _ _ ?_
                    clear hK K
                    try simp only [Act.put, List.setIfInBounds_toArray, List.set_cons_zero, List.set_cons_succ]
                    refine wpAny_done (by kernel_rfl) ?_ _
                    go_wp2_with fail
                    go_meet
                    exact Lib.hid ⟨FIN.out.2.1, FIN.out.2.2⟩
                  · skip
                    refine wp_build_one (.tmp 48) (by kernel_rfl) n f q l s e (some ⟨gt, 0, none⟩) ss.length ct (by kernel_rfl) ?_
                    refine hK _ _ ?_
                    clear hK K
                    try simp only [Act.put, List.setIfInBounds_toArray, List.set_cons_zero, List.set_cons_succ]
                    have B5 := Lib.hid (B4.out.alloc B4.out.size (.cells #[.string n, .string f, .int .u8 l, .slice (some ⟨gt, 0, none⟩) ss.length ct, .int .i8 s, .string q, .int .i16 e] 38))
                    have cy : (w3.alloc (.cells #[.string n, .string f, .int .u8 l, .slice (some ⟨gt, 0, none⟩) ss.length ct, .int .i8 s, .string q, .int .i16 e] 38)).cell? ⟨m, 0, none⟩ = some (.slice ac lc.length cc) := (cell_of_row _ m 0 _ _ _ (CELL.out _ B5.out)).trans rfl
                    refine wpAny_ready (rs := [4]) (by kernel_rfl) (by simp) (AllReady.cons rfl (fun K hK => ?_) AllReady.nil)
                    go_simp
                    refine hK _ _ ?_
                    clear hK K
                    try simp only [Act.put, List.setIfInBounds_toArray, List.set_cons_zero, List.set_cons_succ]
                    refine wpAny_ready (rs := [8]) (by kernel_rfl) (by simp) (AllReady.cons rfl (fun K hK => ?_) AllReady.nil)
                    have OW4 := Lib.hid (own_below C1.out B5.out)
                    refine step_append_lies _ (by rfl) (.tmp 46) (.tmp 49) 33 (by rfl) B 38 ir _ 7 96 Try.underlying33 hi hz0 hz1 hz2 rfl (by omega) (.slice ac lc.length cc) lc.length (ccells lc) (by kernel_rfl) OW4.out ⟨w3.heap.size, 0, none⟩ 1 1 [.string n, .string f, .int .u8 l, .slice (some ⟨gt, 0, none⟩) ss.length ct, .int .i8 s, .string q, .int .i16 e] (by kernel_rfl) (by rfl) (World.news_of_block (cs := #[.string n, .string f, .int .u8 l, .slice (some ⟨gt, 0, none⟩) ss.length ct, .int .i8 s, .string q, .int .i16 e]) (t := 38) (fr := (0, 0)) (heap_alloc_new w3 _)) (by simp [Value.oneCell']) (by omega) (by unfold maxLen; omega) (by omega) (by have := HB.out; have := B4.out.size; simp; omega) (w3.heap.size + 1) (by simp) ?_
                    intro g2 cap2 w5 hown2 hgrow2 hat2 hlt2
                    have FIN := Lib.hid (addC (c := ⟨n, f, l, ss, s, q, e⟩) HM.out (reg_at HH.out) HB.out HT.out HML.out (CELL.out _ B5.out) HLC.out C1.out C2.out C3.out C4.out HLR.out R1.out R2.out R3.out R4.out N1.out N2.out N3.out B5.out (TX.out.alloc _) hown2 hgrow2 (hat2.imp id (fun e => by rw [e]; simp)) hlt2)
                    have x5 : w5.cell? ⟨m, 0, none⟩ = some (.slice ac lc.length cc) := (cell_of_row _ m 0 _ _ _ FIN.out.1).trans rfl
                    have f5 := frozen_of_row w5 m 0 _ _ FIN.out.1
                    clear hown2 hgrow2 hat2 hlt2
                    refine hK _ _ ?_
                    clear hK K
                    try simp only [Act.put, List.setIfInBounds_toArray, List.set_cons_zero, List.set_cons_succ]
                    refine wpAny_take (i := 9) (v := ?_) rfl (by kernel_rfl) (by kernel_rfl) (by kernel_rfl) (fun _ _ _ h => h) (Or.inl ⟨by kernel_rfl, ?_⟩) ?_
                    rotate_left
                    · intro w
                      go_simp
                      try with_reducible rfl
                    simp only [Act.put, List.getElem_toArray, List.getElem_cons_zero, List.getElem_cons_succ, List.setIfInBounds_toArray, List.set_cons_zero, List.set_cons_succ]
                    refine wpAny_take (i := 10) (v := ?_) rfl (by kernel_rfl) (by kernel_rfl) (by kernel_rfl) (fun _ _ _ h => h) (Or.inl ⟨by kernel_rfl, ?_⟩) ?_
                    rotate_left
                    · intro w
                      go_simp
                      try with_reducible rfl
                    simp only [Act.put, List.getElem_toArray, List.getElem_cons_zero, List.getElem_cons_succ, List.setIfInBounds_toArray, List.set_cons_zero, List.set_cons_succ]
                    refine wpAny_ready (rs := [11]) (by kernel_rfl) (by simp) (AllReady.cons rfl (fun K hK => ?_) AllReady.nil)
                    go_simp
                    refine hK _ _ ?_
                    clear hK K
                    try simp only [Act.put, List.setIfInBounds_toArray, List.set_cons_zero, List.set_cons_succ]
                    refine wpAny_done (by kernel_rfl) ?_ _
                    go_wp2_with fail
                    go_meet
                    exact Lib.hid ⟨FIN.out.2.1, FIN.out.2.2⟩
            case rest =>
              go_wp2_with fail
              go_ret
              simp only [Doc, entC, entR, HE.out]
              exact ⟨rfl, hcut.out.1, hcut.out.2⟩
          · have d1 : decide ((lc.length : Int) ≥ 64) = true := decide_eq_true (by omega)
            have HE : Hid (entA cs rs false ⟨n, f, l, ss, s, q, e⟩ = 3) := Lib.hid (by
              have : 64 ≤ cs.length := by rw [← HLC.out, List.length_map]; omega
              simp only [entA, HMY.out, HN.out, this, if_true, Bool.false_eq_true, if_false])
            go_wp2_with fail
            go_ret
            simp only [Doc, entC, entR, HE.out]
            exact ⟨rfl, (SAME.out _ B2.out).1, (SAME.out _ B2.out).2⟩
    · have hm := Bool.eq_false_iff.2 hm
      rw [hm] at CM
      have HE : Hid (entA cs rs false ⟨n, f, l, ss, s, q, e⟩ = 70) := Lib.hid (by simp only [entA, hm, Bool.false_eq_true, if_false])
      have CM := Lib.hid CM
      simp only [entC, entR, HE.out]
      clear hm
      go_enter Try.func42, Try.ntmps42
      go_wp2_with fail
      refine CM.out.mono ?_
      rintro er w1 ⟨rfl, hb⟩
      rw [Z1.out] at hb
      have B2 := Lib.hid (B1.out.trans (hb.mono (by omega)))
      clear hb c3
      go_wp2_with fail
      go_ret
      exact ⟨rfl, (SAME.out _ B2.out).1, (SAME.out _ B2.out).2⟩
end Go.Proofs.Ytpafbnmncioppaa
