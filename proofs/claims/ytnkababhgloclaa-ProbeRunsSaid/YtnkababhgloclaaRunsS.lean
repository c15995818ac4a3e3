/- ProbeRuns: what stands between its calls, as predicates of the memory. Plain law, no program in sight. -/
import Derived.Test.YtnkababhgloclaaRunsC
import Derived.Test.YtnkababhgloclaaRunsE
import Derived.Test.YtnkababhgloclaaRunsP
namespace Go.Proofs.Ytnkababhgloclaa
open Go.RowKit Go.ChangeShapes
/-- A row of texts whose block lies in a range. -/
def RowIn (lo hi : Nat) (w : World) (v : Value) (zs : List ByteArray) : Prop := w.ownsRow lo 9 1 v zs.length (sc zs) ∧ ∀ g, v.ownBlock = some g → g < hi
/-- Texts in a range are written. -/
def SW (a b c d : Nat) (k : Nat) (o : Obj) : Prop := (a ≤ k ∧ k < b ∨ c ≤ k ∧ k < d) ∧ ∃ C z, o = .cells C 9 z
section
variable {lo hi : Nat} {w w' : World} {v : Value} {zs : List ByteArray}
theorem RowIn.below (h : RowIn lo hi w v zs) (hb : Below w.heap.size w w') : RowIn lo hi w' v zs := ⟨own_below h.1 hb, h.2⟩
theorem RowIn.of {n : Nat} (h : w.ownsRow lo 9 1 v n (sc zs)) (hn : zs.length = n) : RowIn lo w.heap.size w v zs := ⟨by rw [hn]; exact h, fun g hg => (h.lt g hg).2⟩
theorem RowIn.rel {B : Nat} {S : Nat → Obj → Prop} (h : RowIn lo hi w v zs) (hr : Rel B S w w') (hs : ∀ k C, lo ≤ k → k < hi → ¬ S k (.cells C 9 (0, 0))) : RowIn lo hi w' v zs :=
  ⟨own_rel h.1 hr (fun k C _ hk => hs k C (h.1.lt k hk).1 (h.2 k hk)), h.2⟩
theorem RowIn.strs (h : RowIn lo hi w v zs) (hl : zs.length ≤ maxLen) : Strs w v zs := strs_own h.1 hl
end
/-- The same, the memory last. -/
def RowIn' (lo hi : Nat) (v : Value) (zs : List ByteArray) (w : World) : Prop := lo ≤ hi ∧ RowIn lo hi w v zs
theorem RowIn'.below {lo hi : Nat} {w w' : World} {v : Value} {zs : List ByteArray} (h : RowIn' lo hi v zs w) (hb : Below w.heap.size w w') : RowIn' lo hi v zs w' := ⟨h.1, h.2.below hb⟩
theorem RowIn'.mk {lo n : Nat} {w w' : World} {v : Value} {zs : List ByteArray} (h : w'.ownsRow w.heap.size 9 1 v n (sc zs)) (hn : zs.length = n) (hlo : lo ≤ w.heap.size) (hs : w.heap.size ≤ w'.heap.size) : RowIn' lo w'.heap.size v zs w' := ⟨by omega, .of (own_base h hlo) hn⟩
/-- An outcome whose rows lie in a range. -/
def OutIn (lo hi : Nat) (w : World) (o : Oc) (vd vg vs : Value) : Prop := RowIn lo hi w vd o.done ∧ RowIn lo hi w vg o.given ∧ RowIn lo hi w vs o.stuck
section
variable {lo hi : Nat} {w w' : World} {o : Oc} {vd vg vs : Value}
theorem OutIn.below (h : OutIn lo hi w o vd vg vs) (hb : Below w.heap.size w w') : OutIn lo hi w' o vd vg vs := ⟨h.1.below hb, h.2.1.below hb, h.2.2.below hb⟩
theorem OutIn.rel {B : Nat} {S : Nat → Obj → Prop} (h : OutIn lo hi w o vd vg vs) (hr : Rel B S w w') (hs : ∀ k C, lo ≤ k → k < hi → ¬ S k (.cells C 9 (0, 0))) : OutIn lo hi w' o vd vg vs := ⟨h.1.rel hr hs, h.2.1.rel hr hs, h.2.2.rel hr hs⟩
theorem OutIn.read (h : OutIn lo hi w o vd vg vs) (hf : o.few) : OutR w (.agg #[.bool o.good, .int .i64 o.at_, .int .u8 o.how, vd, vg, vs]) o := by
  obtain ⟨f1, f2, f3⟩ := hf
  exact ⟨vd, vg, vs, rfl, h.1.strs (by unfold maxLen; omega), h.2.1.strs (by unfold maxLen; omega), h.2.2.strs (by unfold maxLen; omega)⟩
theorem OutAt.parts {v : Value} (h : OutAt w lo v o) : ∃ ad cd ag cg az cz, v = .agg #[.bool o.good, .int .i64 o.at_, .int .u8 o.how, .slice ad o.done.length cd, .slice ag o.given.length cg, .slice az o.stuck.length cz] ∧ OutIn lo w.heap.size w o (.slice ad o.done.length cd) (.slice ag o.given.length cg) (.slice az o.stuck.length cz) := by
  obtain ⟨vd, vg, vs, rfl, h1, h2, h3⟩ := h
  obtain ⟨ad, cd, rfl⟩ := own_slice h1
  obtain ⟨ag, cg, rfl⟩ := own_slice h2
  obtain ⟨az, cz, rfl⟩ := own_slice h3
  exact ⟨ad, cd, ag, cg, az, cz, rfl, .of h1 rfl, .of h2 rfl, .of h3 rfl⟩
end
theorem RowIn.base {lo lo' hi : Nat} {w : World} {v : Value} {zs : List ByteArray} (h : RowIn lo hi w v zs) (hl : lo' ≤ lo) : RowIn lo' hi w v zs := ⟨own_base h.1 hl, h.2⟩
/-- An outcome in a block of its own. -/
def OAt (t p lo hi : Nat) (o : Oc) (va wa ua : Value) (w : World) : Prop := (lo ≤ hi ∧ hi ≤ p) ∧ w.heap[p]? = some (.cells #[.bool o.good, .int .i64 o.at_, .int .u8 o.how, va, wa, ua] t (0, 0)) ∧ OutIn lo hi w o va wa ua
theorem OAt.below {t p lo hi : Nat} {o : Oc} {va wa ua : Value} {w w' : World} (h : OAt t p lo hi o va wa ua w) (hb : Below w.heap.size w w') : OAt t p lo hi o va wa ua w' :=
  ⟨h.1, (hb.block _ (Array.getElem?_eq_some_iff.1 h.2.1).1).trans h.2.1, h.2.2.below hb⟩
theorem OAt.mk {t lo : Nat} {o : Oc} {va wa ua : Value} {w w4 W4 : World} (hin : OutIn w.heap.size w4.heap.size w4 o va wa ua) (hlo : lo ≤ w.heap.size) (hs : w.heap.size ≤ w4.heap.size) (hh : W4.heap[w4.heap.size]? = some (.cells #[.bool o.good, .int .i64 o.at_, .int .u8 o.how, va, wa, ua] t (0, 0))) (hb : Below w4.heap.size w4 W4) : OAt t w4.heap.size lo w4.heap.size o va wa ua W4 :=
  ⟨⟨by omega, Nat.le_refl _⟩, hh, OutIn.below (w := w4) ⟨hin.1.base hlo, hin.2.1.base hlo, hin.2.2.base hlo⟩ hb⟩
/-- A row of texts that may be written over. -/
def WrIn (lo hi : Nat) (w : World) (v : Value) (n : Nat) : Prop := (n = 0 ∧ v = .slice none 0 0) ∨ ∃ g c C, v = .slice (some ⟨g, 0, none⟩) n c ∧ lo ≤ g ∧ g < hi ∧ w.heap[g]? = some (.cells C 9 (0, 0)) ∧ n ≤ C.size
theorem RowIn.wr {lo hi : Nat} {w : World} {v : Value} {zs : List ByteArray} (h : RowIn lo hi w v zs) : WrIn lo hi w v zs.length := by
  obtain ⟨⟨h1, h2⟩, h3⟩ := h
  rcases h2 with ⟨e, en⟩ | ⟨g, cap, cur, e, hg, hh, r1, r2, r3, r4⟩
  · exact .inl ⟨en, e⟩
  · subst e
    exact .inr ⟨g, cap, cur, rfl, hg, h3 g rfl, hh, by omega⟩
theorem WrIn.set {lo hi : Nat} {w : World} {v : Value} {n : Nat} (h : WrIn lo hi w v n) {g k : Nat} {C : Array Value} (hg : w.heap[g]? = some (.cells C 9 (0, 0))) (x : Value) : WrIn lo hi (w.setCell ⟨g, k, none⟩ x) v n := by
  rcases h with h | ⟨g', c, C', e, h1, h2, h3, h4⟩
  · exact .inl h
  · by_cases hgg : g' = g
    · subst hgg
      exact .inr ⟨g', c, _, e, h1, h2, heap_setCell_same w g' k C' _ x h3, by simpa using h4⟩
    · exact .inr ⟨g', c, C', e, h1, h2, (Below.heap_setCell w ⟨g, k, none⟩ x g' (by simpa using hgg)).trans h3, h4⟩
theorem WrIn.below {lo hi : Nat} {w w' : World} {v : Value} {n : Nat} (h : WrIn lo hi w v n) (hb : Below w.heap.size w w') : WrIn lo hi w' v n := by
  rcases h with h | ⟨g', c, C', e, h1, h2, h3, h4⟩
  · exact .inl h
  · exact .inr ⟨g', c, C', e, h1, h2, (hb.block _ (Array.getElem?_eq_some_iff.1 h3).1).trans h3, h4⟩
theorem WrIn.at {lo hi : Nat} {w : World} {a : Option Addr} {n c : Nat} (h : WrIn lo hi w (.slice a n c) n) {k : Nat} (hk : k < n) : ∃ g C u, a = some ⟨g, 0, none⟩ ∧ lo ≤ g ∧ g < hi ∧ w.heap[g]? = some (.cells C 9 (0, 0)) ∧ w.cell? ⟨g, k, none⟩ = some u ∧ w.frozen? ⟨g, k, none⟩ = false := by
  rcases h with ⟨h, _⟩ | ⟨g', c', C', e, h1, h2, h3, h4⟩
  · omega
  · injection e with e1 _ _
    subst e1
    exact ⟨g', C', C'[k]'(by omega), rfl, h1, h2, h3, (cell_of_row w g' k _ _ _ h3).trans (Array.getElem?_eq_getElem (by omega)), frozen_of_row _ _ _ _ _ h3⟩
/-- What stands behind the law's own copies. -/
structure KB (W : World) (pc p8 : Nat) (c1 c2 : Array Value) (vf vt : Value) (nf N : Nat) (Fs : List Value) (ss : List ByteArray) (w : World) : Prop where
  bx : Below W.heap.size W w
  bc : w.heap[pc]? = some (.cells c1 50 (0, 0))
  fr : w.ownsRow W.heap.size 67 3 vf nf Fs
  b8 : w.heap[p8]? = some (.cells c2 50 (0, 0))
  tw : RowIn W.heap.size N w vt ss
  lo : W.heap.size ≤ N
section
variable {W : World} {pc p8 : Nat} {c1 c2 : Array Value} {vf vt : Value} {nf N : Nat} {Fs : List Value} {ss : List ByteArray} {w w' : World}
theorem KB.below (h : KB W pc p8 c1 c2 vf vt nf N Fs ss w) (hb : Below w.heap.size w w') : KB W pc p8 c1 c2 vf vt nf N Fs ss w' :=
  ⟨h.bx.trans (hb.mono h.bx.size), (hb.block _ (Array.getElem?_eq_some_iff.1 h.bc).1).trans h.bc, own_below h.fr hb, (hb.block _ (Array.getElem?_eq_some_iff.1 h.b8).1).trans h.b8, h.tw.below hb, h.lo⟩
theorem KB.rel {a b c d : Nat} (h : KB W pc p8 c1 c2 vf vt nf N Fs ss w) (hr : Rel W.heap.size (SW a b c d) w w') (h1 : N ≤ a) (h2 : N ≤ c) : KB W pc p8 c1 c2 vf vt nf N Fs ss w' := by
  have nof : ∀ (k t : Nat) (_ : t ≠ 9) (C : Array Value), ¬ SW a b c d k (.cells C t (0, 0)) := fun k t ht C ⟨_, C', z', h⟩ => by
    injection h with _ h2 _
    exact ht h2
  exact ⟨hr.out h.bx h.bx.size, hr.block h.bc (fun _ => nof _ _ (by decide) _), own_rel h.fr hr (fun k C _ _ => nof _ _ (by decide) _), hr.block h.b8 (fun _ => nof _ _ (by decide) _), h.tw.rel hr (fun k C _ h3 ⟨h4, _⟩ => by omega), h.lo⟩
end
/-- What stands behind the first calls, while what the first probe and the first list came to is written over. -/
structure KD (W : World) (pc p8 p9 p11 p13 : Nat) (c1 c2 : Array Value) (vf vt : Value) (nf N N4 N5 N6 N7 N8 : Nat) (Fs : List Value) (ss : List ByteArray) (o : Oc) (names : List ByteArray) (va wa ua vb wb ub vc wc uc vl vm : Value) (w : World) : Prop where
  kb : KB W pc p8 c1 c2 vf vt nf N Fs ss w
  b9 : w.heap[p9]? = some (.cells #[.bool o.good, .int .i64 o.at_, .int .u8 o.how, va, wa, ua] 56 (0, 0))
  a1 : WrIn N N4 w va o.done.length
  a2 : WrIn N N4 w wa o.given.length
  a3 : WrIn N N4 w ua o.stuck.length
  b : OAt 56 p11 N4 N5 o vb wb ub w
  c : OAt 59 p13 N5 N6 o vc wc uc w
  l : WrIn N6 N7 w vl names.length
  m : RowIn N7 N8 w vm names
  nn : N ≤ N4 ∧ N4 ≤ N5 ∧ N5 ≤ N6 ∧ N6 ≤ N7 ∧ N7 ≤ N8
  pp : N4 ≤ p9
section
variable {W : World} {pc p8 p9 p11 p13 : Nat} {c1 c2 : Array Value} {vf vt : Value} {nf N N4 N5 N6 N7 N8 : Nat} {Fs : List Value} {ss : List ByteArray} {o : Oc} {names : List ByteArray} {va wa ua vb wb ub vc wc uc vl vm : Value} {w w' : World}
theorem KD.mk' (kb : KB W pc p8 c1 c2 vf vt nf N Fs ss w) (a : OAt 56 p9 N N4 o va wa ua w) (b : OAt 56 p11 N4 N5 o vb wb ub w) (c : OAt 59 p13 N5 N6 o vc wc uc w) (l : RowIn N6 N7 w vl names) (m : RowIn N7 N8 w vm names) (n6 : N6 ≤ N7) (n7 : N7 ≤ N8) :
    KD W pc p8 p9 p11 p13 c1 c2 vf vt nf N N4 N5 N6 N7 N8 Fs ss o names va wa ua vb wb ub vc wc uc vl vm w :=
  ⟨kb, a.2.1, a.2.2.1.wr, a.2.2.2.1.wr, a.2.2.2.2.wr, b, c, l.wr, m, ⟨a.1.1, b.1.1, c.1.1, n6, n7⟩, a.1.2⟩
theorem KD.set (h : KD W pc p8 p9 p11 p13 c1 c2 vf vt nf N N4 N5 N6 N7 N8 Fs ss o names va wa ua vb wb ub vc wc uc vl vm w) {g k : Nat} {C : Array Value} (hg : w.heap[g]? = some (.cells C 9 (0, 0))) (hr : N ≤ g ∧ g < N4 ∨ N6 ≤ g ∧ g < N7) (x : Value) :
    KD W pc p8 p9 p11 p13 c1 c2 vf vt nf N N4 N5 N6 N7 N8 Fs ss o names va wa ua vb wb ub vc wc uc vl vm (w.setCell ⟨g, k, none⟩ x) := by
  have hN := h.nn
  have hlo := h.kb.lo
  have r : Rel W.heap.size (SW N N4 N6 N7) w (w.setCell ⟨g, k, none⟩ x) := Rel.set (a := ⟨g, k, none⟩) (by simp only; omega) hg ⟨hr, _, _, rfl⟩ x
  have nof : ∀ (k t : Nat) (_ : t ≠ 9) (C : Array Value), ¬ SW N N4 N6 N7 k (.cells C t (0, 0)) := fun k t ht C ⟨_, C', z', h⟩ => by
    injection h with _ h2 _
    exact ht h2
  exact ⟨h.kb.rel r (Nat.le_refl _) (by omega), r.block h.b9 (fun _ => nof _ _ (by decide) _), h.a1.set hg x, h.a2.set hg x, h.a3.set hg x, ⟨h.b.1, r.block h.b.2.1 (fun _ => nof _ _ (by decide) _), h.b.2.2.rel r (fun k C h1 h2 ⟨h3, _⟩ => by omega)⟩, ⟨h.c.1, r.block h.c.2.1 (fun _ => nof _ _ (by decide) _), h.c.2.2.rel r (fun k C h1 h2 ⟨h3, _⟩ => by omega)⟩, h.l.set hg x, h.m.rel r (fun k C h1 h2 ⟨h3, _⟩ => by omega), h.nn, h.pp⟩
theorem KD.below (h : KD W pc p8 p9 p11 p13 c1 c2 vf vt nf N N4 N5 N6 N7 N8 Fs ss o names va wa ua vb wb ub vc wc uc vl vm w) (hb : Below w.heap.size w w') :
    KD W pc p8 p9 p11 p13 c1 c2 vf vt nf N N4 N5 N6 N7 N8 Fs ss o names va wa ua vb wb ub vc wc uc vl vm w' :=
  ⟨h.kb.below hb, (hb.block _ (Array.getElem?_eq_some_iff.1 h.b9).1).trans h.b9, h.a1.below hb, h.a2.below hb, h.a3.below hb, h.b.below hb, h.c.below hb, h.l.below hb, h.m.below hb, h.nn, h.pp⟩
end
theorem KB.rel' {W : World} {pc p8 : Nat} {c1 c2 : Array Value} {vf vt : Value} {nf N : Nat} {Fs : List Value} {ss : List ByteArray} {w w' : World} {S : Nat → Obj → Prop} (h : KB W pc p8 c1 c2 vf vt nf N Fs ss w) (hr : Rel W.heap.size S w w') (hs : ∀ k t C, t = 50 ∨ t = 67 ∨ t = 9 → ¬ S k (.cells C t (0, 0))) : KB W pc p8 c1 c2 vf vt nf N Fs ss w' :=
  ⟨hr.out h.bx h.bx.size, hr.block h.bc (fun _ => hs _ _ _ (.inl rfl)), own_rel h.fr hr (fun k C _ _ => hs _ _ _ (.inr (.inl rfl))), hr.block h.b8 (fun _ => hs _ _ _ (.inl rfl)), h.tw.rel hr (fun k C _ _ => hs _ _ _ (.inr (.inr rfl))), h.lo⟩
/-- A cell of the fates is written. -/
theorem KB.store {W : World} {pc p8 : Nat} {c1 c2 : Array Value} {vt : Value} {nf ci gi N : Nat} {Fs : List Value} {ss : List ByteArray} {w : World} (h : KB W pc p8 c1 c2 (.slice (some ⟨gi, 0, none⟩) nf ci) vt nf N Fs ss w) (j : Nat) (x : Value) :
    KB W pc p8 c1 c2 (.slice (some ⟨gi, 0, none⟩) nf ci) vt nf N (Fs.set j x) ss (w.setCell ⟨gi, j, none⟩ x) ∧ Rel W.heap.size (fun _ o => ∃ C z, o = .cells C 67 z) w (w.setCell ⟨gi, j, none⟩ x) := by
  obtain ⟨C, hC⟩ := own_type h.fr (g := gi) rfl
  have hg := (h.fr.lt gi rfl).1
  have r : Rel W.heap.size (fun _ o => ∃ C z, o = .cells C 67 z) w (w.setCell ⟨gi, j, none⟩ x) := Rel.set (a := ⟨gi, j, none⟩) hg hC ⟨_, _, rfl⟩ x
  have nof : ∀ (t : Nat) (_ : t ≠ 67) (C : Array Value), ¬ (∃ C' z', Obj.cells C t (0, 0) = .cells C' 67 z') := fun t ht C ⟨C', z', h⟩ => by
    injection h with _ h2 _
    exact ht h2
  exact ⟨⟨r.out h.bx h.bx.size, r.block h.bc (fun _ => nof _ (by decide) _), (h.fr.stored j x).1, r.block h.b8 (fun _ => nof _ (by decide) _), h.tw.rel r (fun k C _ _ => nof _ (by decide) _), h.lo⟩, r⟩
/-- The rows of the first outcome, one by one. -/
theorem KD.row {W : World} {pc p8 p9 p11 p13 : Nat} {c1 c2 : Array Value} {vf vt : Value} {nf N N4 N5 N6 N7 N8 : Nat} {Fs : List Value} {ss : List ByteArray} {o : Oc} {names : List ByteArray} {x1 x2 x3 : Option Addr} {y1 y2 y3 : Nat} {vb wb ub vc wc uc vl vm : Value} {w : World} (hf : o.few) (h : KD W pc p8 p9 p11 p13 c1 c2 vf vt nf N N4 N5 N6 N7 N8 Fs ss o names (.slice x1 o.done.length y1) (.slice x2 o.given.length y2) (.slice x3 o.stuck.length y3) vb wb ub vc wc uc vl vm w) (j : Nat) (hj : j < 3) :
    ∃ a n c, (#[.slice x1 o.done.length y1, .slice x2 o.given.length y2, .slice x3 o.stuck.length y3] : Array Value)[j]? = some (.slice a n c) ∧ WrIn N N4 w (.slice a n c) n ∧ n ≤ 4 := by
  rcases j with _ | _ | _ | j
  · exact ⟨_, _, _, rfl, h.a1, hf.1⟩
  · exact ⟨_, _, _, rfl, h.a2, hf.2.1⟩
  · exact ⟨_, _, _, rfl, h.a3, hf.2.2⟩
  · omega
theorem KD.rowAt {W : World} {pc p8 p9 p11 p13 : Nat} {c1 c2 : Array Value} {vf vt : Value} {nf N N4 N5 N6 N7 N8 : Nat} {Fs : List Value} {ss : List ByteArray} {o : Oc} {names : List ByteArray} {x1 x2 x3 : Option Addr} {y1 y2 y3 : Nat} {vb wb ub vc wc uc vl vm : Value} {w : World} {pb t : Nat} (hf : o.few) (h : KD W pc p8 p9 p11 p13 c1 c2 vf vt nf N N4 N5 N6 N7 N8 Fs ss o names (.slice x1 o.done.length y1) (.slice x2 o.given.length y2) (.slice x3 o.stuck.length y3) vb wb ub vc wc uc vl vm w) (hb : w.heap[pb]? = some (.cells #[.slice x1 o.done.length y1, .slice x2 o.given.length y2, .slice x3 o.stuck.length y3] t (0, 0))) (j : Nat) (hj : j < 3) :
    ∃ a n c, w.cell? ⟨pb, j, none⟩ = some (.slice a n c) ∧ WrIn N N4 w (.slice a n c) n ∧ n ≤ 4 := by
  obtain ⟨a, n, c, e, h1, h2⟩ := KD.row hf h j hj
  exact ⟨a, n, c, by rw [cell_of_row w pb j _ _ _ hb]; exact e, h1, h2⟩
/-- What stands while the fates are turned and handed to the document. -/
structure KE (W : World) (pc p8 p9 p13 : Nat) (c1 c2 : Array Value) (vf vt : Value) (nf N : Nat) (Fs : List Value) (ss : List ByteArray) (vn : Value) (m : Nat) (Ms : List Value) (w : World) : Prop where
  kb : KB W pc p8 c1 c2 vf vt nf N Fs ss w
  b9 : ∃ a0 a1 a2 a3 a4 a5, w.heap[p9]? = some (.cells #[a0, a1, a2, a3, a4, a5] 56 (0, 0))
  b13 : ∃ a0 a1 a2 a3 a4 a5, w.heap[p13]? = some (.cells #[a0, a1, a2, a3, a4, a5] 59 (0, 0))
  nw : w.ownsRow W.heap.size 68 3 vn m Ms
  l9 : W.heap.size ≤ p9
  l13 : W.heap.size ≤ p13
theorem KE.below {W : World} {pc p8 p9 p13 : Nat} {c1 c2 : Array Value} {vf vt : Value} {nf N : Nat} {Fs : List Value} {ss : List ByteArray} {vn : Value} {m : Nat} {Ms : List Value} {w w' : World} (h : KE W pc p8 p9 p13 c1 c2 vf vt nf N Fs ss vn m Ms w) (hb : Below w.heap.size w w') : KE W pc p8 p9 p13 c1 c2 vf vt nf N Fs ss vn m Ms w' := by
  obtain ⟨b0, b1, b2, b3, b4, b5, h9⟩ := h.b9
  obtain ⟨d0, d1, d2, d3, d4, d5, h13⟩ := h.b13
  exact ⟨h.kb.below hb, ⟨b0, b1, b2, b3, b4, b5, (hb.block _ (Array.getElem?_eq_some_iff.1 h9).1).trans h9⟩, ⟨d0, d1, d2, d3, d4, d5, (hb.block _ (Array.getElem?_eq_some_iff.1 h13).1).trans h13⟩, own_below h.nw hb, h.l9, h.l13⟩
theorem KD.ke {W : World} {pc p8 p9 p11 p13 : Nat} {c1 c2 : Array Value} {vf vt : Value} {nf N N4 N5 N6 N7 N8 : Nat} {Fs : List Value} {ss : List ByteArray} {o : Oc} {names : List ByteArray} {va wa ua vb wb ub vc wc uc vl vm : Value} {w : World} (h : KD W pc p8 p9 p11 p13 c1 c2 vf vt nf N N4 N5 N6 N7 N8 Fs ss o names va wa ua vb wb ub vc wc uc vl vm w) : KE W pc p8 p9 p13 c1 c2 vf vt nf N Fs ss (.slice none 0 0) 0 [] w :=
  ⟨h.kb, ⟨_, _, _, _, _, _, h.b9⟩, ⟨_, _, _, _, _, _, h.c.2.1⟩, World.ownsRow_nil _ _ _ _, by have := h.kb.lo; have := h.nn; have := h.pp; omega, by have := h.kb.lo; have := h.nn; have := h.c.1; omega⟩
theorem KE.store {W : World} {pc p8 p9 p13 : Nat} {c1 c2 : Array Value} {vt : Value} {nf ci gi N : Nat} {Fs : List Value} {ss : List ByteArray} {vn : Value} {m : Nat} {Ms : List Value} {w : World} (h : KE W pc p8 p9 p13 c1 c2 (.slice (some ⟨gi, 0, none⟩) nf ci) vt nf N Fs ss vn m Ms w) (j : Nat) (x : Value) :
    KE W pc p8 p9 p13 c1 c2 (.slice (some ⟨gi, 0, none⟩) nf ci) vt nf N (Fs.set j x) ss vn m Ms (w.setCell ⟨gi, j, none⟩ x) := by
  obtain ⟨k, r⟩ := h.kb.store j x
  obtain ⟨b0, b1, b2, b3, b4, b5, h9⟩ := h.b9
  obtain ⟨d0, d1, d2, d3, d4, d5, h13⟩ := h.b13
  have nof : ∀ (t : Nat) (_ : t ≠ 67) (C : Array Value), ¬ (∃ C' z', Obj.cells C t (0, 0) = .cells C' 67 z') := fun t ht C ⟨C', z', h⟩ => by
    injection h with _ h2 _
    exact ht h2
  exact ⟨k, ⟨_, _, _, _, _, _, r.block h9 (fun _ => nof _ (by decide) _)⟩, ⟨_, _, _, _, _, _, r.block h13 (fun _ => nof _ (by decide) _)⟩, own_rel h.nw r (fun k C _ _ => nof _ (by decide) _), h.l9, h.l13⟩
/-- The document's list of fates grows. -/
theorem KE.grown {W : World} {pc p8 p9 p13 : Nat} {c1 c2 : Array Value} {vf vt : Value} {nf N : Nat} {Fs : List Value} {ss : List ByteArray} {vn vn' : Value} {m m' : Nat} {Ms Ms' : List Value} {w w' w2 : World} (h : KE W pc p8 p9 p13 c1 c2 vf vt nf N Fs ss vn m Ms w) (hb : Below w.heap.size w w') (hg : w'.grownBy w2 vn.ownBlock) (ho : w2.ownsRow W.heap.size 68 3 vn' m' Ms') : KE W pc p8 p9 p13 c1 c2 vf vt nf N Fs ss vn' m' Ms' w2 := by
  have h1 := h.below hb
  have r : Rel W.heap.size (fun _ o => ∃ C z, o = .cells C 68 z) w' w2 := Rel.row h1.nw (Nat.le_refl _) hg (fun k C z => ⟨_, _, rfl⟩)
  obtain ⟨b0, b1, b2, b3, b4, b5, h9⟩ := h1.b9
  obtain ⟨d0, d1, d2, d3, d4, d5, h13⟩ := h1.b13
  have nof : ∀ (t : Nat) (_ : t ≠ 68) (C : Array Value), ¬ (∃ C' z', Obj.cells C t (0, 0) = .cells C' 68 z') := fun t ht C ⟨C', z', h⟩ => by
    injection h with _ h2 _
    exact ht h2
  exact ⟨h1.kb.rel' r (fun k t C ht => nof t (by rcases ht with rfl | rfl | rfl <;> decide) C), ⟨_, _, _, _, _, _, r.block h9 (fun _ => nof _ (by decide) _)⟩, ⟨_, _, _, _, _, _, r.block h13 (fun _ => nof _ (by decide) _)⟩, ho, h.l9, h.l13⟩
theorem heap_apart {w : World} {p g k t t' : Nat} {C C' : Array Value} {z z' : Nat × Nat} (hp : w.heap[p]? = some (.cells C t z)) (hg : w.heap[g]? = some (.cells C' t' z')) (ht : t ≠ t') (x : Value) : (w.setCell ⟨g, k, none⟩ x).heap[p]? = some (.cells C t z) :=
  (Below.heap_setCell w ⟨g, k, none⟩ x p (fun e => by
    simp only at e
    subst e
    rw [hp] at hg
    injection hg with hg
    injection hg with _ h2 _
    exact ht h2)).trans hp
theorem fates_at {w : World} {a : Option Addr} {n c : Nat} {fs : List Ft} (h : FatesAt w (.slice a n c) fs) (i : Nat) (hi : i < fs.length) : ∃ b off, a = some ⟨b, off, none⟩ ∧ ∀ j u, (fs[i].cells)[j]? = some u → w.cell? ⟨b, off + i * 3 + j, none⟩ = some u := by
  obtain ⟨a', cap', he, _, g⟩ := h
  injection he with e1 _ _
  subst e1
  exact g i hi
theorem there6 {w : World} {p t : Nat} {a0 a1 a2 a3 a4 a5 : Value} (h : w.heap[p]? = some (.cells #[a0, a1, a2, a3, a4, a5] t (0, 0))) : w.there p 0 6 := fun j hj => ⟨by
  rw [cell_of_row _ _ _ _ _ _ h]
  exact Option.isSome_iff_exists.2 ⟨_, Array.getElem?_eq_getElem (by simp; omega)⟩, frozen_of_row _ _ _ _ _ h⟩
theorem meas_ltS {r n k : Nat} (h : r = n - k) (h2 : k < n) : n - (k + 1) < r := by omega
theorem KE.turn {W : World} {pc p8 p9 p13 : Nat} {c1 c2 : Array Value} {vt : Value} {nf ci gi N k : Nat} {fs : List Ft} {ss : List ByteArray} {vn : Value} {m : Nat} {Ms : List Value} {w : World} {st how back : Int} (h : KE W pc p8 p9 p13 c1 c2 (.slice (some ⟨gi, 0, none⟩) nf ci) vt nf N (fcs (halfG nxF fs k)) ss vn m Ms w) (hk : k < fs.length) (hf : fs[k] = ⟨st, how, back⟩) :
    KE W pc p8 p9 p13 c1 c2 (.slice (some ⟨gi, 0, none⟩) nf ci) vt nf N (fcs (halfG nxF fs (k + 1))) ss vn m Ms ((w.setCell ⟨gi, k * 3, none⟩ (.int .i64 (wrap64 (st + 1)))).setCell ⟨gi, k * 3 + 2, none⟩ (.int .u8 (2 - back % 3))) := by
  have h1 := (h.store (k * 3) (.int .i64 (wrap64 (st + 1)))).store (k * 3 + 2) (.int .u8 (2 - back % 3))
  have e : (((fcs (halfG nxF fs k)).set (k * 3) (.int .i64 (wrap64 (st + 1)))).set (k * 3 + 2) (.int .u8 (2 - back % 3))) = fcs ((halfG nxF fs k).set k (nxF ⟨st, how, back⟩)) := fcs_set02 (halfG nxF fs k) k (by rw [halfG_len]; exact hk) _ (.int .u8 how) _ (nxF ⟨st, how, back⟩) rfl (by rw [halfG_at nxF hk, hf]; rfl)
  rw [e, ← hf, halfG_next nxF hk] at h1
  exact h1
theorem KE.cells {W : World} {pc p8 p9 p13 : Nat} {c1 c2 : Array Value} {vt : Value} {nf ci gi N k : Nat} {fs : List Ft} {ss : List ByteArray} {vn : Value} {m : Nat} {Ms : List Value} {w : World} {st how back : Int} (h : KE W pc p8 p9 p13 c1 c2 (.slice (some ⟨gi, 0, none⟩) nf ci) vt nf N (fcs (halfG nxF fs (k + 1))) ss vn m Ms w) (hk : k < fs.length) (hn : fs.length = nf) (hf : fs[k] = ⟨st, how, back⟩) :
    w.cell? ⟨gi, k * 3, none⟩ = some (.int .i64 (wrap64 (st + 1))) ∧ w.cell? ⟨gi, k * 3 + 1, none⟩ = some (.int .u8 how) ∧ w.cell? ⟨gi, k * 3 + 2, none⟩ = some (.int .u8 (2 - back % 3)) := by
  have key : ∀ j u, (Ft.cells (nxF ⟨st, how, back⟩))[j]? = some u → w.cell? ⟨gi, k * 3 + j, none⟩ = some u := fun j u hu => by
    have h3 := fcell_lt hu
    rw [h.kb.fr.cellAt (k * 3 + j) (by omega)]
    refine fcs_at _ k (by rw [halfG_len]; exact hk) j u ?_
    have e : (halfG nxF fs (k + 1))[k]'(by rw [halfG_len]; exact hk) = nxF fs[k] := by
      simp only [← halfG_next nxF hk, List.getElem_set_self]
    rw [e, hf]
    exact hu
  exact ⟨key 0 _ rfl, key 1 _ rfl, key 2 _ rfl⟩
theorem nextOk {fs : List Ft} (h : ∀ f ∈ fs, f.ok) : ∀ f ∈ fs.map nxF, f.ok := fun f hf => by
  obtain ⟨g, hg, rfl⟩ := List.mem_map.1 hf
  exact nxF_ok (h g hg)
/-- What stands behind the document's second answer. -/
structure KF (W : World) (pc p8 p9 p13 : Nat) (c1 c2 : Array Value) (vf vt : Value) (nf N : Nat) (Fs : List Value) (ss : List ByteArray) (o : Oc) (lo hi : Nat) (vc wc uc : Value) (w : World) : Prop where
  kb : KB W pc p8 c1 c2 vf vt nf N Fs ss w
  b9 : ∃ a0 a1 a2 a3 a4 a5, w.heap[p9]? = some (.cells #[a0, a1, a2, a3, a4, a5] 56 (0, 0))
  b13 : w.heap[p13]? = some (.cells #[.bool o.good, .int .i64 o.at_, .int .u8 o.how, vc, wc, uc] 59 (0, 0))
  c : OutIn lo hi w o vc wc uc
  l9 : W.heap.size ≤ p9
theorem KF.below {W : World} {pc p8 p9 p13 : Nat} {c1 c2 : Array Value} {vf vt : Value} {nf N lo hi : Nat} {Fs : List Value} {ss : List ByteArray} {o : Oc} {vc wc uc : Value} {w w' : World} (h : KF W pc p8 p9 p13 c1 c2 vf vt nf N Fs ss o lo hi vc wc uc w) (hb : Below w.heap.size w w') : KF W pc p8 p9 p13 c1 c2 vf vt nf N Fs ss o lo hi vc wc uc w' := by
  obtain ⟨b0, b1, b2, b3, b4, b5, h9⟩ := h.b9
  exact ⟨h.kb.below hb, ⟨b0, b1, b2, b3, b4, b5, (hb.block _ (Array.getElem?_eq_some_iff.1 h9).1).trans h9⟩, (hb.block _ (Array.getElem?_eq_some_iff.1 h.b13).1).trans h.b13, h.c.below hb, h.l9⟩
theorem KE.kf {W : World} {pc p8 p9 p13 : Nat} {c1 c2 : Array Value} {vf vt : Value} {nf N : Nat} {Fs : List Value} {ss : List ByteArray} {vn : Value} {m : Nat} {Ms : List Value} {w : World} {o : Oc} {lo hi : Nat} {vc wc uc : Value} (h : KE W pc p8 p9 p13 c1 c2 vf vt nf N Fs ss vn m Ms w) (hin : OutIn lo hi w o vc wc uc) :
    KF W pc p8 p9 p13 c1 c2 vf vt nf N Fs ss o lo hi vc wc uc (w.setCells p13 0 [.bool o.good, .int .i64 o.at_, .int .u8 o.how, vc, wc, uc]) := by
  obtain ⟨b0, b1, b2, b3, b4, b5, h9⟩ := h.b9
  obtain ⟨d0, d1, d2, d3, d4, d5, h13⟩ := h.b13
  have r : Rel W.heap.size (fun _ o => ∃ C z, o = .cells C 59 z) w (w.setCells p13 0 [.bool o.good, .int .i64 o.at_, .int .u8 o.how, vc, wc, uc]) := rel_lay h.l13 (fun C => ⟨C, _, rfl⟩) _ _ _ _ h13
  have nof : ∀ (t : Nat) (_ : t ≠ 59) (C : Array Value), ¬ (∃ C' z', Obj.cells C t (0, 0) = .cells C' 59 z') := fun t ht C ⟨C', z', h⟩ => by
    injection h with _ h2 _
    exact ht h2
  have hh := heap_setCells_same [.bool o.good, .int .i64 o.at_, .int .u8 o.how, vc, wc, uc] w 0 _ h13
  exact ⟨h.kb.rel' r (fun k t C ht => nof t (by rcases ht with rfl | rfl | rfl <;> decide) C), ⟨_, _, _, _, _, _, r.block h9 (fun _ => nof _ (by decide) _)⟩, hh, hin.rel r (fun k C _ _ => nof _ (by decide) _), h.l9⟩
theorem KF.last {W : World} {pc p8 p9 p13 : Nat} {c1 c2 : Array Value} {vf vt : Value} {nf N lo hi lo' hi' : Nat} {Fs : List Value} {ss : List ByteArray} {o : Oc} {va wa ua vc wc uc : Value} {w : World} (h : KF W pc p8 p9 p13 c1 c2 vf vt nf N Fs ss o lo hi vc wc uc w) (hin : OutIn lo' hi' w o va wa ua) (hf : o.few) :
    ∃ w2, w2 = w.setCells p9 0 [.bool o.good, .int .i64 o.at_, .int .u8 o.how, va, wa, ua] ∧ Below W.heap.size W w2 ∧ w2.heap[p9]? = some (.cells #[.bool o.good, .int .i64 o.at_, .int .u8 o.how, va, wa, ua] 56 (0, 0)) ∧ w2.heap[p13]? = some (.cells #[.bool o.good, .int .i64 o.at_, .int .u8 o.how, vc, wc, uc] 59 (0, 0)) ∧
      OutR w2 (.agg #[.bool o.good, .int .i64 o.at_, .int .u8 o.how, va, wa, ua]) o ∧ OutR w2 (.agg #[.bool o.good, .int .i64 o.at_, .int .u8 o.how, vc, wc, uc]) o := by
  obtain ⟨b0, b1, b2, b3, b4, b5, h9⟩ := h.b9
  have r : Rel W.heap.size (fun _ o => ∃ C z, o = .cells C 56 z) w (w.setCells p9 0 [.bool o.good, .int .i64 o.at_, .int .u8 o.how, va, wa, ua]) := rel_lay h.l9 (fun C => ⟨C, _, rfl⟩) _ _ _ _ h9
  have nof : ∀ (t : Nat) (_ : t ≠ 56) (C : Array Value), ¬ (∃ C' z', Obj.cells C t (0, 0) = .cells C' 56 z') := fun t ht C ⟨C', z', h⟩ => by
    injection h with _ h2 _
    exact ht h2
  have hh := heap_setCells_same [.bool o.good, .int .i64 o.at_, .int .u8 o.how, va, wa, ua] w 0 _ h9
  exact ⟨_, rfl, r.out h.kb.bx h.kb.bx.size, hh, r.block h.b13 (fun _ => nof _ (by decide) _), (hin.rel r (fun k C _ _ => nof _ (by decide) _)).read hf, (h.c.rel r (fun k C _ _ => nof _ (by decide) _)).read hf⟩
theorem few_out {c : Cd} {fs : List Ft} : (probeO c fs).few := by
  unfold probeO
  split
  · unfold outF
    have h4 := steps_few c.fam
    split
    · exact ⟨h4.2.1, by simp, by simp⟩
    · rename_i m _
      have hr : (backR fs (stepsRun.stepsF c.fam) m).length ≤ 4 := by
        unfold backR
        rw [List.length_reverse, resT_len, List.length_take]
        omega
      refine ⟨by simp only [List.length_take]; omega, ?_, ?_⟩
      · exact Nat.le_trans (namesR_le _ _) hr
      · exact Nat.le_trans (namesR_le _ _) hr
  · exact ⟨by simp [zeroO], by simp [zeroO], by simp [zeroO]⟩

/-- The program's probe and the document's, by the outcome's parts. -/
def ProbeR (E : Int) (o : Oc) (w : World) (er : Ending) (w' : World) : Prop := ∃ ad cd ag cg az cz, er = .returned (.tuple #[.agg #[.bool o.good, .int .i64 o.at_, .int .u8 o.how, .slice ad o.done.length cd, .slice ag o.given.length cg, .slice az o.stuck.length cz], .int .i64 E]) ∧ OutIn w.heap.size w'.heap.size w' o (.slice ad o.done.length cd) (.slice ag o.given.length cg) (.slice az o.stuck.length cz) ∧ Below w.heap.size w w'
theorem probe_r {W : World} (hsh : W.ShapedOpen Try.prog) {n f q : ByteArray} {l s e : Int} {ss : List ByteArray} {sl : Value} {vf : Value} {fs : List Ft} {w : World} (hW : Below W.heap.size W w) (hs : Strs w sl ss) (hok : Cd.ok ⟨n, f, l, ss, s, q, e⟩) (hvf : FatesAt w vf fs) (hfo : ∀ f ∈ fs, f.ok) {E : Int} {o : Oc} (hE : E = probeE ⟨n, f, l, ss, s, q, e⟩ fs) (ho : o = probeO ⟨n, f, l, ss, s, q, e⟩ fs) :
    Calls Try.prog 19 #[.agg #[.string n, .string f, .int .u8 l, sl, .int .i8 s, .string q, .int .i16 e], vf] w (ProbeR E o w) := by
  subst hE ho
  refine (probe_all hsh n f q l s e ss sl vf fs w hW hs hok hvf hfo).mono ?_
  rintro er w' ⟨v, rfl, h, hb⟩
  obtain ⟨ad, cd, ag, cg, az, cz, rfl, hin⟩ := h.parts
  exact ⟨ad, cd, ag, cg, az, cz, rfl, hin, hb⟩
theorem rprobe_r {W : World} (hsh : W.ShapedOpen Try.prog) {n f q : ByteArray} {l s e : Int} {ss : List ByteArray} {sl : Value} {vf : Value} {fs : List Ft} {w : World} (hW : Below W.heap.size W w) (hs : Strs w sl ss) (hok : Cd.ok ⟨n, f, l, ss, s, q, e⟩) (hvf : FatesAt w vf fs) (hfo : ∀ f ∈ fs, f.ok) (hlen : fs.length ≤ 140737488355328) {E : Int} {o : Oc} (hE : E = probeE ⟨n, f, l, ss, s, q, e⟩ fs) (ho : o = probeO ⟨n, f, l, ss, s, q, e⟩ fs) :
    Calls Try.prog 20 #[.agg #[.string n, .string f, .int .u8 l, sl, .int .i8 s, .string q, .int .i16 e], vf] w (ProbeR E o w) := by
  subst hE ho
  refine (rprobe_any hsh n f q l s e ss sl vf fs w hW hs hok hvf hfo hlen).mono ?_
  rintro er w' ⟨v, rfl, h, hb⟩
  obtain ⟨ad, cd, ag, cg, az, cz, rfl, hin⟩ := h.parts
  exact ⟨ad, cd, ag, cg, az, cz, rfl, hin, hb⟩
theorem twinRow {w w' : World} {B n : Nat} {g c : Nat} {ss : List ByteArray} (h : w.ownsRow B 9 1 (.slice (some ⟨g, 0, none⟩) n c) n (sc ss)) (hn : ss.length = n) : RowIn B w.heap.size w (.slice (some ⟨g, 0, none⟩) n c) ss := .of h hn
end Go.Proofs.Ytnkababhgloclaa
