/- A statement that appends one new number to each of three rows, in whatever order it is carried out. -/
import Derived.Test.YtdhlmflbefnekaaDoorPairLib
import Derived.Deep.RegionHeld3
import Derived.Deep.AppendLies
import Derived.Great.BuildSlice
import Derived.Great.Frames
import Derived.OwnWalk
import Derived.Laws.Rows
namespace Go.Proofs.YtdhlmflbefnekaaDoor
open Go.RowKit Go.ChangeShapes
namespace Tri
/-- One of the three: the new element's block (operation ib, temporary sb, out of temporary sx), the append (ja, sa, to temporary ss). -/
structure Ch where
  ib : Nat
  ja : Nat
  sx : Nat
  sb : Nat
  ss : Nat
  sa : Nat
  ts : TypeId
  e : TypeId
/-- A row, and what is appended. -/
structure Va where
  v : Value
  xs : List Value
  x : Value
theorem fin3 {p : Fin 3 → Prop} (h0 : p 0) (h1 : p 1) (h2 : p 2) : ∀ k, p k := fun k => by
  match k with
  | 0 => exact h0
  | 1 => exact h1
  | 2 => exact h2
def tri (i j k : Nat) : Fin 3 → Nat := fun l => if l = 0 then i else if l = 1 then j else k
def upd {α : Type} (p : Fin 3 → α) (k : Fin 3) (v : α) : Fin 3 → α := fun l => if l = k then v else p l
theorem upd_same {α : Type} (p : Fin 3 → α) (k : Fin 3) (v : α) : upd p k v k = v := by simp [upd]
theorem upd_ne {α : Type} (p : Fin 3 → α) {k l : Fin 3} (v : α) (h : l ≠ k) : upd p k v l = p l := by simp [upd, h]
section
variable (P : Program) (ops : Array Oper) (c : Fin 3 → Ch) (va : Fin 3 → Va) (N n B : Nat) (a0 : Act) (w0 : World)
structure Ld where
  il : Nat
  tl : Nat
  tb : Nat
  bx : Nat
variable (d : Ld)
structure Fits : Prop where
  opb : ∀ k, ∃ o, ops[(c k).ib]? = some o ∧ o.guard = none ∧ o.op = .buildSlice (c k).ts 1 #[(0, .tmp (c k).sx)] ∧ o.dst = some (c k).sb
  opa : ∀ k, ∃ o, ops[(c k).ja]? = some o ∧ o.guard = none ∧ o.op = .call { callee := .builtin .append, args := #[.tmp (c k).ss, .tmp (c k).sb], argTypes := #[(c k).ts, (c k).ts] } ∧ o.dst = some (c k).sa
  opl : ∃ o, ops[d.il]? = some o ∧ o.guard = none ∧ o.op = .load (c 1).ts (.tmp d.tb) ∧ o.dst = some d.tl
  ht : ∀ k, P.underlying (c k).ts = some (.slice (c k).e)
  hi : ∀ k, ∃ i z, P.info? (c k).e = some i ∧ i.zero = some z ∧ i.size = 1 ∧ i.bytes = 8 ∧ z.cells.size = 1
  ba : ∀ k l, (c k).sb ≠ (c l).sa
  bb : ∀ k l, k ≠ l → (c k).sb ≠ (c l).sb
  aa : ∀ k l, k ≠ l → (c k).sa ≠ (c l).sa
  src : ∀ k l, (c k).sx ≠ (c l).sb ∧ (c k).sx ≠ (c l).sa ∧ (c k).ss ≠ (c l).sb ∧ (c k).ss ≠ (c l).sa
  tlx : ∀ k, d.tl ≠ (c k).sx ∧ d.tl ≠ (c k).sb ∧ d.tl ≠ (c k).sa ∧ (k ≠ 1 → d.tl ≠ (c k).ss) ∧ d.tb ≠ (c k).sb ∧ d.tb ≠ (c k).sa
  tlb : d.tb ≠ d.tl
  s1 : (c 1).ss = d.tl
  sz : a0.tmps.size = N
  ltN : ∀ k, (c k).sb < N ∧ (c k).sa < N
  ltlN : d.tl < N
  ex : ∀ k, a0.eval (.tmp (c k).sx) = (va k).x
  es : ∀ k, k ≠ 1 → a0.eval (.tmp (c k).ss) = (va k).v
  eb : a0.eval (.tmp d.tb) = .pointer (some ⟨d.bx, 0, none⟩)
  cb : w0.cell? ⟨d.bx, 0, none⟩ = some (va 1).v
  nb : ∀ k, (va k).v.ownBlock ≠ some d.bx
  own : ∀ k, w0.ownsRow B (c k).e 1 (va k).v n (va k).xs
  one : ∀ k, (va k).x.oneCell' = true
  cel : ∀ k, (va k).x.cells = #[(va k).x]
  ne : ∀ k l, k ≠ l → (c k).e ≠ (c l).e
  b1 : n + 1 ≤ maxLen
  b2 : (n + 1) * 8 ≤ 140737488355328
  base : B ≤ w0.heap.size
theorem Fits.lt {P : Program} {ops : Array Oper} {c : Fin 3 → Ch} {va : Fin 3 → Va} {N n B : Nat} {a0 : Act} {w0 : World} {d : Ld} (F : Fits P ops c va N n B a0 w0 d) (k : Fin 3) : (c k).sb < a0.tmps.size ∧ (c k).sa < a0.tmps.size := by rw [F.sz]; exact F.ltN k
theorem Fits.ltl {P : Program} {ops : Array Oper} {c : Fin 3 → Ch} {va : Fin 3 → Va} {N n B : Nat} {a0 : Act} {w0 : World} {d : Ld} (F : Fits P ops c va N n B a0 w0 d) : d.tl < a0.tmps.size := by rw [F.sz]; exact F.ltlN
/-- How far it has come: p k = 0 nothing, 1 the new block, 2 the append; r k: the row. -/
structure St (q : Nat) (p : Fin 3 → Nat) (r : Fin 3 → Value) (a : Act) (w : World) : Prop where
  size : a.tmps.size = a0.tmps.size
  defs : a.defers = a0.defers
  oth : ∀ t, t ≠ d.tl → (∀ k, t ≠ (c k).sb ∧ t ≠ (c k).sa) → a.eval (.tmp t) = a0.eval (.tmp t)
  ld : q = 1 → a.eval (.tmp d.tl) = (va 1).v
  row : ∀ k, p k < 2 → r k = (va k).v ∧ w.ownsRow B (c k).e 1 (r k) n (va k).xs
  new : ∀ k, p k = 1 → ∃ g, a.eval (.tmp (c k).sb) = .slice (some ⟨g, 0, none⟩) 1 1 ∧ w.heap[g]? = some (.cells #[(va k).x] (c k).e (0, 0)) ∧ ∀ l, (r l).ownBlock ≠ some g
  fin : ∀ k, p k = 2 → a.eval (.tmp (c k).sa) = r k ∧ (∃ g cap, r k = .slice (some ⟨g, 0, none⟩) (n + 1) cap) ∧ w.ownsRow B (c k).e 1 (r k) (n + 1) ((va k).xs ++ [(va k).x])
  le : ∀ k, p k ≤ 2
  below : Below B w0 w
  same : ∀ b, b < w0.heap.size → (∀ k, (va k).v.ownBlock ≠ some b) → w.heap[b]? = w0.heap[b]?
variable {P ops c va N n B a0 w0 d} {q : Nat}
theorem St.start (F : Fits P ops c va N n B a0 w0 d) : St c va n B a0 w0 d 0 (tri 0 0 0) (fun k => (va k).v) a0 w0 where
  size := rfl
  defs := rfl
  oth _ _ _ := rfl
  ld h := by cases h
  row k _ := ⟨rfl, F.own k⟩
  new k h := by simp [tri] at h
  fin k h := by simp [tri] at h
  le k := by simp [tri]
  below := Below.refl _ _
  same _ _ _ := rfl
/-- Every row's block lies in the heap. -/
theorem St.own {p : Fin 3 → Nat} {r : Fin 3 → Value} {a : Act} {w : World} (H : St c va n B a0 w0 d q p r a w) (l : Fin 3) : ∃ m xs, w.ownsRow B (c l).e 1 (r l) m xs := by
  rcases Nat.lt_or_ge (p l) 2 with h | h
  · exact ⟨_, _, (H.row l h).2⟩
  · exact ⟨_, _, (H.fin l (Nat.le_antisymm (H.le l) h)).2.2⟩
theorem St.build (F : Fits P ops c va N n B a0 w0 d) {p : Fin 3 → Nat} {r : Fin 3 → Value} {a : Act} {w : World} (H : St c va n B a0 w0 d q p r a w) (k : Fin 3) (hk : p k = 0) :
    St c va n B a0 w0 d q (upd p k 1) r (a.put (some (c k).sb) (.slice (some ⟨w.heap.size, 0, none⟩) 1 1)) (w.alloc (.cells #[(va k).x] (c k).e)) where
  size := by rw [Act.size_put]; exact H.size
  defs := by rw [Act.defers_put']; exact H.defs
  oth t h0 ht := by rw [Act.eval_put_ne _ _ _ _ (Ne.symm (ht k).1)]; exact H.oth t h0 ht
  ld h := by rw [Act.eval_put_ne _ _ _ _ (Ne.symm (F.tlx k).2.1)]; exact H.ld h
  row l hl := by
    have h : p l < 2 := by
      by_cases e : l = k
      · rw [e, hk]; omega
      · rwa [upd_ne p 1 e] at hl
    exact ⟨(H.row l h).1, (H.row l h).2.alloc _⟩
  new l hl := by
    by_cases e : l = k
    · subst e
      refine ⟨w.heap.size, Act.eval_put_same _ _ _ (by rw [H.size]; exact (F.lt l).1), heap_alloc_new w _, fun m hm => ?_⟩
      obtain ⟨_, _, ho⟩ := H.own m
      exact absurd (ho.lt _ hm).2 (Nat.lt_irrefl _)
    · rw [upd_ne p 1 e] at hl
      obtain ⟨g, g1, g2, g3⟩ := H.new l hl
      have hg : g < w.heap.size := (Array.getElem?_eq_some_iff.1 g2).1
      exact ⟨g, by rw [Act.eval_put_ne _ _ _ _ (F.bb k l (Ne.symm e))]; exact g1, by rw [Below.heap_alloc w _ g hg]; exact g2, g3⟩
  fin l hl := by
    by_cases e : l = k
    · subst e; rw [upd_same] at hl; omega
    · rw [upd_ne p 1 e] at hl
      obtain ⟨h1, h2, h3⟩ := H.fin l hl
      exact ⟨by rw [Act.eval_put_ne _ _ _ _ (F.ba k l)]; exact h1, h2, h3.alloc _⟩
  le l := by
    by_cases e : l = k
    · subst e; rw [upd_same]; omega
    · rw [upd_ne p 1 e]; exact H.le l
  below := H.below.alloc (Nat.le_trans F.base H.below.size) _
  same b hb hv := by rw [Below.heap_alloc w _ b (Nat.lt_of_lt_of_le hb H.below.size)]; exact H.same b hb hv
theorem St.push (F : Fits P ops c va N n B a0 w0 d) {p : Fin 3 → Nat} {r : Fin 3 → Value} {a : Act} {w w' : World} (H : St c va n B a0 w0 d q p r a w) (k : Fin 3) (hk : p k = 1) (g cap : Nat) (hat : (r k).ownBlock = some g ∨ g = w.heap.size)
    (hown : w'.ownsRow B (c k).e 1 (.slice (some ⟨g, 0, none⟩) (n + 1) cap) (n + 1) ((va k).xs ++ [(va k).x])) (hgrow : w.grownBy w' (r k).ownBlock) :
    St c va n B a0 w0 d q (upd p k 2) (upd r k (.slice (some ⟨g, 0, none⟩) (n + 1) cap)) (a.put (some (c k).sa) (.slice (some ⟨g, 0, none⟩) (n + 1) cap)) w' := by
  have hrk := (H.row k (by omega)).2
  have hvk := (H.row k (by omega)).1
  have keep : ∀ (l : Fin 3) (m : Nat) (xs : List Value), l ≠ k → w.ownsRow B (c l).e 1 (r l) m xs → w'.ownsRow B (c l).e 1 (r l) m xs := fun l m xs e h => h.kept hgrow (own_ne h hrk (F.ne l k e))
  refine ⟨by rw [Act.size_put]; exact H.size, by rw [Act.defers_put']; exact H.defs, fun t h0 ht => by rw [Act.eval_put_ne _ _ _ _ (Ne.symm (ht k).2)]; exact H.oth t h0 ht, fun h => by rw [Act.eval_put_ne _ _ _ _ (Ne.symm (F.tlx k).2.2.1)]; exact H.ld h, fun l hl => ?_, fun l hl => ?_, fun l hl => ?_, fun l => ?_, H.below.grown hgrow (Nat.le_trans F.base H.below.size) (fun q hq => (hrk.lt q hq).1), fun b hb hv => ?_⟩
  · by_cases e : l = k
    · subst e; rw [upd_same] at hl; omega
    · rw [upd_ne p 2 e] at hl
      rw [upd_ne r _ e]
      exact ⟨(H.row l hl).1, keep l _ _ e (H.row l hl).2⟩
  · by_cases e : l = k
    · subst e; rw [upd_same] at hl; omega
    · rw [upd_ne p 2 e] at hl
      obtain ⟨q, g1, g2, g3⟩ := H.new l hl
      have hq : q < w.heap.size := (Array.getElem?_eq_some_iff.1 g2).1
      refine ⟨q, by rw [Act.eval_put_ne _ _ _ _ (Ne.symm (F.ba l k))]; exact g1, by rw [hgrow.block q hq (Ne.symm (g3 k))]; exact g2, fun m hm => ?_⟩
      by_cases e2 : m = k
      · subst e2
        rw [upd_same] at hm
        simp only [Value.ownBlock, Option.some.injEq] at hm
        rcases hat with h | h
        · exact g3 m (by rw [h, hm])
        · omega
      · rw [upd_ne r _ e2] at hm
        exact g3 m hm
  · by_cases e : l = k
    · subst e
      rw [upd_same]
      exact ⟨Act.eval_put_same _ _ _ (by rw [H.size]; exact (F.lt l).2), ⟨g, cap, rfl⟩, hown⟩
    · rw [upd_ne p 2 e] at hl
      rw [upd_ne r _ e]
      obtain ⟨h1, h2, h3⟩ := H.fin l hl
      exact ⟨by rw [Act.eval_put_ne _ _ _ _ (F.aa k l (Ne.symm e))]; exact h1, h2, keep l _ _ e h3⟩
  · by_cases e : l = k
    · subst e; rw [upd_same]; exact Nat.le_refl _
    · rw [upd_ne p 2 e]; exact H.le l
  · rw [hgrow.block b (Nat.lt_of_lt_of_le hb H.below.size) (by rw [hvk]; exact fun h => hv k h.symm)]
    exact H.same b hb hv
theorem St.load (F : Fits P ops c va N n B a0 w0 d) {p : Fin 3 → Nat} {r : Fin 3 → Value} {a : Act} {w : World} (H : St c va n B a0 w0 d q p r a w) : St c va n B a0 w0 d 1 p r (a.put (some d.tl) (va 1).v) w where
  size := by rw [Act.size_put]; exact H.size
  defs := by rw [Act.defers_put']; exact H.defs
  oth t h0 ht := by rw [Act.eval_put_ne _ _ _ _ (Ne.symm h0)]; exact H.oth t h0 ht
  ld _ := Act.eval_put_same _ _ _ (by rw [H.size]; exact F.ltl)
  row := H.row
  new k hk := by rw [Act.eval_put_ne _ _ _ _ (F.tlx k).2.1]; exact H.new k hk
  fin k hk := by rw [Act.eval_put_ne _ _ _ _ (F.tlx k).2.2.1]; exact H.fin k hk
  le := H.le
  below := H.below
  same := H.same
/-- The frame, when all is done. -/
def fr (a0 : Act) (c : Fin 3 → Ch) (t : Nat) (x : Value) (y z : Fin 3 → Value) : Act := ((((((a0.put (some t) x).put (some (c 0).sb) (y 0)).put (some (c 0).sa) (z 0)).put (some (c 1).sb) (y 1)).put (some (c 1).sa) (z 1)).put (some (c 2).sb) (y 2)).put (some (c 2).sa) (z 2)
theorem act_ext {a b : Act} (h1 : a.tmps.size = b.tmps.size) (h2 : a.defers = b.defers) (h3 : ∀ t, a.eval (.tmp t) = b.eval (.tmp t)) : a = b := by
  obtain ⟨t1, d1⟩ := a
  obtain ⟨t2, d2⟩ := b
  obtain rfl : d1 = d2 := h2
  congr 1
  apply Array.ext h1
  intro i hi1 hi2
  have := h3 i
  simpa [Act.eval, Array.getD, hi1, hi2] using this
theorem St.frame (F : Fits P ops c va N n B a0 w0 d) {p : Fin 3 → Nat} {r : Fin 3 → Value} {a : Act} {w : World} (H : St c va n B a0 w0 d q p r a w) : a = fr a0 c d.tl (a.eval (.tmp d.tl)) (fun k => a.eval (.tmp (c k).sb)) (fun k => a.eval (.tmp (c k).sa)) := by
  have hs : ∀ (b : Act) (d t : Nat) (v : Value), b.tmps.size = a0.tmps.size → d < a0.tmps.size → (b.put (some d) v).eval (.tmp t) = if t = d then v else b.eval (.tmp t) := fun b d t v hb hd => by
    by_cases e : t = d
    · subst e; rw [if_pos rfl, Act.eval_put_same _ _ _ (by omega)]
    · rw [if_neg e, Act.eval_put_ne _ _ _ _ (Ne.symm e)]
  refine act_ext (by simp only [fr, Act.size_put]; exact H.size) (by simp only [fr, Act.defers_put']; exact H.defs) (fun t => ?_)
  unfold fr
  rw [hs _ _ _ _ (by simp only [Act.size_put]) (F.lt 2).2, hs _ _ _ _ (by simp only [Act.size_put]) (F.lt 2).1, hs _ _ _ _ (by simp only [Act.size_put]) (F.lt 1).2, hs _ _ _ _ (by simp only [Act.size_put]) (F.lt 1).1, hs _ _ _ _ (by simp only [Act.size_put]) (F.lt 0).2, hs _ _ _ _ (by simp only [Act.size_put]) (F.lt 0).1, hs _ _ _ _ rfl F.ltl]
  by_cases h1 : t = (c 2).sa
  · rw [if_pos h1, h1]
  rw [if_neg h1]
  by_cases h2 : t = (c 2).sb
  · rw [if_pos h2, h2]
  rw [if_neg h2]
  by_cases h3 : t = (c 1).sa
  · rw [if_pos h3, h3]
  rw [if_neg h3]
  by_cases h4 : t = (c 1).sb
  · rw [if_pos h4, h4]
  rw [if_neg h4]
  by_cases h5 : t = (c 0).sa
  · rw [if_pos h5, h5]
  rw [if_neg h5]
  by_cases h6 : t = (c 0).sb
  · rw [if_pos h6, h6]
  rw [if_neg h6]
  by_cases h7 : t = d.tl
  · rw [if_pos h7, h7]
  rw [if_neg h7]
  refine H.oth t h7 (fun k => ?_)
  match k with
  | 0 => exact ⟨h6, h5⟩
  | 1 => exact ⟨h4, h3⟩
  | 2 => exact ⟨h2, h1⟩
end
/-- The states that come up: the appends go in the text's order, the second behind its load. -/
def reach (q i j k : Nat) : Bool := (j != 2 || (i == 2 && q == 1)) && (k != 2 || j == 2)
/-- Which may come up, and that the lists are those. -/
def chk (ops : Array Oper) (ib ja : Fin 3 → Nat) (il : Nat) (L : Nat → Nat → Nat → Nat → Array Bool) : Bool :=
  (List.range 2).all fun q => (List.range 3).all fun i => (List.range 3).all fun j => (List.range 3).all fun k => (q + i + j + k == 7 || !reach q i j k) ||
    (!(Region.ready .any ops (L q i j k)).isEmpty && (Region.ready .any ops (L q i j k)).all fun t =>
      (t == ib 0 && i == 0 && ((L q i j k).setIfInBounds t true == L q 1 j k && reach q 1 j k)) || (t == ja 0 && i == 1 && ((L q i j k).setIfInBounds t true == L q 2 j k && reach q 2 j k)) ||
      (t == ib 1 && j == 0 && ((L q i j k).setIfInBounds t true == L q i 1 k && reach q i 1 k)) || (t == ja 1 && (j == 1 && q == 1) && ((L q i j k).setIfInBounds t true == L q i 2 k && reach q i 2 k)) ||
      (t == ib 2 && k == 0 && ((L q i j k).setIfInBounds t true == L q i j 1 && reach q i j 1)) || (t == ja 2 && k == 1 && ((L q i j k).setIfInBounds t true == L q i j 2 && reach q i j 2)) ||
      (t == il && q == 0 && ((L q i j k).setIfInBounds t true == L 1 i j k && reach 1 i j k)))
section
variable {P : Program} {ops : Array Oper} {Q : Exit → Act → World → Prop} {c : Fin 3 → Ch} {va : Fin 3 → Va} {N n B : Nat} {a0 : Act} {w0 : World} {d : Ld} {q : Nat}
theorem tri0 (i j k v : Nat) : upd (tri i j k) 0 v = tri v j k := by
  funext l
  match l with
  | 0 => rfl
  | 1 => rfl
  | 2 => rfl
theorem tri1 (i j k v : Nat) : upd (tri i j k) 1 v = tri i v k := by
  funext l
  match l with
  | 0 => rfl
  | 1 => rfl
  | 2 => rfl
theorem tri2 (i j k v : Nat) : upd (tri i j k) 2 v = tri i j v := by
  funext l
  match l with
  | 0 => rfl
  | 1 => rfl
  | 2 => rfl
theorem opB (F : Fits P ops c va N n B a0 w0 d) {p : Fin 3 → Nat} {r : Fin 3 → Value} {a : Act} {w : World} (H : St c va n B a0 w0 d q p r a w) (k : Fin 3) (hk : p k = 0) (K : Act → World → Prop)
    (hK : ∀ a' w', St c va n B a0 w0 d q (upd p k 1) r a' w' → K a' w') : wpOp P ops Q (c k).ib K a w := by
  obtain ⟨o, h1, h2, h3, h4⟩ := F.opb k
  unfold wpOp
  simp only [h1]
  rw [if_pos (by simp [Region.wanted, h2])]
  left
  obtain ⟨i, z, hi, hz, hs, _, hzc⟩ := F.hi k
  refine wp_buildSlice (c k).ts (c k).e 1 #[(0, .tmp (c k).sx)] h3 #[(va k).x] i z (F.ht k) hi hz (by rw [hs]; simp) (by rw [hs]; simp) ?_ ?_
  · have e : a.eval (.tmp (c k).sx) = (va k).x := by rw [H.oth _ (Ne.symm (F.tlx k).1) (fun l => ⟨(F.src k l).1, (F.src k l).2.1⟩), F.ex k]
    have hx := F.cel k
    generalize (va k).x = x at *
    simp [Instr.fill, hs, e, hx]
    apply Array.ext (by simp)
    intro i h1 h2
    simp at h2
    subst h2
    simp
  · rw [h4]
    exact hK _ _ (H.build F k hk)
theorem opA (F : Fits P ops c va N n B a0 w0 d) {p : Fin 3 → Nat} {r : Fin 3 → Value} {a : Act} {w : World} (H : St c va n B a0 w0 d q p r a w) (k : Fin 3) (hk : p k = 1) (hq : k = 1 → q = 1) (K : Act → World → Prop)
    (hK : ∀ a' w' r', St c va n B a0 w0 d q (upd p k 2) r' a' w' → K a' w') : wpOp P ops Q (c k).ja K a w := by
  obtain ⟨o, h1, h2, h3, h4⟩ := F.opa k
  unfold wpOp
  simp only [h1]
  rw [if_pos (by simp [Region.wanted, h2])]
  left
  obtain ⟨i, z, hi, hz, hs, hb, hzc⟩ := F.hi k
  obtain ⟨hv, hrow⟩ := H.row k (by omega)
  obtain ⟨g, g1, g2, g3⟩ := H.new k hk
  have es : a.eval (.tmp (c k).ss) = r k := by
    by_cases e : k = 1
    · subst e
      rw [F.s1, H.ld (hq rfl), hv]
    · rw [H.oth _ (Ne.symm ((F.tlx k).2.2.2.1 e)) (fun l => ⟨(F.src k l).2.2.1, (F.src k l).2.2.2⟩), F.es k e, hv]
  refine wp_append_lies w (.tmp (c k).ss) (.tmp (c k).sb) (c k).ts h3 B (c k).e i z 1 8 (F.ht k) hi hz hs hb hzc (by omega) (r k) n (va k).xs es hrow ⟨g, 0, none⟩ 1 1 [(va k).x] g1 (by simp) (World.news_of_block (cs := #[(va k).x]) g2) (by simpa using F.one k) (by omega) F.b1 F.b2 (Nat.le_trans F.base H.below.size) w.heap.size rfl (fun g' cap w' hown hgrow hat hlt => ?_)
  rw [h4]
  exact hK _ _ _ (H.push F k hk g' cap hat hown hgrow)
theorem opL (F : Fits P ops c va N n B a0 w0 d) {p : Fin 3 → Nat} {r : Fin 3 → Value} {a : Act} {w : World} (H : St c va n B a0 w0 d q p r a w) (K : Act → World → Prop)
    (hK : ∀ a', St c va n B a0 w0 d 1 p r a' w → K a' w) : wpOp P ops Q d.il K a w := by
  obtain ⟨o, h1, h2, h3, h4⟩ := F.opl
  have hbx : d.bx < w0.heap.size := World.block_lt_of_cell? w0 _ F.cb
  have hc : w.cell? ⟨d.bx, 0, none⟩ = some (va 1).v := by
    rw [World.cell?_of_block (w := w0) (H.same d.bx hbx F.nb)]
    exact F.cb
  have he : a.eval (.tmp d.tb) = .pointer (some ⟨d.bx, 0, none⟩) := by rw [H.oth _ F.tlb (fun k => (F.tlx k).2.2.2.2), F.eb]
  have hu := F.ht 1
  unfold wpOp
  simp only [h1]
  rw [if_pos (by simp [Region.wanted, h2])]
  left
  have hK' := hK _ (H.load F)
  rw [← h4] at hK'
  clear hK F H
  have he2 : a.tmps[d.tb]?.getD undef = .pointer (some ⟨d.bx, 0, none⟩) := by simpa [Act.eval, Array.getD_eq_getD_getElem?] using he
  have hag : ∀ w, Sem.run P (isAgg (c 1).ts) w = .ok false w := fun w => by simp [isAgg, run_underlying hu]
  unfold Oper.wp
  go_simp
  rw [h4] at hK'
  exact hK'
theorem main (F : Fits P ops c va N n B a0 w0 d) (L : Nat → Nat → Nat → Nat → Array Bool) (f : Nat) (hch : chk ops (fun k => (c k).ib) (fun k => (c k).ja) d.il L = true)
    (hdone : ∀ y r w, St c va n B a0 w0 d 1 (tri 2 2 2) r (fr a0 c d.tl (va 1).v y r) w → wpAny P .any ops Q f (L 1 2 2 2) (fr a0 c d.tl (va 1).v y r) w) :
    ∀ (m q i j k : Nat) (r : Fin 3 → Value) (a : Act) (w : World), q ≤ 1 → i ≤ 2 → j ≤ 2 → k ≤ 2 → q + i + j + k + m = 7 → reach q i j k = true → St c va n B a0 w0 d q (tri i j k) r a w → wpAny P .any ops Q (f + m) (L q i j k) a w := by
  intro m
  induction m with
  | zero =>
    intro q i j k r a w hq hi hj hk hs hre H
    obtain rfl : q = 1 := by omega
    obtain rfl : i = 2 := by omega
    obtain rfl : j = 2 := by omega
    obtain rfl : k = 2 := by omega
    have hz : (fun l => a.eval (.tmp (c l).sa)) = r := funext fun l => (H.fin l (by
      match l with
      | 0 => rfl
      | 1 => rfl
      | 2 => rfl)).1
    have hf := H.frame F
    rw [hz, H.ld rfl] at hf
    rw [hf] at H ⊢
    exact hdone _ _ _ H
  | succ m ih =>
    intro q i j k r a w hq hi hj hk hs hre H
    have hch := hch
    simp only [chk, List.all_eq_true, List.mem_range] at hch
    have h0 := hch q (by omega) i (by omega) j (by omega) k (by omega)
    rw [Bool.or_eq_true] at h0
    rcases h0 with h0 | h0
    · simp [hre] at h0; omega
    rw [Bool.and_eq_true] at h0
    obtain ⟨hne, hall⟩ := h0
    rw [show f + (m + 1) = f + m + 1 from rfl]
    refine wpAny_all rfl (by
      intro h
      rw [h] at hne
      cases hne) (fun t ht => ?_)
    have ht2 := List.all_eq_true.1 hall t ht
    simp only [Bool.or_eq_true, Bool.and_eq_true, beq_iff_eq] at ht2
    rcases ht2 with ((((((⟨⟨rfl, rfl⟩, e, hn⟩ | ⟨⟨rfl, rfl⟩, e, hn⟩) | ⟨⟨rfl, rfl⟩, e, hn⟩) | ⟨⟨rfl, rfl, rfl⟩, e, hn⟩) | ⟨⟨rfl, rfl⟩, e, hn⟩) | ⟨⟨rfl, rfl⟩, e, hn⟩) | ⟨⟨rfl, rfl⟩, e, hn⟩)
    · rw [e]
      exact opB F H 0 rfl _ (fun a' w' H' => by rw [tri0] at H'; exact ih _ _ _ _ r a' w' hq (by omega) hj hk (by omega) hn H')
    · rw [e]
      exact opA F H 0 rfl (fun h => by cases h) _ (fun a' w' r' H' => by rw [tri0] at H'; exact ih _ _ _ _ r' a' w' hq (by omega) hj hk (by omega) hn H')
    · rw [e]
      exact opB F H 1 rfl _ (fun a' w' H' => by rw [tri1] at H'; exact ih _ _ _ _ r a' w' hq hi (by omega) hk (by omega) hn H')
    · rw [e]
      exact opA F H 1 rfl (fun _ => rfl) _ (fun a' w' r' H' => by rw [tri1] at H'; exact ih _ _ _ _ r' a' w' hq hi (by omega) hk (by omega) hn H')
    · rw [e]
      exact opB F H 2 rfl _ (fun a' w' H' => by rw [tri2] at H'; exact ih _ _ _ _ r a' w' hq hi hj (by omega) (by omega) hn H')
    · rw [e]
      exact opA F H 2 rfl (fun h => by cases h) _ (fun a' w' r' H' => by rw [tri2] at H'; exact ih _ _ _ _ r' a' w' hq hi hj (by omega) (by omega) hn H')
    · rw [e]
      exact opL F H _ (fun a' H' => ih _ _ _ _ r a' w (by omega) hi hj hk (by omega) hn H')
theorem main0 (F : Fits P ops c va N n B a0 w0 d) (L : Nat → Nat → Nat → Nat → Array Bool) (f : Nat) (hch : chk ops (fun k => (c k).ib) (fun k => (c k).ja) d.il L = true)
    (hdone : ∀ y r w, St c va n B a0 w0 d 1 (tri 2 2 2) r (fr a0 c d.tl (va 1).v y r) w → wpAny P .any ops Q f (L 1 2 2 2) (fr a0 c d.tl (va 1).v y r) w) : wpAny P .any ops Q (f + 7) (L 0 0 0 0) a0 w0 :=
  main F L f hch hdone 7 0 0 0 0 _ a0 w0 (by omega) (by omega) (by omega) (by omega) rfl rfl (St.start F)
theorem stepAssign {f i dd : Nat} {o : Oper} {listed : Array Bool} {a : Act} {w : World} (x : Operand) (v : Value) (hv : a.eval x = v) (hr : Region.ready .any ops listed = [i]) (ho : ops[i]? = some o) (hg : o.guard = none) (hop : o.op = .assign x) (hd : o.dst = some dd)
    (h : wpAny P .any ops Q f (listed.setIfInBounds i true) (a.put (some dd) v) w) : wpAny P .any ops Q (f + 1) listed a w := by
  refine wpAny_all hr (by simp) (fun j hj => ?_)
  obtain rfl : j = i := by simpa using hj
  unfold wpOp
  simp only [ho]
  rw [if_pos (by simp [Region.wanted, hg])]
  left
  rw [← hd, ← hv] at h
  unfold Oper.wp execOp
  rw [hop]
  exact h
theorem stepStore {f i : Nat} {o : Oper} {listed : Array Bool} {a : Act} {w : World} (ty t : TypeId) (p x : Operand) (g : Nat) (old v : Value) (hv : a.eval x = v) (hr : Region.ready .any ops listed = [i]) (ho : ops[i]? = some o) (hgd : o.guard = none) (hop : o.op = .store ty p x) (hd : o.dst = none)
    (hp : a.eval p = .pointer (some ⟨g, 0, none⟩)) (h1 : v.oneCell' = true) (hg : w.heap[g]? = some (.cells #[old] t (0, 0))) (hi : (P.info? ty).map (·.size) = some 1)
    (h : wpAny P .any ops Q f (listed.setIfInBounds i true) a (w.setCell ⟨g, 0, none⟩ v)) : wpAny P .any ops Q (f + 1) listed a w := by
  refine wpAny_all hr (by simp) (fun j hj => ?_)
  obtain rfl : j = i := by simpa using hj
  unfold wpOp
  simp only [ho]
  rw [if_pos (by simp [Region.wanted, hgd])]
  left
  unfold Oper.wp execOp
  simp only [hop, hp, hv, Instr.storeAt, Instr.sureAddr, Sem.run_bind, Sem.run_pure, Result.andThen_ok, run_storeVar_one w g t ty old _ hg hi h1]
  rw [setCell_eq_setRow w g 0 #[old] t (0, 0) _ hg] at h
  show wpAny P .any ops Q f (listed.setIfInBounds j true) (a.put o.dst undef) _
  rw [hd]
  exact h
end
end Tri
end Go.Proofs.YtdhlmflbefnekaaDoor
