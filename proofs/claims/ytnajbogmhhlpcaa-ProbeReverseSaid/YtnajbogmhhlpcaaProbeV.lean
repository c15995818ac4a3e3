/- A probe's plain law: which step stops it; the things in its bag; what is given back. -/
import Derived.Test.YtnajbogmhhlpcaaProbeA
namespace Go.Proofs.Ytnajbogmhhlpcaa
open Go.RowKit Go.ChangeShapes
/-- The things of a probe's bag: the steps' names, each with the box of its fate. -/
def thQ : Nat → List ByteArray → List Nat → List Th
  | i, nm :: ns, q :: qs => ⟨(i : Int) + 1, nm, some (51, #[.pointer (some ⟨q, 0, none⟩)])⟩ :: thQ (i + 1) ns qs
  | _, _, _ => []
theorem thQ_len : ∀ (i : Nat) (ns : List ByteArray) (qs : List Nat), ns.length = qs.length → (thQ i ns qs).length = ns.length
  | _, [], [], _ => rfl
  | i, nm :: ns, q :: qs, h => by simp [thQ, thQ_len (i + 1) ns qs (by simpa using h)]
theorem thQ_add : ∀ (i : Nat) (ns : List ByteArray) (qs : List Nat) (nm : ByteArray) (q : Nat), ns.length = qs.length → thQ i (ns ++ [nm]) (qs ++ [q]) = thQ i ns qs ++ [⟨((i + ns.length : Nat) : Int) + 1, nm, some (51, #[.pointer (some ⟨q, 0, none⟩)])⟩]
  | i, [], [], nm, q, _ => by simp [thQ]
  | i, n :: ns, p :: qs, nm, q, h => by
    simp only [List.cons_append, thQ, thQ_add (i + 1) ns qs nm q (by simpa using h), List.length_cons]
    rw [show i + 1 + ns.length = i + (ns.length + 1) by omega]
theorem thQ_get : ∀ (i : Nat) (ns : List ByteArray) (qs : List Nat), ns.length = qs.length → ∀ t ∈ thQ i ns qs, ∃ j, ∃ (h1 : j < ns.length) (h2 : j < qs.length), t = ⟨((i + j : Nat) : Int) + 1, ns[j], some (51, #[.pointer (some ⟨qs[j], 0, none⟩)])⟩
  | _, [], [], _, t, ht => by simp [thQ] at ht
  | i, nm :: ns, q :: qs, h, t, ht => by
    simp only [thQ, List.mem_cons] at ht
    rcases ht with rfl | ht
    · exact ⟨0, by simp, by simp, by simp⟩
    · obtain ⟨j, h1, h2, e⟩ := thQ_get (i + 1) ns qs (by simpa using h) t ht
      exact ⟨j + 1, by simp; omega, by simp; omega, by rw [e]; simp; omega⟩
/-- The boxes of the fates, from the first step on. -/
def Boxes (fs : List Ft) (w : World) (N : Nat) (qs : List Nat) : Prop := ∀ j (h : j < qs.length), N ≤ qs[j] ∧ w.heap[qs[j]]? = some (.cells (ofT fs j).cells.toArray 67 (0, 0))
theorem Boxes.rel {fs : List Ft} {w w' : World} {N B : Nat} {S : Nat → Obj → Prop} {qs : List Nat} (h : Boxes fs w N qs) (hr : Rel B S w w') (hs : ∀ k C z, ¬ S k (.cells C 67 z)) : Boxes fs w' N qs := fun j hj => ⟨(h j hj).1, hr.block (h j hj).2 (fun _ => hs _ _ _)⟩
theorem Boxes.below {fs : List Ft} {w w' : World} {N : Nat} {qs : List Nat} (h : Boxes fs w N qs) (hb : Below w.heap.size w w') : Boxes fs w' N qs := h.rel (B := 0) (S := fun _ _ => False) (Rel.below hb) (fun _ _ _ h => h)
theorem Boxes.add {fs : List Ft} {w : World} {N : Nat} {qs : List Nat} (h : Boxes fs w N qs) {q : Nat} (hN : N ≤ q) (hq : w.heap[q]? = some (.cells (ofT fs qs.length).cells.toArray 67 (0, 0))) : Boxes fs w N (qs ++ [q]) := fun j hj => by
  by_cases h1 : j < qs.length
  · rw [List.getElem_append_left h1]
    exact h j h1
  · have e : j = qs.length := by simp at hj; omega
    subst e
    simpa using ⟨hN, hq⟩
/-- How far a probe comes: the steps done, whether all were, the one that stopped it, how. -/
structure Far (fs : List Ft) (n : Nat) (m : Nat) (g : Bool) (at_ how : Int) : Prop where
  fine : ∀ j, j < m → (ofT fs j).how = 0
  le : m ≤ n
  yes : g = true → m = n ∧ at_ = -1 ∧ how = 0
  no : g = false → m < n ∧ at_ = m ∧ how = (ofT fs m).how ∧ how ≠ 0
theorem ofT_ok {fs : List Ft} (h : ∀ f ∈ fs, f.ok) (hb : fs.any badT = false) (s : Int) : 0 ≤ (ofT fs s).how ∧ (ofT fs s).how ≤ 2 ∧ 0 ≤ (ofT fs s).back ∧ (ofT fs s).back ≤ 2 := by
  unfold ofT
  cases hf : fs.find? (isT s) with
  | none => simp
  | some f =>
    have hm := List.mem_of_find?_eq_some hf
    have h1 := h f hm
    rw [List.any_eq_false] at hb
    have h2 := hb f hm
    simp only [badT, Bool.or_eq_true, decide_eq_true_eq, not_or] at h2
    simp only [Option.getD_some]
    unfold Ft.ok at h1
    omega
theorem steps_few (f : ByteArray) : 1 ≤ (stepsRun.stepsF f).length ∧ (stepsRun.stepsF f).length ≤ 4 ∧ ∀ s ∈ stepsRun.stepsF f, s.size ≤ 31 := by
  unfold stepsRun.stepsF
  split
  · refine ⟨by simp, by simp, fun s hs => ?_⟩
    simp only [List.mem_cons, List.not_mem_nil, or_false] at hs
    rcases hs with rfl | rfl | rfl <;> decide
  · split
    · refine ⟨by simp, by simp, fun s hs => ?_⟩
      simp only [List.mem_cons, List.not_mem_nil, or_false] at hs
      rcases hs with rfl | rfl | rfl <;> decide
    · split
      · refine ⟨by simp, by simp, fun s hs => ?_⟩
        simp only [List.mem_cons, List.not_mem_nil, or_false] at hs
        rcases hs with rfl | rfl | rfl | rfl <;> decide
      · split
        · refine ⟨by simp, by simp, fun s hs => ?_⟩
          simp only [List.mem_cons, List.not_mem_nil, or_false] at hs
          rcases hs with rfl | rfl | rfl <;> decide
        · split
          · refine ⟨by simp, by simp, fun s hs => ?_⟩
            simp only [List.mem_cons, List.not_mem_nil, or_false] at hs
            rcases hs with rfl | rfl | rfl | rfl <;> decide
          · refine ⟨by simp, by simp, fun s hs => ?_⟩
            simp only [List.mem_cons, List.not_mem_nil, or_false] at hs
            rcases hs with rfl <;> decide
/-- A probe under way: k steps are done. -/
structure LS (fs : List Ft) (names : List ByteArray) (w : World) (N6 po : Nat) (vn vff : Value) (k : Nat) (qs : List Nat) (vd : Value) (wr : World) : Prop where
  ql : qs.length = k
  kl : k ≤ names.length
  out : wr.heap[po]? = some (.cells #[.bool true, .int .i64 (-1), .int .u8 0, vd, .slice none 0 0, .slice none 0 0] 56 (0, 0))
  done : wr.ownsRow N6 9 1 vd k (sc (names.take k))
  box : Boxes fs wr w.heap.size qs
  nam : wr.ownsRow w.heap.size 9 1 vn names.length (sc names)
  namb : ∀ g, vn.ownBlock = some g → g < N6
  fat : wr.heap[w.heap.size + 1]? = some (.cells #[vff] 52 (0, 0))
  res : wr.heap[w.heap.size + 1 + 1]? = some (.cells #[.bool false, .int .i64 0, .int .u8 0, .slice none 0 0, .slice none 0 0, .slice none 0 0] 56 (0, 0))
  bel : Below w.heap.size w wr
  n6 : w.heap.size ≤ N6 ∧ N6 ≤ wr.heap.size
  pol : w.heap.size + 1 + 1 < po ∧ po < N6
theorem LS.rel {fs : List Ft} {names : List ByteArray} {w : World} {N6 po : Nat} {vn vff : Value} {k : Nat} {qs : List Nat} {vd : Value} {wr wr' : World} {S : Nat → Obj → Prop} (h : LS fs names w N6 po vn vff k qs vd wr) (hr : Rel w.heap.size S wr wr')
    (hS : ∀ k C z, ¬ S k (.cells C 56 z) ∧ ¬ S k (.cells C 9 z) ∧ ¬ S k (.cells C 67 z) ∧ ¬ S k (.cells C 52 z)) : LS fs names w N6 po vn vff k qs vd wr' :=
  ⟨h.ql, h.kl, hr.block h.out (fun _ => (hS _ _ _).1), own_rel h.done hr (fun k C _ _ => (hS _ _ _).2.1), h.box.rel hr (fun k C z => (hS k C z).2.2.1), own_rel h.nam hr (fun k C _ _ => (hS _ _ _).2.1), h.namb, hr.block h.fat (fun _ => (hS _ _ _).2.2.2), hr.block h.res (fun _ => (hS _ _ _).1), hr.out h.bel h.bel.size, ⟨h.n6.1, Nat.le_trans h.n6.2 hr.size⟩, h.pol⟩
theorem LS.below {fs : List Ft} {names : List ByteArray} {w : World} {N6 po : Nat} {vn vff : Value} {k : Nat} {qs : List Nat} {vd : Value} {wr wr' : World} (h : LS fs names w N6 po vn vff k qs vd wr) (hb : Below wr.heap.size wr wr') : LS fs names w N6 po vn vff k qs vd wr' :=
  h.rel (S := fun _ _ => False) (Rel.below hb) (fun _ _ _ => ⟨id, id, id, id⟩)
/-- A row that lies elsewhere stays where a cell of another sort of block is written. -/
theorem own_setT {w : World} {B e z n b p t : Nat} {v : Value} {xs : List Value} {C : Array Value} (h : w.ownsRow B e z v n xs) (he : e ≠ t) (hm : w.heap[b]? = some (.cells C t (0, 0))) (u : Value) : (w.setCell ⟨b, p, none⟩ u).ownsRow B e z v n xs := by
  refine ownsRow_setCell_other h (a := ⟨b, p, none⟩) (fun hb => ?_) u
  rcases h.2 with ⟨rfl, _⟩ | ⟨g, cap, cur, rfl, _, hc, _⟩
  · cases hb
  · simp only [Value.ownBlock, Option.some.injEq] at hb
    subst hb
    rw [hm] at hc
    injection hc with hc
    injection hc with _ h2 _
    exact he h2.symm
/-- A step more is done: its name behind the others. -/
theorem LS.next {fs : List Ft} {names : List ByteArray} {w : World} {N6 po : Nat} {vn vff : Value} {k : Nat} {qs : List Nat} {vd : Value} {wr w4 w5 : World} (h : LS fs names w N6 po vn vff k qs vd wr) (hk : k < names.length) {q : Nat} (hN : w.heap.size ≤ q) (hq : wr.heap[q]? = some (.cells (ofT fs k).cells.toArray 67 (0, 0)))
    (h4 : Below wr.heap.size wr w4) {g2 cap2 : Nat} (ho : w5.ownsRow N6 9 1 (.slice (some ⟨g2, 0, none⟩) (k + 1) cap2) (k + 1) (sc (names.take k) ++ [.string names[k]])) (hg : w4.grownBy w5 vd.ownBlock) :
    LS fs names w N6 po vn vff (k + 1) (qs ++ [q]) (.slice (some ⟨g2, 0, none⟩) (k + 1) cap2) (w5.setCell ⟨po, 3, none⟩ (.slice (some ⟨g2, 0, none⟩) (k + 1) cap2)) ∧ w5.cell? ⟨po, 3, none⟩ = some vd ∧ w5.frozen? ⟨po, 3, none⟩ = false ∧ Rel w.heap.size (fun _ o => (∃ C z, o = .cells C 9 z) ∨ ∃ C z, o = .cells C 56 z) wr (w5.setCell ⟨po, 3, none⟩ (.slice (some ⟨g2, 0, none⟩) (k + 1) cap2)) := by
  have l4 := h.below h4
  have hdb : ∀ g, vd.ownBlock = some g → N6 ≤ g := fun g hg => (l4.done.lt g hg).1
  have far : ∀ (g : Nat) (C : Array Value) (t : Nat), w4.heap[g]? = some (.cells C t (0, 0)) → (t ≠ 9 ∨ g < N6) → w5.heap[g]? = some (.cells C t (0, 0)) := fun g C t hgC ht => (hg.block g (Array.getElem?_eq_some_iff.1 hgC).1 (fun e => by
    rcases ht with ht | ht
    · obtain ⟨C', hC'⟩ := own_type l4.done e.symm
      rw [hgC] at hC'
      injection hC' with hC'
      injection hC' with _ h2 _
      exact ht h2
    · have := hdb g e.symm
      omega)).trans hgC
  have o5 := far po _ _ l4.out (.inl (by decide))
  have nam5 : w5.ownsRow w.heap.size 9 1 vn names.length (sc names) := l4.nam.kept hg (by
    by_cases e : vn.ownBlock = vd.ownBlock
    · cases hv : vn.ownBlock with
      | none => exact .inl rfl
      | some g =>
        have h1 := h.namb g hv
        have h2 := hdb g (by rw [← e]; exact hv)
        omega
    · exact .inr e)
  have box5 : Boxes fs w5 w.heap.size qs := fun j hj => ⟨(l4.box j hj).1, far _ _ _ (l4.box j hj).2 (.inl (by decide))⟩
  have q5 : w5.heap[q]? = some (.cells (ofT fs k).cells.toArray 67 (0, 0)) := far _ _ _ ((h4.block _ (Array.getElem?_eq_some_iff.1 hq).1).trans hq) (.inl (by decide))
  have hne : ∀ j, j ≠ po → (w5.setCell ⟨po, 3, none⟩ (.slice (some ⟨g2, 0, none⟩) (k + 1) cap2)).heap[j]? = w5.heap[j]? := fun j hj => Below.heap_setCell _ _ _ _ (by simpa using hj)
  have tne : ∀ (j : Nat) (C : Array Value) (t : Nat), w5.heap[j]? = some (.cells C t (0, 0)) → t ≠ 56 → j ≠ po := fun j C t hj ht e => by
    subst e
    rw [o5] at hj
    injection hj with hj
    injection hj with _ h2 _
    exact ht h2.symm
  have bel5 : Below w.heap.size w w5 := l4.bel.trans ⟨hg.os, hg.tape, hg.output, hg.size, fun j hj => hg.block j (Nat.lt_of_lt_of_le hj l4.bel.size) (fun e => by have := hdb j e.symm; have := h.n6.1; omega)⟩
  have pol := h.pol
  refine ⟨⟨by simp [h.ql], hk, heap_setCell_same w5 po 3 _ _ _ o5, own_setT (by
      rw [show sc (names.take (k + 1)) = sc (names.take k) ++ [.string names[k]] by unfold sc; rw [List.take_succ_eq_append_getElem hk, List.map_append]; rfl]
      exact ho) (by decide) o5 _, Boxes.add (fun j hj => ⟨(box5 j hj).1, (hne _ (tne _ _ _ (box5 j hj).2 (by decide))).trans (box5 j hj).2⟩) hN (by
      rw [h.ql]
      exact (hne _ (tne _ _ _ q5 (by decide))).trans q5), own_setT nam5 (by decide) o5 _, h.namb, (hne _ (by omega)).trans (far _ _ _ l4.fat (.inl (by decide))), (hne _ (by omega)).trans (far _ _ _ l4.res (.inl (by decide))), Below.setCell bel5 (p := ⟨po, 3, none⟩) (by simp; omega) _, ⟨h.n6.1, by have := l4.n6.2; have := hg.size; simp; omega⟩, h.pol⟩, (cell_of_row w5 po 3 _ _ _ o5).trans rfl, frozen_of_row w5 po 3 _ _ o5, ?_⟩
  refine ((Rel.below h4).trans (Rel.row l4.done h.n6.1 hg (fun k C z => Or.inl ⟨C, z, rfl⟩))).trans (Rel.set (a := ⟨po, 3, none⟩) (by simp; omega) o5 (show (∃ C z, Obj.cells _ 56 (0, 0) = .cells C 9 z) ∨ ∃ C z, Obj.cells _ 56 (0, 0) = .cells C 56 z from Or.inr ⟨_, _, rfl⟩) _)
theorem SK_not {b N k t : Nat} {C : Array Value} {z : Nat × Nat} (h1 : t ≠ 86) (h2 : t ≠ 77) : ¬ SK b N k (.cells C t z) := fun h => by
  rcases h with ⟨_, C', z', h⟩ | ⟨_, C', z', h⟩
  · injection h with _ h _
    exact h1 h
  · injection h with _ h _
    exact h2 h
theorem SB_not {b k t : Nat} {C : Array Value} {z : Nat × Nat} (h1 : t ≠ 86) (h2 : t ≠ 98) : ¬ SB b k (.cells C t z) := fun h => by
  rcases h with ⟨_, C', z', h⟩ | ⟨C', z', h⟩
  · injection h with _ h _
    exact h1 h
  · injection h with _ h _
    exact h2 h
end Go.Proofs.Ytnajbogmhhlpcaa
