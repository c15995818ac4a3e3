/- The document's probe under way: its outcome in a block, three rows of texts. -/
import Derived.Test.YtnkababhgloclaaRunsV
namespace Go.Proofs.Ytnkababhgloclaa
open Go.RowKit Go.ChangeShapes
theorem own_setU {w : World} {B e z n g t p : Nat} {v : Value} {xs : List Value} {C : Array Value} (h : w.ownsRow B e z v n xs) (he : e ≠ t) (hm : w.heap[g]? = some (.cells C t (0, 0))) (u : Value) : (w.setCell ⟨g, p, none⟩ u).ownsRow B e z v n xs := by
  refine ownsRow_setCell_other h (a := ⟨g, p, none⟩) (fun hb => ?_) u
  obtain ⟨C', hC'⟩ := own_type h hb
  rw [hm] at hC'
  injection hC' with hC'
  injection hC' with _ h2 _
  exact he h2.symm
structure RS (w : World) (N p4 p7 : Nat) (vN : Value) (names : List ByteArray) (g : Bool) (at_ how : Int) (v : Nat → Value) (D : Nat → List ByteArray) (wr : World) : Prop where
  out : wr.heap[p7]? = some (.cells #[.bool g, .int .i64 at_, .int .u8 how, v 0, v 1, v 2] 59 (0, 0))
  row : ∀ s, s < 3 → wr.ownsRow N 9 1 (v s) (D s).length (sc (D s))
  ne : ∀ s t b, s < 3 → t < 3 → s ≠ t → (v s).ownBlock = some b → (v t).ownBlock ≠ some b
  zer : wr.heap[p4]? = some (.cells zo6.toArray 59 (0, 0))
  nam : wr.ownsRow w.heap.size 9 1 vN names.length (sc names)
  nlt : ∀ b, vN.ownBlock = some b → b < N
  bel : Below w.heap.size w wr
  nn : w.heap.size ≤ N ∧ N ≤ wr.heap.size
  pol : w.heap.size ≤ p4 ∧ w.heap.size ≤ p7 ∧ p4 ≠ p7
section
variable {w : World} {N p4 p7 : Nat} {vN : Value} {names : List ByteArray} {g : Bool} {at_ how : Int} {v : Nat → Value} {D : Nat → List ByteArray} {wr : World}
theorem RS.below {wr' : World} (h : RS w N p4 p7 vN names g at_ how v D wr) (hb : Below wr.heap.size wr wr') : RS w N p4 p7 vN names g at_ how v D wr' :=
  ⟨(hb.block _ (Array.getElem?_eq_some_iff.1 h.out).1).trans h.out, fun s hs => own_below (h.row s hs) hb, h.ne, (hb.block _ (Array.getElem?_eq_some_iff.1 h.zer).1).trans h.zer, own_below h.nam hb, h.nlt, h.bel.trans (hb.mono h.bel.size), ⟨h.nn.1, Nat.le_trans h.nn.2 hb.size⟩, h.pol⟩
/-- A cell of the outcome is written, no row. -/
theorem RS.set {g' : Bool} {at' how' : Int} (h : RS w N p4 p7 vN names g at_ how v D wr) (k : Nat) (u : Value) (hc : (#[Value.bool g, .int .i64 at_, .int .u8 how, v 0, v 1, v 2] : Array Value).setIfInBounds k u = #[Value.bool g', .int .i64 at', .int .u8 how', v 0, v 1, v 2]) : RS w N p4 p7 vN names g' at' how' v D (wr.setCell ⟨p7, k, none⟩ u) := by
  have hs := heap_setCell_same wr p7 k _ _ u h.out
  rw [hc] at hs
  refine ⟨hs, fun s h3 => own_setU (h.row s h3) (by decide) h.out u, h.ne, (Below.heap_setCell wr ⟨p7, k, none⟩ u p4 (by simpa using h.pol.2.2)).trans h.zer, own_setU h.nam (by decide) h.out u, h.nlt, h.bel.setCell (by simpa using h.pol.2.1) _, ⟨h.nn.1, by simpa using h.nn.2⟩, h.pol⟩
theorem RS.next {wr' w5 : World} {g2 cap2 st : Nat} {x : ByteArray} (h : RS w N p4 p7 vN names g at_ how v D wr) (h4 : Below wr.heap.size wr wr') (hst : st < 3) {n : Nat} (hn : (D st).length = n)
    (ho : w5.ownsRow N 9 1 (.slice (some ⟨g2, 0, none⟩) (n + 1) cap2) (n + 1) (sc (D st) ++ [.string x]))
    (hg : wr'.grownBy w5 (v st).ownBlock) (ha : (v st).ownBlock = some g2 ∨ g2 = wr'.heap.size) :
    RS w N p4 p7 vN names g at_ how (fun s => if s = st then .slice (some ⟨g2, 0, none⟩) (n + 1) cap2 else v s) (fun s => if s = st then D st ++ [x] else D s) (w5.setCell ⟨p7, st + 3, none⟩ (.slice (some ⟨g2, 0, none⟩) (n + 1) cap2)) ∧ w5.cell? ⟨p7, st + 3, none⟩ = some (v st) ∧ w5.frozen? ⟨p7, st + 3, none⟩ = false := by
  subst hn
  have l4 := h.below h4
  have hvb : ∀ s b, s < 3 → (v s).ownBlock = some b → N ≤ b ∧ b < wr'.heap.size := fun s b hs hb => ⟨((l4.row s hs).lt b hb).1, ((l4.row s hs).lt b hb).2⟩
  have far : ∀ (k : Nat) (C : Array Value) (t : Nat), wr'.heap[k]? = some (.cells C t (0, 0)) → t ≠ 9 → w5.heap[k]? = some (.cells C t (0, 0)) := fun k C t hkC ht => (hg.block k (Array.getElem?_eq_some_iff.1 hkC).1 (fun e => by
    obtain ⟨C', hC'⟩ := own_type (l4.row st hst) e.symm
    rw [hkC] at hC'
    injection hC' with hC'
    injection hC' with _ h2 _
    exact ht h2)).trans hkC
  have o5 := far p7 _ _ l4.out (by decide)
  have z5 := far p4 _ _ l4.zer (by decide)
  have hset := heap_setCell_same w5 p7 (st + 3) _ _ (.slice (some ⟨g2, 0, none⟩) ((D st).length + 1) cap2) o5
  have bb : Below w.heap.size w w5 := l4.bel.trans ⟨hg.os, hg.tape, hg.output, hg.size, fun k hk => hg.block k (by have := l4.bel.size; omega) (fun e => by have := (hvb st k hst e.symm).1; have := l4.nn.1; omega)⟩
  have g2b : ∀ t b, t < 3 → t ≠ st → (v t).ownBlock = some b → b ≠ g2 := fun t b ht hne hb e => by
    subst e
    rcases ha with ha | ha
    · exact h.ne t st b ht hst hne hb ha
    · have := (hvb t b ht hb).2
      omega
  refine ⟨⟨?_, ?_, ?_, ?_, ?_, h.nlt, bb.setCell (by simpa using h.pol.2.1) _, ⟨h.nn.1, by simp; have := l4.nn.2; have := hg.size; omega⟩, h.pol⟩, ?_, ?_⟩
  · rw [hset]
    rcases st with _ | _ | _ | st
    · rfl
    · rfl
    · rfl
    · omega
  · intro s hs
    by_cases e : s = st
    · subst e
      simp only [if_true, List.length_append, List.length_singleton]
      have e2 : sc (D s ++ [x]) = sc (D s) ++ [.string x] := by simp [sc]
      rw [e2]
      exact own_setU ho (by decide) o5 _
    · simp only [if_neg e]
      refine own_setU ((l4.row s hs).kept hg ?_) (by decide) o5 _
      cases hv : (v s).ownBlock with
      | none => exact .inl rfl
      | some b => exact .inr (fun e2 => h.ne s st b hs hst e hv e2.symm)
  · intro s t b hs ht hne hb
    by_cases e : s = st
    · subst e
      simp only [if_true, Value.ownBlock, Option.some.injEq] at hb
      rw [if_neg (fun e => hne e.symm)]
      intro e2
      exact g2b t b ht (fun e => hne e.symm) e2 hb.symm
    · rw [if_neg e] at hb
      by_cases e' : t = st
      · subst e'
        simp only [if_true, Value.ownBlock, ne_eq, Option.some.injEq]
        intro e2
        exact g2b s b hs e hb e2.symm
      · rw [if_neg e']
        exact h.ne s t b hs ht hne hb
  · exact (Below.heap_setCell w5 ⟨p7, st + 3, none⟩ _ p4 (by simpa using h.pol.2.2)).trans z5
  · refine own_setU (l4.nam.kept hg ?_) (by decide) o5 _
    cases hv : vN.ownBlock with
    | none => exact .inl rfl
    | some b => exact .inr (fun e => by have := h.nlt b hv; have := (hvb st b hst e.symm).1; omega)
  · rw [cell_of_row w5 p7 (st + 3) _ _ _ o5]
    rcases st with _ | _ | _ | st
    · rfl
    · rfl
    · rfl
    · omega
  · exact frozen_of_row w5 p7 (st + 3) _ _ o5
end
end Go.Proofs.Ytnkababhgloclaa
