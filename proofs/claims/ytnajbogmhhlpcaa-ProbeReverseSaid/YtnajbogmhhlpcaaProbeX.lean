/- A probe's second loop, plain: what is given back, what sticks. -/
import Derived.Test.YtnajbogmhhlpcaaProbeV
namespace Go.Proofs.Ytnajbogmhhlpcaa
open Go.RowKit Go.ChangeShapes
/-- The results of undoing the steps named, the oldest first. -/
def resT (fs : List Ft) : Nat → List ByteArray → List Rs
  | _, [] => []
  | i, nm :: ns => ⟨(i : Int) + 1, nm, endB (ofT fs i).back⟩ :: resT fs (i + 1) ns
def stuckR (r : Rs) : Bool := r.bh.pan || decide (r.bh.code ≠ 0)
def namesR (st : Bool) (l : List Rs) : List ByteArray := (l.filter fun r => stuckR r == st).map (·.name)
/-- How a step of a probe ends when it is undone. -/
def backQ (fs : List Ft) (t : Th) : Beh := endB (ofT fs (t.id - 1)).back
theorem runB_map (g : Th → Beh) (L0 : List Th) : ∀ M : List Th, (∀ t ∈ M, t.fn.isSome = true) → (runB (σ := Unit) (fun _ t _ => g t) (fun _ _ _ => ()) L0 M ()).2 = M.map (fun t => (⟨t.id, t.name, g t⟩ : Rs))
  | [], _ => rfl
  | t :: M, h => by
    obtain ⟨f, hf⟩ := Option.isSome_iff_exists.1 (h t (by simp))
    have := runB_map g L0 M (fun t ht => h t (by simp [ht]))
    unfold runB
    rw [hf]
    simp only [List.map_cons, List.cons.injEq, true_and]
    exact this
theorem thQ_res (fs : List Ft) : ∀ (i : Nat) (ns : List ByteArray) (qs : List Nat), ns.length = qs.length → (thQ i ns qs).map (fun t => (⟨t.id, t.name, backQ fs t⟩ : Rs)) = resT fs i ns
  | _, [], [], _ => rfl
  | i, nm :: ns, q :: qs, h => by
    have := thQ_res fs (i + 1) ns qs (by simpa using h)
    simp only [thQ, resT, List.map_cons, backQ] at this ⊢
    rw [this, show (i : Int) + 1 - 1 = i by omega]
theorem resT_len (fs : List Ft) : ∀ (i : Nat) (ns : List ByteArray), (resT fs i ns).length = ns.length
  | _, [] => rfl
  | i, _ :: ns => by simp [resT, resT_len fs (i + 1) ns]
/-- What a closed bag of a probe's answers. -/
theorem probe_runB (fs : List Ft) (ns : List ByteArray) (qs : List Nat) (h : ns.length = qs.length) : (runB (σ := Unit) (fun _ t _ => backQ fs t) (fun _ _ _ => ()) [] (thQ 0 ns qs).reverse ()).2 = (resT fs 0 ns).reverse := by
  rw [runB_map, List.map_reverse, thQ_res fs 0 ns qs h]
  intro t ht
  obtain ⟨j, h1, h2, e⟩ := thQ_get 0 ns qs h t (List.mem_reverse.1 ht)
  rw [e]
  rfl
theorem namesR_le (st : Bool) (l : List Rs) : (namesR st l).length ≤ l.length := by
  unfold namesR
  rw [List.length_map]
  exact List.length_filter_le _ _
theorem namesR_take (st : Bool) (R : List Rs) (i : Nat) (h : i < R.length) : namesR st (R.take (i + 1)) = if stuckR R[i] = st then namesR st (R.take i) ++ [R[i].name] else namesR st (R.take i) := by
  rw [List.take_succ_eq_append_getElem h]
  unfold namesR
  rw [List.filter_append, List.map_append]
  by_cases e : stuckR R[i] = st <;> simp [List.filter_cons, e]
/-- The second loop under way: i results are told apart; v false: what was given back; v true: what sticks. -/
structure QS (w : World) (N po : Nat) (g : Bool) (at_ how : Int) (vd : Value) (m : Nat) (D : List ByteArray) (R : List Rs) (vr : Value) (i : Nat) (v : Bool → Value) (wr : World) : Prop where
  il : i ≤ R.length
  out : wr.heap[po]? = some (.cells #[.bool g, .int .i64 at_, .int .u8 how, vd, v false, v true] 56 (0, 0))
  done : wr.ownsRow w.heap.size 9 1 vd m (sc D)
  dn : ∀ b, vd.ownBlock = some b → b < N
  row : ∀ st, wr.ownsRow N 9 1 (v st) (namesR st (R.take i)).length (sc (namesR st (R.take i)))
  ne : ∀ b, (v false).ownBlock = some b → (v true).ownBlock ≠ some b
  res : wr.ownsRow w.heap.size 77 5 vr R.length (rl R)
  zer : wr.heap[w.heap.size + 1 + 1]? = some (.cells #[.bool false, .int .i64 0, .int .u8 0, .slice none 0 0, .slice none 0 0, .slice none 0 0] 56 (0, 0))
  bel : Below w.heap.size w wr
  nn : w.heap.size ≤ N ∧ N ≤ wr.heap.size
  pol : w.heap.size + 1 + 1 < po ∧ po < N
section
variable {w : World} {N po : Nat} {g : Bool} {at_ how : Int} {vd : Value} {m : Nat} {D : List ByteArray} {R : List Rs} {vr : Value} {i : Nat} {v : Bool → Value} {wr : World}
theorem QS.below {wr' : World} (h : QS w N po g at_ how vd m D R vr i v wr) (hb : Below wr.heap.size wr wr') : QS w N po g at_ how vd m D R vr i v wr' :=
  ⟨h.il, (hb.block _ (Array.getElem?_eq_some_iff.1 h.out).1).trans h.out, own_below h.done hb, h.dn, fun st => own_below (h.row st) hb, h.ne, own_below h.res hb, (hb.block _ (Array.getElem?_eq_some_iff.1 h.zer).1).trans h.zer, h.bel.trans (hb.mono h.bel.size), ⟨h.nn.1, Nat.le_trans h.nn.2 hb.size⟩, h.pol⟩
/-- The cell of the outcome that a result's name goes to. -/
def kOf (st : Bool) : Nat := if st then 5 else 4
theorem QS.next {wr' w5 : World} {g2 cap2 : Nat} (h : QS w N po g at_ how vd m D R vr i v wr) (hi : i < R.length) (h4 : Below wr.heap.size wr wr') (st : Bool) (hst : stuckR R[i] = st)
    (ho : w5.ownsRow N 9 1 (.slice (some ⟨g2, 0, none⟩) ((namesR st (R.take i)).length + 1) cap2) ((namesR st (R.take i)).length + 1) (sc (namesR st (R.take i)) ++ [.string R[i].name]))
    (hg : wr'.grownBy w5 (v st).ownBlock) (ha : (v st).ownBlock = some g2 ∨ g2 = wr'.heap.size) :
    QS w N po g at_ how vd m D R vr (i + 1) (fun s => if s = st then .slice (some ⟨g2, 0, none⟩) ((namesR st (R.take i)).length + 1) cap2 else v s) (w5.setCell ⟨po, kOf st, none⟩ (.slice (some ⟨g2, 0, none⟩) ((namesR st (R.take i)).length + 1) cap2)) ∧ w5.cell? ⟨po, kOf st, none⟩ = some (v st) ∧ w5.frozen? ⟨po, kOf st, none⟩ = false := by
  have l4 := h.below h4
  have hvb : ∀ s b, (v s).ownBlock = some b → N ≤ b ∧ b < wr'.heap.size := fun s b hb => ⟨((l4.row s).lt b hb).1, ((l4.row s).lt b hb).2⟩
  have far : ∀ (k : Nat) (C : Array Value) (t : Nat), wr'.heap[k]? = some (.cells C t (0, 0)) → (t ≠ 9 ∨ k < N) → w5.heap[k]? = some (.cells C t (0, 0)) := fun k C t hkC ht => (hg.block k (Array.getElem?_eq_some_iff.1 hkC).1 (fun e => by
    rcases ht with ht | ht
    · obtain ⟨C', hC'⟩ := own_type (l4.row st) e.symm
      rw [hkC] at hC'
      injection hC' with hC'
      injection hC' with _ h2 _
      exact ht h2
    · have := (hvb st k e.symm).1
      omega)).trans hkC
  have o5 := far po _ _ l4.out (.inl (by decide))
  have z5 := far _ _ _ l4.zer (.inl (by decide))
  have hz5 : wr'.heap.size ≤ w5.heap.size := hg.size
  have hset := heap_setCell_same w5 po (kOf st) _ _ (.slice (some ⟨g2, 0, none⟩) ((namesR st (R.take i)).length + 1) cap2) o5
  have hother : ∀ j, j ≠ po → (w5.setCell ⟨po, kOf st, none⟩ (.slice (some ⟨g2, 0, none⟩) ((namesR st (R.take i)).length + 1) cap2)).heap[j]? = w5.heap[j]? := fun j hj => Below.heap_setCell _ _ _ _ (by simpa using hj)
  have bb : Below w.heap.size w w5 := l4.bel.trans ⟨hg.os, hg.tape, hg.output, hg.size, fun k hk => hg.block k (by have := l4.bel.size; omega) (fun e => by have := (hvb st k e.symm).1; have := l4.nn.1; omega)⟩
  have nameq : sc (namesR st (R.take (i + 1))) = sc (namesR st (R.take i)) ++ [.string R[i].name] ∧ (namesR st (R.take (i + 1))).length = (namesR st (R.take i)).length + 1 := by
    rw [namesR_take st R i hi, if_pos hst]
    exact ⟨by simp [sc], by simp⟩
  have othq : ∀ s, s ≠ st → namesR s (R.take (i + 1)) = namesR s (R.take i) := fun s hs => by
    rw [namesR_take s R i hi, if_neg (fun e => hs (e.symm.trans hst))]
  refine ⟨⟨by omega, ?_, ?_, h.dn, ?_, ?_, ?_, ?_, ?_, ⟨l4.nn.1, by simp; have := l4.nn.2; omega⟩, h.pol⟩, ?_, ?_⟩
  · rw [hset]
    cases st <;> rfl
  · refine own_setT (l4.done.kept hg ?_) (by decide) o5 _
    cases hv : vd.ownBlock with
    | none => exact .inl rfl
    | some b => exact .inr (fun e => by have := h.dn b hv; have := (hvb st b e.symm).1; omega)
  · intro s
    by_cases e : s = st
    · subst e
      rw [if_pos rfl, nameq.1, nameq.2]
      exact own_setT ho (by decide) o5 _
    · rw [if_neg e, othq s e]
      refine own_setT ((l4.row s).kept hg ?_) (by decide) o5 _
      cases hv : (v s).ownBlock with
      | none => exact .inl rfl
      | some b => exact .inr (fun e2 => by
          cases s <;> cases st
          · exact e rfl
          · exact h.ne b hv e2.symm
          · exact h.ne b e2.symm hv
          · exact e rfl)
  · intro b hb
    cases st
    · simp only [Bool.true_eq_false, Bool.false_eq_true, if_true, if_false, Value.ownBlock, Option.some.injEq] at hb ⊢
      subst hb
      intro e2
      rcases ha with ha | ha
      · exact h.ne _ ha e2
      · have := (hvb true _ e2).2
        omega
    · simp only [Bool.true_eq_false, Bool.false_eq_true, if_true, if_false, Value.ownBlock, ne_eq, Option.some.injEq] at hb ⊢
      intro e2
      subst e2
      rcases ha with ha | ha
      · exact h.ne _ hb ha
      · have := (hvb false _ hb).2
        omega
  · refine own_setT (l4.res.kept hg ?_) (by decide) o5 _
    cases hv : vr.ownBlock with
    | none => exact .inl rfl
    | some b => exact .inr (fun e => by
        obtain ⟨C1, hC1⟩ := own_type (l4.row st) e.symm
        obtain ⟨C2, hC2⟩ := own_type l4.res hv
        rw [hC1] at hC2
        injection hC2 with hC2
        injection hC2 with _ h2 _
        revert h2
        decide)
  · rw [hother _ (by have := h.pol.1; omega)]
    exact z5
  · exact bb.setCell (by have := h.pol.1; simp; omega) _
  · rw [cell_of_row w5 po (kOf st) _ _ _ o5]
    cases st <;> rfl
  · exact frozen_of_row w5 po (kOf st) _ _ o5
/-- The place of a result. -/
theorem stuck_end (b : Int) (h0 : 0 ≤ b) (h2 : b ≤ 2) (i : Int) (nm : ByteArray) : stuckR ⟨i, nm, endB b⟩ = decide (b ≠ 0) := by
  unfold stuckR endB
  by_cases h : b = 1
  · subst h; rfl
  · by_cases h' : b = 2
    · subst h'; rfl
    · obtain rfl : b = 0 := by omega
      rfl
end
end Go.Proofs.Ytnajbogmhhlpcaa
