/- Cards of the call's own, moved about: plain law. -/
import Derived.Test.YtlgbmjdlgjdolaaRegL
import Derived.Test.YtlgbmjdlgjdolaaOwnL
namespace Go.Proofs.Ytlgbmjdlgjdolaa
open Go.RowKit Go.ChangeShapes
/-- The cards lie in a row of the call's own, their texts in such rows (two of them may be one). -/
def OwnC (w : World) (B : Nat) (v : Value) (l : List (Cd × Value)) : Prop := w.ownsRow B 34 7 v l.length (ccells l) ∧ RowsOf w B l
def setL (xs : List Value) (p : Nat) : List Value → List Value
  | [] => xs
  | v :: vs => setL (xs.set p v) (p + 1) vs
theorem putAll_own {B g n cap t z : Nat} : ∀ (vs : List Value) (w : World) (xs : List Value) (p : Nat), w.ownsRow B t z (.slice (some ⟨g, 0, none⟩) n cap) n xs → (putAll w g p vs).ownsRow B t z (.slice (some ⟨g, 0, none⟩) n cap) n (setL xs p vs)
  | [], _, _, _, h => h
  | v :: vs, _, _, p, h => putAll_own vs _ _ _ (h.stored p v).1
theorem putAll_text {B g n cap : Nat} : ∀ (vs : List Value) (w : World) (xs : List Value) (p : Nat), w.ownsRow B 34 7 (.slice (some ⟨g, 0, none⟩) n cap) n xs → ∀ (u : Value) (m : Nat) (ys : List Value), w.ownsRow B 9 1 u m ys → (putAll w g p vs).ownsRow B 9 1 u m ys
  | [], _, _, _, _, _, _, _, hu => hu
  | v :: vs, w, xs, p, h, u, m, ys, hu => putAll_text vs _ _ _ (h.stored p v).1 u m ys (ownsRow_setCell_other hu (a := ⟨g, p, none⟩) (fun e => by
      have := own_ne hu h (by decide)
      rw [e] at this
      simp [Value.ownBlock] at this) v)
theorem setL_app : ∀ (vs a b : List Value) (p : Nat), a.length ≤ p → setL (a ++ b) p vs = a ++ setL b (p - a.length) vs
  | [], _, _, _, _ => rfl
  | v :: vs, a, b, p, h => by
    rw [setL, setL, List.set_append_right _ _ h, setL_app vs _ _ _ (by omega), show p + 1 - a.length = p - a.length + 1 by omega]
theorem ccells_set : ∀ (l : List (Cd × Value)) (k : Nat), k < l.length → ∀ (r : Cd × Value), ccells (l.set k r) = setL (ccells l) (k * 7) (r.1.cells r.2)
  | [], k, h, _ => by simp at h
  | r0 :: l, 0, _, r => by simp [ccells, Cd.cells, setL]
  | r0 :: l, k + 1, h, r => by
    have e : (r0.1.cells r0.2).length = 7 := by simp [Cd.cells]
    simp only [List.set_cons_succ, ccells]
    rw [setL_app _ _ _ _ (by omega), e, show (k + 1) * 7 - 7 = k * 7 by omega, ← ccells_set l k (by simpa using h) r]
/-- The k-th card is written over. -/
theorem OwnC.put {w : World} {B g n cap : Nat} {l : List (Cd × Value)} (h : OwnC w B (.slice (some ⟨g, 0, none⟩) n cap) l) (hn : l.length = n) (k : Nat) (hk : k < l.length) (r : Cd × Value) (hr : w.ownsRow B 9 1 r.2 r.1.comp.length (sc r.1.comp)) :
    OwnC (putAll w g (k * 7) (r.1.cells r.2)) B (.slice (some ⟨g, 0, none⟩) n cap) (l.set k r) := by
  subst hn
  refine ⟨?_, fun x hx => ?_⟩
  · rw [ccells_set l k hk, List.length_set]
    exact putAll_own _ _ _ _ h.1
  · rcases List.mem_or_eq_of_mem_set hx with hx | rfl
    · exact putAll_text _ _ _ _ h.1 _ _ _ (h.2 x hx)
    · exact putAll_text _ _ _ _ h.1 _ _ _ hr
theorem OwnC.of {w : World} {B : Nat} {v : Value} {l : List (Cd × Value)} (h : Own w B v l) : OwnC w B v l := ⟨h.1, fun r hr => (h.2.1 (r.2, r.1.comp) (List.mem_map.2 ⟨r, hr, rfl⟩)).1⟩
theorem OwnC.below {w w' : World} {B : Nat} {v : Value} {l : List (Cd × Value)} (h : OwnC w B v l) (hb : Below w.heap.size w w') : OwnC w' B v l := ⟨own_below h.1 hb, h.2.below hb⟩
theorem OwnC.cards {w : World} {B : Nat} {v : Value} {l : List (Cd × Value)} (h : OwnC w B v l) (hf : Fine l) (hm : l.length ≤ maxLen) : CardsAt w v (l.map (·.1)) :=
  cards_rows h.1 h.2 hm fun r hr => by
    obtain ⟨i, hi, rfl⟩ := List.getElem_of_mem hr
    have := (hf i hi).2
    unfold maxLen
    omega
theorem Fine.put {l : List (Cd × Value)} (h : Fine l) (k j : Nat) (hj : j < l.length) : Fine (l.set k l[j]) := by
  intro i hi
  rw [List.length_set] at hi
  rw [List.getElem_set]
  split
  · exact h j hj
  · exact h i hi
end Go.Proofs.Ytlgbmjdlgjdolaa
