/- A registry in memory; Freeze, Frozen. -/
import Derived.Test.YtlgbmjdlgjdolaaAllC
import Derived.Test.YtlgbmjdlgjdolaaNewC
namespace Go.Proofs.Ytlgbmjdlgjdolaa
open Go.RowKit Go.ChangeShapes
/-- The cards that lie in the cells C from o on. -/
def Slots (C : Array Value) (o : Nat) (w : World) (B : Nat) (cs : List Cd) : Prop :=
  ∀ i (h : i < cs.length), ∃ a c, (∀ j u, (cs[i].cells (.slice a cs[i].comp.length c))[j]? = some u → C[o + i * 7 + j]? = some u) ∧ w.ownsRow B 9 1 (.slice a cs[i].comp.length c) cs[i].comp.length (sc cs[i].comp)
theorem Slots.to {C : Array Value} {o : Nat} {w w' : World} {B : Nat} {cs : List Cd} (h : Slots C o w B cs) (hk : ∀ (v : Value) (n : Nat) (xs : List Value), w.ownsRow B 9 1 v n xs → w'.ownsRow B 9 1 v n xs) : Slots C o w' B cs := fun i hi => by
  obtain ⟨a, c, h1, h2⟩ := h i hi
  exact ⟨a, c, h1, hk _ _ _ h2⟩
theorem Slots.set {C : Array Value} {o : Nat} {w : World} {B : Nat} {cs : List Cd} (h : Slots C o w B cs) {p : Nat} (hp : o + cs.length * 7 ≤ p ∨ p < o) (u : Value) : Slots (C.setIfInBounds p u) o w B cs := fun i hi => by
  obtain ⟨a, c, h1, h2⟩ := h i hi
  refine ⟨a, c, fun j v hj => ?_, h2⟩
  have hj7 : j < 7 := by
    have := (List.getElem?_eq_some_iff.1 hj).1
    simpa [Cd.cells] using this
  rw [Array.getElem?_setIfInBounds_ne (by omega)]
  exact h1 j v hj
/-- A registry: the cards that stand, those that were refused, whether it is frozen. -/
def Reg (w : World) (B b : Nat) (cs rs : List Cd) (fz : Bool) : Prop :=
  ∃ (C : Array Value) (m : Int), w.heap[b]? = some (.cells C 48 (0, 0)) ∧ C.size = 1924 ∧ cs.length ≤ 64 ∧ rs.length ≤ 64 ∧ C[1920]? = some (.int .i64 cs.length) ∧ C[1921]? = some (.int .i64 rs.length) ∧ C[1922]? = some (.int .i64 m) ∧ C[1923]? = some (.bool fz) ∧ Slots C 0 w B cs ∧ Slots C 448 w B rs
theorem Reg.lt {w : World} {B b : Nat} {cs rs : List Cd} {fz : Bool} (h : Reg w B b cs rs fz) : b < w.heap.size := by
  obtain ⟨C, m, h1, _⟩ := h
  exact (Array.getElem?_eq_some_iff.1 h1).1
theorem Reg.below {w w' : World} {B b : Nat} {cs rs : List Cd} {fz : Bool} (h : Reg w B b cs rs fz) (hb : Below w.heap.size w w') : Reg w' B b cs rs fz := by
  have hl := h.lt
  obtain ⟨C, m, h1, h2, h3, h4, h5, h6, h7, h8, h9, h10⟩ := h
  exact ⟨C, m, (hb.block b hl).trans h1, h2, h3, h4, h5, h6, h7, h8, h9.to fun _ _ _ h => own_below h hb, h10.to fun _ _ _ h => own_below h hb⟩
/-- Another registry's block is written. -/
theorem Reg.kept {w w' : World} {B b b' : Nat} {cs rs cs' rs' : List Cd} {fz fz' : Bool} (h : Reg w B b cs rs fz) (hne : b ≠ b') (h' : Reg w B b' cs' rs' fz') (hg : w.grownBy w' (some b')) : Reg w' B b cs rs fz := by
  have hl := h.lt
  obtain ⟨C, m, h1, h2, h3, h4, h5, h6, h7, h8, h9, h10⟩ := h
  obtain ⟨C', m', g1, _⟩ := h'
  have key : ∀ (v : Value) (n : Nat) (xs : List Value), w.ownsRow B 9 1 v n xs → w'.ownsRow B 9 1 v n xs := fun v n xs hv => hv.kept hg (by
    by_cases e : v.ownBlock = some b'
    · exfalso
      rcases hv.2 with ⟨rfl, _⟩ | ⟨g, cap, cur, rfl, _, hc, _⟩
      · cases e
      · simp only [Value.ownBlock, Option.some.injEq] at e
        subst e
        rw [g1] at hc
        cases hc
    · exact .inr e)
  exact ⟨C, m, (hg.block b hl (by simpa using hne)).trans h1, h2, h3, h4, h5, h6, h7, h8, h9.to key, h10.to key⟩
theorem reg_cell {w : World} {b : Nat} {C : Array Value} (h : w.heap[b]? = some (.cells C 48 (0, 0))) (j : Nat) {u : Value} (hu : C[j]? = some u) : w.cell? ⟨b, j, none⟩ = some u := (cell_of_row w b j C _ _ h).trans hu
/-- The rows of texts stay where the registry's own cells are written. -/
theorem row_stays {w : World} {B b : Nat} {C : Array Value} (h : w.heap[b]? = some (.cells C 48 (0, 0))) (p : Nat) (u : Value) (v : Value) (n : Nat) (xs : List Value) (hv : w.ownsRow B 9 1 v n xs) : (w.setCell ⟨b, p, none⟩ u).ownsRow B 9 1 v n xs := by
  refine ownsRow_setCell_other hv (a := ⟨b, p, none⟩) (fun e => ?_) u
  rcases hv.2 with ⟨rfl, _⟩ | ⟨g, cap, cur, rfl, _, hc, _⟩
  · cases e
  · simp only [Value.ownBlock, Option.some.injEq] at e
    subst e
    rw [h] at hc
    cases hc
def Frz (w : World) (B b : Nat) (cs rs : List Cd) (fz : Bool) (e : Ending) (w' : World) : Prop := e = .returned (.int .i64 (if fz then 5 else 0)) ∧ Reg w' B b cs rs true ∧ w.grownBy w' (some b)
end Go.Proofs.Ytlgbmjdlgjdolaa
