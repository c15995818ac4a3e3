/- A registry in memory; Freeze, Frozen. -/
import Derived.Test.YtpafbnmncioppaaAllC
import Derived.Test.YtpafbnmncioppaaNewC
namespace Go.Proofs.Ytpafbnmncioppaa
open Go.RowKit Go.ChangeShapes
/-- What else stands in a registry's cells (its notes), and where the texts may lie. -/
class RE where
  keep : Array Value → Prop
  inv : ∀ C C' : Array Value, (∀ j, (896 ≤ j ∧ j < 1920) ∨ j = 1922 → C'[j]? = C[j]?) → keep C → keep C'
  okT : Nat → Prop
set_option linter.unusedSectionVars false
variable [RE]
/-- The cards that lie in the cells C from o on. -/
def Slots (C : Array Value) (o : Nat) (w : World) (B : Nat) (cs : List Cd) : Prop :=
  ∀ i (h : i < cs.length), ∃ a c, (∀ j u, (cs[i].cells (.slice a cs[i].comp.length c))[j]? = some u → C[o + i * 7 + j]? = some u) ∧ (w.ownsRow B 9 1 (.slice a cs[i].comp.length c) cs[i].comp.length (sc cs[i].comp) ∧ ∀ g : Addr, a = some g → RE.okT g.block)
theorem Slots.to {C : Array Value} {o : Nat} {w w' : World} {B : Nat} {cs : List Cd} (h : Slots C o w B cs) (hk : ∀ (v : Value) (n : Nat) (xs : List Value), w.ownsRow B 9 1 v n xs → w'.ownsRow B 9 1 v n xs) : Slots C o w' B cs := fun i hi => by
  obtain ⟨a, c, h1, h2⟩ := h i hi
  exact ⟨a, c, h1, hk _ _ _ h2.1, h2.2⟩
theorem Slots.set {C : Array Value} {o : Nat} {w : World} {B : Nat} {cs : List Cd} (h : Slots C o w B cs) {p : Nat} (hp : o + cs.length * 7 ≤ p ∨ p < o) (u : Value) : Slots (C.setIfInBounds p u) o w B cs := fun i hi => by
  obtain ⟨a, c, h1, h2⟩ := h i hi
  refine ⟨a, c, fun j v hj => ?_, h2⟩
  have hj7 : j < 7 := by
    have := (List.getElem?_eq_some_iff.1 hj).1
    simpa [Cd.cells] using this
  rw [Array.getElem?_setIfInBounds_ne (by omega)]
  exact h1 j v hj
/-- A registry: the cards that stand, those that were refused, whether it is frozen. -/
def Reg (w : World) (B b : Nat) (cs rs : List Cd) (fz : Bool) : Prop :=
  ∃ (C : Array Value) (_ : Int), w.heap[b]? = some (.cells C 84 (0, 0)) ∧ C.size = 1924 ∧ cs.length ≤ 64 ∧ rs.length ≤ 64 ∧ C[1920]? = some (.int .i64 cs.length) ∧ C[1921]? = some (.int .i64 rs.length) ∧ RE.keep C ∧ C[1923]? = some (.bool fz) ∧ Slots C 0 w B cs ∧ Slots C 448 w B rs
theorem Reg.lt {w : World} {B b : Nat} {cs rs : List Cd} {fz : Bool} (h : Reg w B b cs rs fz) : b < w.heap.size := by
  obtain ⟨C, m, h1, _⟩ := h
  exact (Array.getElem?_eq_some_iff.1 h1).1
theorem Reg.below {w w' : World} {B b : Nat} {cs rs : List Cd} {fz : Bool} (h : Reg w B b cs rs fz) (hb : Below w.heap.size w w') : Reg w' B b cs rs fz := by
  have hl := h.lt
  obtain ⟨C, m, h1, h2, h3, h4, h5, h6, h7, h8, h9, h10⟩ := h
  exact ⟨C, m, (hb.block b hl).trans h1, h2, h3, h4, h5, h6, h7, h8, h9.to fun _ _ _ h => own_below h hb, h10.to fun _ _ _ h => own_below h hb⟩
/-- Another registry's block is written. -/
theorem Reg.kept {w w' : World} {B b b' : Nat} {cs rs cs' rs' : List Cd} {fz fz' : Bool} (h : Reg w B b cs rs fz) (hne : b ≠ b') (h' : Reg w B b' cs' rs' fz') (hg : w.grownBy w' (some b')) : Reg w' B b cs rs fz := by
  have hl := h.lt
  obtain ⟨C, m, h1, h2, h3, h4, h5, h6, h7, h8, h9, h10⟩ := h
  obtain ⟨C', m', g1, _⟩ := h'
  have key : ∀ (v : Value) (n : Nat) (xs : List Value), w.ownsRow B 9 1 v n xs → w'.ownsRow B 9 1 v n xs := fun v n xs hv => hv.kept hg (by
    by_cases e : v.ownBlock = some b'
    · exfalso
      rcases hv.2 with ⟨rfl, _⟩ | ⟨g, cap, cur, rfl, _, hc, _⟩
      · cases e
      · simp only [Value.ownBlock, Option.some.injEq] at e
        subst e
        rw [g1] at hc
        cases hc
    · exact .inr e)
  exact ⟨C, m, (hg.block b hl (by simpa using hne)).trans h1, h2, h3, h4, h5, h6, h7, h8, h9.to key, h10.to key⟩
theorem reg_cell {w : World} {b : Nat} {C : Array Value} (h : w.heap[b]? = some (.cells C 84 (0, 0))) (j : Nat) {u : Value} (hu : C[j]? = some u) : w.cell? ⟨b, j, none⟩ = some u := (cell_of_row w b j C _ _ h).trans hu
/-- The rows of texts stay where the registry's own cells are written. -/
theorem row_stays {w : World} {B b : Nat} {C : Array Value} (h : w.heap[b]? = some (.cells C 84 (0, 0))) (p : Nat) (u : Value) (v : Value) (n : Nat) (xs : List Value) (hv : w.ownsRow B 9 1 v n xs) : (w.setCell ⟨b, p, none⟩ u).ownsRow B 9 1 v n xs := by
  refine ownsRow_setCell_other hv (a := ⟨b, p, none⟩) (fun e => ?_) u
  rcases hv.2 with ⟨rfl, _⟩ | ⟨g, cap, cur, rfl, _, hc, _⟩
  · cases e
  · simp only [Value.ownBlock, Option.some.injEq] at e
    subst e
    rw [h] at hc
    cases hc
def Frz (w : World) (B b : Nat) (cs rs : List Cd) (fz : Bool) (e : Ending) (w' : World) : Prop := e = .returned (.int .i64 (if fz then 5 else 0)) ∧ Reg w' B b cs rs true ∧ w.grownBy w' (some b)
set_option maxHeartbeats 1000000 in
set_option maxRecDepth 100000 in
theorem frozen_any (b B : Nat) (cs rs : List Cd) (fz : Bool) (w : World) (h : Reg w B b cs rs fz) : Calls Try.prog 34 #[.pointer (some ⟨b, 0, none⟩)] w fun e w' => e = .returned (.bool fz) ∧ w' = w := by
  obtain ⟨C, m, h1, h2, h3, h4, h5, h6, h7, h8, h9, h10⟩ := h
  have c3 := reg_cell h1 1923 h8
  clear h1 h2 h3 h4 h5 h6 h7 h8 h9 h10
  go_enter Try.func34, Try.ntmps34
  go_wp2_with fail
  go_ret
  exact ⟨rfl, rfl⟩
set_option maxHeartbeats 1000000 in
set_option maxRecDepth 100000 in
theorem freeze_any (b B : Nat) (cs rs : List Cd) (fz : Bool) (w : World) (h : Reg w B b cs rs fz) : Calls Try.prog 33 #[.pointer (some ⟨b, 0, none⟩)] w (Frz w B b cs rs fz) := by
  have HR := Lib.hid h
  obtain ⟨C, m, h1, h2, h3, h4, h5, h6, h7, h8, h9, h10⟩ := h
  have c3 := reg_cell h1 1923 h8
  have f3 := frozen_of_row w b 1923 C _ h1
  have HN : Hid (Reg (w.setCell ⟨b, 1923, none⟩ (.bool true)) B b cs rs true) := Lib.hid
    ⟨C.setIfInBounds 1923 (.bool true), m, heap_setCell_same w b 1923 C _ _ h1, by simpa using h2, h3, h4, by rw [Array.getElem?_setIfInBounds_ne (by omega)]; exact h5, by rw [Array.getElem?_setIfInBounds_ne (by omega)]; exact h6, RE.inv _ _ (fun j hj => Array.getElem?_setIfInBounds_ne (by omega)) h7,
      by rw [Array.getElem?_setIfInBounds_self_of_lt (by omega)], (h9.to (row_stays h1 1923 _)).set (.inl (by omega)) _, (h10.to (row_stays h1 1923 _)).set (.inl (by omega)) _⟩
  have HG : Hid (w.grownBy (w.setCell ⟨b, 1923, none⟩ (.bool true)) (some b)) := Lib.hid ⟨rfl, rfl, rfl, by simp, fun k hk hne => Below.heap_setCell w _ _ k (by simpa using hne)⟩
  clear h1 h2 h3 h4 h5 h6 h7 h8 h9 h10
  cases fz with
  | true =>
    clear HN HG
    go_enter Try.func33, Try.ntmps33
    go_wp2_with fail
    go_ret
    exact ⟨rfl, HR.out, World.grownBy.refl w _⟩
  | false =>
    go_enter Try.func33, Try.ntmps33
    go_wp2_with fail
    go_ret
    exact ⟨rfl, HN.out, HG.out⟩
end Go.Proofs.Ytpafbnmncioppaa
