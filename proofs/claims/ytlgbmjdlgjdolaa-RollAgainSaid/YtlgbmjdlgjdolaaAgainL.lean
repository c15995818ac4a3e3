/- For RollAgain's walk: five rows of cards behind a row of slices; a registry that has nothing. -/
import Derived.Test.YtlgbmjdlgjdolaaRollRun
import Derived.Test.YtlgbmjdlgjdolaaGoodV
import Derived.Test.YtlgbmjdlgjdolaaOrdL
namespace Go.Proofs.Ytlgbmjdlgjdolaa
open Go.RowKit Go.ChangeShapes
namespace Roll
/-- A row of five slices, each a family's cards, in memory of the call's own. -/
def Five (w : World) (B gl : Nat) : Prop := gl < w.heap.size ∧ ∀ j, j < 5 → ∃ a c rl, w.cell? ⟨gl, j, none⟩ = some (.slice a (fam j).length c) ∧ rl.map (·.1) = fam j ∧ OwnC w B (.slice a (fam j).length c) rl
theorem Five.kept {w w' : World} {B b gl : Nat} {cs rs : List Cd} {fz : Bool} (h : Five w B gl) (hr : Reg w B b cs rs fz) (hg : w.grownBy w' (some b)) (hne : gl ≠ b) : Five w' B gl := by
  refine ⟨Nat.lt_of_lt_of_le h.1 hg.size, fun j hj => ?_⟩
  obtain ⟨a, c, rl, h1, h2, h3⟩ := h.2 j hj
  have hx : w'.cell? ⟨gl, j, none⟩ = w.cell? ⟨gl, j, none⟩ := World.cell?_of_block (w := w) (a := ⟨gl, j, none⟩) (hg.block gl h.1 (by simpa using hne))
  exact ⟨a, c, rl, hx.trans h1, h2, h3.kept hr hg⟩
theorem own_slice7 {w : World} {B : Nat} {v : Value} {l : List (Cd × Value)} {cs : List Cd} (h : OwnC w B v l) (hm : l.map (·.1) = cs) : ∃ a c, v = .slice a cs.length c := by
  obtain ⟨a, c, e⟩ := own_slice h.1
  exact ⟨a, c, by rw [e, ← hm, List.length_map]⟩
theorem five_of {w w' : World} {B : Nat} {t : TypeId} {a0 a1 a2 a3 a4 : Option Addr} {c0 c1 c2 c3 c4 : Nat} {l0 l1 l2 l3 l4 : List (Cd × Value)}
    (hw : w' = w.alloc (.cells #[.slice a0 crystalC.length c0, .slice a1 supplyC.length c1, .slice a2 busC.length c2, .slice a3 sensorC.length c3, .slice a4 radioC.length c4] t))
    (m0 : l0.map (·.1) = crystalC) (m1 : l1.map (·.1) = supplyC) (m2 : l2.map (·.1) = busC) (m3 : l3.map (·.1) = sensorC) (m4 : l4.map (·.1) = radioC)
    (o0 : OwnC w B (.slice a0 crystalC.length c0) l0) (o1 : OwnC w B (.slice a1 supplyC.length c1) l1) (o2 : OwnC w B (.slice a2 busC.length c2) l2) (o3 : OwnC w B (.slice a3 sensorC.length c3) l3) (o4 : OwnC w B (.slice a4 radioC.length c4) l4) : Five w' B w.heap.size := by
  have hb : Below w.heap.size w w' := by rw [hw]; exact (Below.refl _ w).alloc (Nat.le_refl _) _
  have hk : w'.heap[w.heap.size]? = some (.cells #[.slice a0 crystalC.length c0, .slice a1 supplyC.length c1, .slice a2 busC.length c2, .slice a3 sensorC.length c3, .slice a4 radioC.length c4] t (0, 0)) := by rw [hw]; exact heap_alloc_new w _
  refine ⟨by rw [hw]; simp, fun j hj => ?_⟩
  match j, hj with
  | 0, _ => exact ⟨a0, c0, l0, (cell_of_row w' _ 0 _ _ _ hk).trans rfl, m0, o0.below hb⟩
  | 1, _ => exact ⟨a1, c1, l1, (cell_of_row w' _ 1 _ _ _ hk).trans rfl, m1, o1.below hb⟩
  | 2, _ => exact ⟨a2, c2, l2, (cell_of_row w' _ 2 _ _ _ hk).trans rfl, m2, o2.below hb⟩
  | 3, _ => exact ⟨a3, c3, l3, (cell_of_row w' _ 3 _ _ _ hk).trans rfl, m3, o3.below hb⟩
  | 4, _ => exact ⟨a4, c4, l4, (cell_of_row w' _ 4 _ _ _ hk).trans rfl, m4, o4.below hb⟩
  | _ + 5, h => exact absurd h (by omega)
/-- A registry that has nothing stays where its block stays. -/
theorem Reg.empty {w w' : World} {B b : Nat} {fz : Bool} (h : Reg w B b [] [] fz) (hb : w'.heap[b]? = w.heap[b]?) : Reg w' B b [] [] fz := by
  obtain ⟨C, m, h1, h2, h3, h4, h5, h6, h7, h8, h9, h10⟩ := h
  exact ⟨C, m, hb.trans h1, h2, h3, h4, h5, h6, h7, h8, fun i hi => by simp at hi, fun i hi => by simp at hi⟩
theorem Reg.ne_row {w : World} {B b g n cap : Nat} {cs rs : List Cd} {fz : Bool} {l : List (Cd × Value)} (h : Reg w B b cs rs fz) (ho : OwnC w B (.slice (some ⟨g, 0, none⟩) n cap) l) : b ≠ g := by
  obtain ⟨C, m, h1, _⟩ := h
  intro e
  subst e
  rcases ho.1.2 with ⟨e, _⟩ | ⟨g, cap, cur, e, _, hc, _⟩
  · cases e
  · simp only [Value.slice.injEq, Option.some.injEq, Addr.mk.injEq] at e
    obtain ⟨⟨rfl, _⟩, _⟩ := e
    rw [h1] at hc
    injection hc with hc
    injection hc with _ h2 _
    exact absurd h2 (by decide)
theorem fine_of {l : List (Cd × Value)} {cs : List Cd} (hm : l.map (·.1) = cs) (h : cs.all okB = true) : Fine l := by
  intro i hi
  have hi2 : i < cs.length := by rw [← hm]; simpa using hi
  have := okB_yes h i hi2
  have e : nthC cs i = l[i].1 := by
    rw [nthC_eq hi2]
    simp only [← hm, List.getElem_map]
  rw [e] at this
  exact ⟨this.1, by omega⟩
end Roll
end Go.Proofs.Ytlgbmjdlgjdolaa
