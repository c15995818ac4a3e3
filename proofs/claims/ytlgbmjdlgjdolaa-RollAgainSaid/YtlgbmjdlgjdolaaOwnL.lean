/- Cards of the call's own, turned place by place. -/
import Derived.Test.YtlgbmjdlgjdolaaTwinC
import Derived.Test.YtlgbmjdlgjdolaaFamM
namespace Go.Proofs.Ytlgbmjdlgjdolaa
open Go.RowKit Go.ChangeShapes
theorem FamS.below {w w' : World} {B : Nat} {e : TypeId} {fs : List (Value × List ByteArray)} (h : FamS w B e fs) (hb : Below w.heap.size w w') : FamS w' B e fs := h.to fun _ _ _ _ h => own_below h hb
/-- One text stored in one of the rows. -/
theorem FamS.set {w : World} {B : Nat} {e : TypeId} {fs : List (Value × List ByteArray)} (h : FamS w B e fs) {p : Nat} {g c : Nat} {zs : List ByteArray} (hp : fs[p]? = some (.slice (some ⟨g, 0, none⟩) zs.length c, zs)) (j : Nat) (x : ByteArray) :
    FamS (w.setCell ⟨g, j, none⟩ (.string x)) B e (fs.set p (.slice (some ⟨g, 0, none⟩) zs.length c, zs.set j x)) := by
  obtain ⟨hpl, hpe⟩ := List.getElem?_eq_some_iff.1 hp
  have hm : (fs.set p (.slice (some ⟨g, 0, none⟩) zs.length c, zs.set j x)).map (fun f => f.1.ownBlock) = fs.map fun f => f.1.ownBlock := by
    apply List.ext_getElem (by simp)
    intro i h1 h2
    simp only [List.getElem_map, List.getElem_set]
    split
    · rename_i hh; subst hh; rw [hpe]
    · rfl
  refine ⟨fun f hf => ?_, by rw [hm]; exact h.2⟩
  obtain ⟨i, hi, rfl⟩ := List.getElem_of_mem hf
  rw [List.length_set] at hi
  rw [List.getElem_set]
  by_cases c : p = i
  · subst c
    rw [if_pos rfl]
    obtain ⟨h1, h2⟩ := h.1 fs[p] (List.getElem_mem hi)
    rw [hpe] at h1 h2
    refine ⟨?_, h2⟩
    have := (h1.stored j (.string x)).1
    rw [sc_set] at this
    simpa using this
  · rw [if_neg c]
    obtain ⟨h1, h2⟩ := h.1 fs[i] (List.getElem_mem hi)
    refine ⟨ownsRow_setCell_other h1 (a := ⟨g, j, none⟩) (fun e => ?_) _, h2⟩
    have hn := List.pairwise_iff_getElem.1 h.2
    have he : (fs.map fun f => f.1.ownBlock)[p]'(by simpa using hpl) = (fs.map fun f => f.1.ownBlock)[i]'(by simpa using hi) := by
      simp only [List.getElem_map]
      rw [e, hpe]
      rfl
    rcases Nat.lt_or_gt_of_ne c with c | c
    · exact hn p i (by simpa using hpl) (by simpa using hi) c he
    · exact hn i p (by simpa using hi) (by simpa using hpl) c he.symm
theorem ccells_name : ∀ (l : List (Cd × Value)) (k : Nat) (h : k < l.length) (x : ByteArray), ccells (l.set k ({ l[k].1 with name := x }, l[k].2)) = (ccells l).set (k * 7) (.string x)
  | [], k, h, _ => by simp at h
  | r :: l, 0, _, x => by simp [ccells, Cd.cells]
  | r :: l, k + 1, h, x => by
    have := ccells_name l k (by simpa using h) x
    have e : (r.1.cells r.2).length = 7 := by simp [Cd.cells]
    simp only [List.set_cons_succ, List.getElem_cons_succ, ccells]
    rw [this, List.set_append_right _ _ (by omega), e, show (k + 1) * 7 - 7 = k * 7 by omega]
theorem ccells_comp : ∀ (l : List (Cd × Value)) (k : Nat) (h : k < l.length) (ss : List ByteArray), ccells (l.set k ({ l[k].1 with comp := ss }, l[k].2)) = ccells l
  | [], k, h, _ => by simp at h
  | r :: l, 0, _, x => by simp [ccells, Cd.cells]
  | r :: l, k + 1, h, x => by
    have := ccells_comp l k (by simpa using h) x
    simp only [List.set_cons_succ, List.getElem_cons_succ, ccells]
    rw [this]
theorem Own.below {w w' : World} {B : Nat} {v : Value} {l : List (Cd × Value)} (h : Own w B v l) (hb : Below w.heap.size w w') : Own w' B v l := ⟨own_below h.1 hb, h.2.below hb⟩
/-- The k-th card's name is turned. -/
theorem Own.name {w : World} {B g cap n : Nat} {l : List (Cd × Value)} (h : Own w B (.slice (some ⟨g, 0, none⟩) n cap) l) (hn : l.length = n) (k : Nat) (hk : k < l.length) (x : ByteArray) :
    Own (w.setCell ⟨g, k * 7, none⟩ (.string x)) B (.slice (some ⟨g, 0, none⟩) n cap) (l.set k ({ l[k].1 with name := x }, l[k].2)) := by
  subst hn
  refine ⟨?_, ?_⟩
  · have := (h.1.stored (k * 7) (.string x)).1
    rw [ccells_name l k hk, List.length_set]
    exact this
  · have e : (l.set k ({ l[k].1 with name := x }, l[k].2)).map (fun r => (r.2, r.1.comp)) = l.map fun r => (r.2, r.1.comp) := by
      apply List.ext_getElem (by simp)
      intro i h1 h2
      simp only [List.getElem_map, List.getElem_set]
      split
      · rename_i hh; subst hh; rfl
      · rfl
    rw [e]
    refine h.2.to fun v n xs hv hx => ownsRow_setCell_other hx (a := ⟨g, k * 7, none⟩) (fun e => ?_) _
    have := own_ne hx h.1 (by decide)
    rw [e] at this
    simp [Value.ownBlock] at this
/-- One text of the k-th card is turned. -/
theorem Own.text {w : World} {B g cap q c n : Nat} {l : List (Cd × Value)} (h : Own w B (.slice (some ⟨g, 0, none⟩) n cap) l) (hn : l.length = n) (k : Nat) (hk : k < l.length) (hq : l[k].2 = .slice (some ⟨q, 0, none⟩) l[k].1.comp.length c) (j : Nat) (x : ByteArray) :
    Own (w.setCell ⟨q, j, none⟩ (.string x)) B (.slice (some ⟨g, 0, none⟩) n cap) (l.set k ({ l[k].1 with comp := l[k].1.comp.set j x }, l[k].2)) := by
  subst hn
  have hp : (l.map fun r => (r.2, r.1.comp))[k]? = some (.slice (some ⟨q, 0, none⟩) l[k].1.comp.length c, l[k].1.comp) := by
    rw [List.getElem?_map, List.getElem?_eq_getElem hk, Option.map_some, hq]
  refine ⟨?_, ?_⟩
  · rw [ccells_comp l k hk, List.length_set]
    refine ownsRow_setCell_other h.1 (a := ⟨q, j, none⟩) (fun e => ?_) _
    have h1 := (h.2.1 _ (List.mem_of_getElem? hp)).1
    have := own_ne h1 h.1 (by decide)
    rw [e] at this
    simp [Value.ownBlock] at this
  · have e : (l.set k ({ l[k].1 with comp := l[k].1.comp.set j x }, l[k].2)).map (fun r => (r.2, r.1.comp)) = (l.map fun r => (r.2, r.1.comp)).set k (.slice (some ⟨q, 0, none⟩) l[k].1.comp.length c, l[k].1.comp.set j x) := by
      rw [List.map_set, hq]
    rw [e]
    exact h.2.set hp j x
/-- Cards whose numbers are in their kinds, whose texts are few. -/
def Fine (l : List (Cd × Value)) : Prop := ∀ i (h : i < l.length), l[i].1.ok ∧ l[i].1.comp.length ≤ 8796093022208
theorem Fine.name {l : List (Cd × Value)} (h : Fine l) (k : Nat) (hk : k < l.length) (x : ByteArray) : Fine (l.set k ({ l[k].1 with name := x }, l[k].2)) := by
  intro i hi
  rw [List.length_set] at hi
  rw [List.getElem_set]
  split
  · exact ⟨(h k hk).1, (h k hk).2⟩
  · exact h i hi
theorem Fine.text {l : List (Cd × Value)} (h : Fine l) (k : Nat) (hk : k < l.length) (j : Nat) (x : ByteArray) : Fine (l.set k ({ l[k].1 with comp := l[k].1.comp.set j x }, l[k].2)) := by
  intro i hi
  rw [List.length_set] at hi
  rw [List.getElem_set]
  split
  · exact ⟨(h k hk).1, by simpa using (h k hk).2⟩
  · exact h i hi
theorem Own.cards {w : World} {B : Nat} {v : Value} {l : List (Cd × Value)} (h : Own w B v l) (hf : Fine l) (hm : l.length ≤ maxLen) : CardsAt w v (l.map (·.1)) :=
  cards_own h.1 h.2 hm fun r hr => by
    obtain ⟨i, hi, rfl⟩ := List.getElem_of_mem hr
    have := (hf i hi).2
    unfold maxLen
    omega
theorem Fine.ok {l : List (Cd × Value)} (h : Fine l) : ∀ i, i < (l.map (·.1)).length → (nthC (l.map (·.1)) i).ok := by
  intro i hi
  rw [nthC_eq hi, List.getElem_map]
  exact (h i (by simpa using hi)).1
theorem Fine.few {l : List (Cd × Value)} (h : Fine l) : ∀ i, i < (l.map (·.1)).length → (nthC (l.map (·.1)) i).comp.length ≤ 8796093022208 := by
  intro i hi
  rw [nthC_eq hi, List.getElem_map]
  exact (h i (by simpa using hi)).2
/-- The k-th card's name, its texts. -/
theorem Own.at {w : World} {B g cap n : Nat} {l : List (Cd × Value)} (h : Own w B (.slice (some ⟨g, 0, none⟩) n cap) l) (hn : l.length = n) (k : Nat) (hk : k < l.length) :
    w.cell? ⟨g, k * 7, none⟩ = some (.string l[k].1.name) ∧ w.frozen? ⟨g, k * 7, none⟩ = false ∧ w.cell? ⟨g, k * 7 + 3, none⟩ = some l[k].2 ∧ ∃ q c, l[k].2 = .slice (some ⟨q, 0, none⟩) l[k].1.comp.length c ∧ B ≤ q ∧ q < w.heap.size ∧ l[k].1.comp.length ≤ c ∧ (∀ j, w.frozen? ⟨q, j, none⟩ = false) ∧ ∀ j, j < l[k].1.comp.length → w.cell? ⟨q, j, none⟩ = some (.string (nthS l[k].1.comp j)) := by
  subst hn
  have h0 := h.1.cellAt (k * 7) (by omega)
  have h3 := h.1.cellAt (k * 7 + 3) (by omega)
  have e0 := ccells_at l k hk 0 (.string l[k].1.name) rfl
  rw [Nat.add_zero] at e0
  rw [e0] at h0
  rw [ccells_at l k hk 3 l[k].2 rfl] at h3
  obtain ⟨r1, r2⟩ := h.2.1 (l[k].2, l[k].1.comp) (List.mem_map.2 ⟨l[k], List.getElem_mem hk, rfl⟩)
  refine ⟨h0, h.1.frozenAt _, h3, ?_⟩
  obtain ⟨q, c, hq, hB, hlt⟩ := own_form r1 r2
  dsimp only at hq r1
  rw [hq] at r1
  refine ⟨q, c, hq, hB, hlt, ?_, fun j => r1.frozenAt j, fun j hj => sc_at r1 rfl j hj⟩
  rcases r1.2 with ⟨h, _⟩ | ⟨_, _, _, he, _, _, hn, _⟩
  · cases h
  · simp only [Value.slice.injEq] at he
    obtain ⟨_, _, rfl⟩ := he
    exact hn
end Go.Proofs.Ytlgbmjdlgjdolaa
