/- Cards entered one by one: Enter's answer and what stands, in one contract; rows that a registry leaves alone. -/
import Derived.Test.YtlgbmjdlgjdolaaRegQ
import Derived.Test.YtlgbmjdlgjdolaaOwnW
import Derived.Deep.MidRow
namespace Go.Proofs.Ytlgbmjdlgjdolaa
open Go.RowKit Go.ChangeShapes
theorem row_kept {w w' : World} {B b t z : Nat} {cs rs : List Cd} {fz : Bool} (hr : Reg w B b cs rs fz) (hg : w.grownBy w' (some b)) (ht : t ≠ 48) {v : Value} {n : Nat} {xs : List Value} (hv : w.ownsRow B t z v n xs) : w'.ownsRow B t z v n xs := hv.kept hg (by
  by_cases e : v.ownBlock = some b
  · exfalso
    obtain ⟨C, m, g1, _⟩ := hr
    rcases hv.2 with ⟨rfl, _⟩ | ⟨g, cap, cur, rfl, _, hc, _⟩
    · cases e
    · simp only [Value.ownBlock, Option.some.injEq] at e
      subst e
      rw [g1] at hc
      injection hc with hc
      injection hc with h1 h2 h3
      exact ht h2.symm
  · exact .inr e)
theorem OwnC.kept {w w' : World} {B b : Nat} {cs rs : List Cd} {fz : Bool} {v : Value} {l : List (Cd × Value)} (h : OwnC w B v l) (hr : Reg w B b cs rs fz) (hg : w.grownBy w' (some b)) : OwnC w' B v l := ⟨row_kept hr hg (by decide) h.1, fun r hx => row_kept hr hg (by decide) (h.2 r hx)⟩
theorem OwnC.base {w : World} {B B' : Nat} {v : Value} {l : List (Cd × Value)} (h : OwnC w B v l) (hb : B' ≤ B) : OwnC w B' v l := ⟨own_base h.1 hb, fun r hx => own_base (h.2 r hx) hb⟩
theorem stands_of {l : List Cd} {P : Cd → Prop} (h : ∀ k, k < l.length → P (nthC l k)) : ∀ i, i ≤ l.length → ∀ c ∈ standsF l i, P c
  | 0, _, c, hc => by simp [standsF] at hc
  | i + 1, hi, c, hc => by
    have ih := stands_of h i (by omega)
    unfold standsF at hc
    split at hc
    · rcases List.mem_append.1 hc with hc | hc
      · exact ih c hc
      · rw [List.mem_singleton.1 hc]; exact h i (by omega)
    · exact ih c hc
theorem refused_of {l : List Cd} {P : Cd → Prop} (h : ∀ k, k < l.length → P (nthC l k)) : ∀ i, i ≤ l.length → ∀ c ∈ refusedF l i, P c
  | 0, _, c, hc => by simp [refusedF] at hc
  | i + 1, hi, c, hc => by
    have ih := refused_of h i (by omega)
    unfold refusedF at hc
    split at hc
    · rcases List.mem_append.1 hc with hc | hc
      · exact ih c hc
      · rw [List.mem_singleton.1 hc]; exact h i (by omega)
    · exact ih c hc
/-- The i-th card enters a registry that has what stands of those ahead. -/
theorem enter_step (b B : Nat) (lv sco en : Int) (n f q : ByteArray) (ss : List ByteArray) (sl : Value) (l : List Cd) (i : Nat) (hi : i < l.length) (h6 : i < 64) (hc : nthC l i = ⟨n, f, lv, ss, sco, q, en⟩) (w : World) (h : Reg w B b (standsF l i) (refusedF l i) false) (hB : B ≤ w.heap.size)
    (hfew : ∀ k, k < l.length → (nthC l k).comp.length ≤ 8796093022208) (hok : ∀ k, k < l.length → (nthC l k).ok) (hs : Strs w sl ss) :
    Calls Try.prog 10 #[.pointer (some ⟨b, 0, none⟩), .agg #[.string n, .string f, .int .u8 lv, sl, .int .i8 sco, .string q, .int .i16 en]] w (Ent w B b (answerF l i) (standsF l (i + 1)) (refusedF l (i + 1)) false) := by
  have h1 := hok i hi
  have h2 := hfew i hi
  have hs1 := stands_len l i
  have hs2 := refused_len l i
  have hml : ∀ j (h : j < (standsF l i).length), (standsF l i)[j].comp.length ≤ maxLen := fun j hj => by
    have := stands_of (P := fun c => c.comp.length ≤ 8796093022208) hfew i (by omega) _ (List.getElem_mem hj)
    unfold maxLen
    omega
  rw [hc] at h1 h2
  by_cases hm : mayB (nthC l i) = true
  · by_cases ht : namedB (standsF l i) (nthC l i).name = true
    · obtain ⟨e1, e2, e3⟩ := stands_taken hm ht
      rw [e1, e2, e3, hc]
      rw [hc] at hm ht
      exact enter_taken b B _ _ n f q lv sco en ss sl w h hB hml hs h2 h1 hm ht (by omega)
    · have ht := Bool.eq_false_iff.2 ht
      obtain ⟨e1, e2, e3⟩ := stands_next hm ht
      rw [e1, e2, e3, hc]
      rw [hc] at hm ht
      exact enter_stands b B _ _ n f q lv sco en ss sl w h hB hml hs h2 h1 hm ht (by omega)
  · have hm := Bool.eq_false_iff.2 hm
    obtain ⟨e1, e2, e3⟩ := stands_bad hm
    rw [e1, e2, e3]
    rw [hc] at hm
    exact enter_bad b B _ _ n f q lv sco en ss sl w h hs h1 hm
/-- Two registries: one has all, the other was frozen at a place. -/
def Froz (a : Int) (i : Nat) (m : Nat) (fz : Bool) : Prop := (fz = false ∧ m = i ∧ (a < 0 ∨ (i : Int) ≤ a)) ∨ (fz = true ∧ (m : Int) = a ∧ a < (i : Int))
theorem answer_three (l : List Cd) (i : Nat) : answerF l i = 0 ∧ (standsF l (i + 1)).length = (standsF l i).length + 1 ∧ (refusedF l (i + 1)).length = (refusedF l i).length ∨ answerF l i = 71 ∧ (standsF l (i + 1)).length = (standsF l i).length ∧ (refusedF l (i + 1)).length = (refusedF l i).length + 1 ∨ answerF l i = 70 ∧ (standsF l (i + 1)).length = (standsF l i).length ∧ (refusedF l (i + 1)).length = (refusedF l i).length := by
  by_cases hm : mayB (nthC l i) = true
  · by_cases ht : namedB (standsF l i) (nthC l i).name = true
    · obtain ⟨e1, e2, e3⟩ := stands_taken hm ht
      rw [e1, e2, e3]
      exact .inr (.inl ⟨rfl, rfl, by simp⟩)
    · have ht := Bool.eq_false_iff.2 ht
      obtain ⟨e1, e2, e3⟩ := stands_next hm ht
      rw [e1, e2, e3]
      exact .inl ⟨rfl, by simp, rfl⟩
  · have hm := Bool.eq_false_iff.2 hm
    obtain ⟨e1, e2, e3⟩ := stands_bad hm
    rw [e1, e2, e3]
    exact .inr (.inr ⟨rfl, rfl, rfl⟩)
theorem putAll_other {g b j : Nat} (hne : b ≠ g) : ∀ (vs : List Value) (w : World) (p : Nat), (putAll w g p vs).heap[b]? = w.heap[b]?
  | [], _, _ => rfl
  | v :: vs, w, p => (putAll_other (j := j) hne vs _ _).trans (Below.heap_setCell w _ _ b (by simpa using hne))
theorem putAll_cell {g b : Nat} (hne : b ≠ g) (vs : List Value) (w : World) (p j : Nat) {u : Value} (h : w.cell? ⟨b, j, none⟩ = some u) : (putAll w g p vs).cell? ⟨b, j, none⟩ = some u := by
  rw [← h]
  unfold World.cell?
  rw [putAll_other (j := j) hne vs w p]
theorem putAll_below {b g : Nat} {W : World} (hg : b ≤ g) : ∀ (vs : List Value) (w : World) (p : Nat), Below b W w → Below b W (putAll w g p vs)
  | [], _, _, h => h
  | v :: vs, w, p, h => putAll_below hg vs _ _ (Below.setCell h (p := ⟨g, p, none⟩) hg v)
/-- Two cards change places. -/
theorem OwnC.swap {w : World} {B g n cap : Nat} {l : List (Cd × Value)} (h : OwnC w B (.slice (some ⟨g, 0, none⟩) n cap) l) (hn : l.length = n) (M J : Nat) (hM : M < l.length) (hJ : J < l.length) :
    OwnC (putAll (putAll w g (M * 7) (l[J].1.cells l[J].2)) g (J * 7) (l[M].1.cells l[M].2)) B (.slice (some ⟨g, 0, none⟩) n cap) ((l.set M l[J]).set J l[M]) := by
  have h1 := h.put hn M hM l[J] (h.2 _ (List.getElem_mem hJ))
  have ht : (putAll w g (M * 7) (l[J].1.cells l[J].2)).ownsRow B 9 1 l[M].2 l[M].1.comp.length (sc l[M].1.comp) := by
    have h0 := h.1
    rw [hn] at h0
    exact putAll_text _ _ _ _ h0 _ _ _ (h.2 _ (List.getElem_mem hM))
  exact h1.put (by rw [List.length_set]; exact hn) J (by rw [List.length_set]; exact hJ) l[M] ht
theorem Fine.swap {l : List (Cd × Value)} (h : Fine l) (M J : Nat) (hM : M < l.length) (hJ : J < l.length) : Fine ((l.set M l[J]).set J l[M]) := by
  intro i hi
  simp only [List.length_set] at hi
  rw [List.getElem_set]
  split
  · exact h M hM
  · rw [List.getElem_set]
    split
    · exact h J hJ
    · exact h i hi
/-- The k-th card's cells. -/
theorem OwnC.at {w : World} {B g n cap : Nat} {l : List (Cd × Value)} (h : OwnC w B (.slice (some ⟨g, 0, none⟩) n cap) l) (hn : l.length = n) (k : Nat) (hk : k < l.length) :
    (∀ j u, (l[k].1.cells l[k].2)[j]? = some u → w.cell? ⟨g, k * 7 + j, none⟩ = some u) ∧ (∀ j, w.frozen? ⟨g, j, none⟩ = false) ∧ ∃ a c, l[k].2 = .slice a l[k].1.comp.length c := by
  have h0 := h.1
  rw [hn] at h0
  refine ⟨fun j u hj => ?_, fun j => h0.frozenAt j, own_slice (h.2 _ (List.getElem_mem hk))⟩
  have hj7 : j < 7 := by
    have := (List.getElem?_eq_some_iff.1 hj).1
    simpa [Cd.cells] using this
  rw [h0.cellAt (k * 7 + j) (by omega)]
  exact ccells_at l k hk j u hj
theorem putAll_cells (g : Nat) : ∀ (vs : List Value) (w : World) (p : Nat), w.setCells g p vs = putAll w g p vs
  | [], _, _ => rfl
  | v :: vs, w, p => by rw [World.setCells, putAll, putAll_cells g vs]
/-- The k-th card's cells are there. -/
theorem OwnC.there {w : World} {B g n cap : Nat} {l : List (Cd × Value)} (h : OwnC w B (.slice (some ⟨g, 0, none⟩) n cap) l) (hn : l.length = n) (k : Nat) (hk : k < l.length) : w.there g (k * 7) 7 := fun j hj => by
  obtain ⟨h1, h2, _⟩ := h.at hn k hk
  obtain ⟨u, hu⟩ := cells_some l[k].1 l[k].2 j hj
  rw [h1 j u hu]
  exact ⟨rfl, h2 _⟩
theorem OwnC.range {w : World} {B g n cap : Nat} {l : List (Cd × Value)} (h : OwnC w B (.slice (some ⟨g, 0, none⟩) n cap) l) (hn : l.length = n) (k : Nat) (hk : k < l.length) : w.rangeAt g (k * 7) (l[k].1.cells l[k].2) := fun j v hv => (h.at hn k hk).1 j v hv
section
variable {P : Program}
/-- A struct is stored whole into cells that are there. -/
theorem wp_store_all {op : Oper} {a : Act} {w : World} {K : Act → World → Prop} {Q : Exit → Act → World → Prop} (ty : TypeId) (x y : Operand) (ho : op.op = .store ty x y)
    (b o : Nat) (cs : List Value) (hx : a.eval x = .pointer (some ⟨b, o, none⟩)) (hy : a.eval y = .agg cs.toArray) (ht : w.there b o cs.length) (hi : (P.info? ty).map (·.size) = some cs.length) (h1 : ∀ v ∈ cs, v.oneCell' = true)
    (h : ∀ W4, Hid (W4 = putAll w b o cs) → K (a.put op.dst undef) W4) : op.wp P a w K Q :=
  wp_store_mid ty x y ho b o cs.toArray hx hy (by simpa using ht) (by simpa using hi) (all_oneCell_toArray h1) (h _ (Lib.hid (by rw [← putAll_cells])))
theorem wpList_store_all {ops : Array Oper} {rest : List Oper} {op : Oper} {a : Act} {w : World} {Q : Exit → Act → World → Prop} (hgd : op.guard = none) (ty : TypeId) (x y : Operand) (ho : op.op = .store ty x y)
    (b o : Nat) (cs : List Value) (hx : a.eval x = .pointer (some ⟨b, o, none⟩)) (hy : a.eval y = .agg cs.toArray) (ht : w.there b o cs.length) (hi : (P.info? ty).map (·.size) = some cs.length) (h1 : ∀ v ∈ cs, v.oneCell' = true)
    (h : ∀ W4, Hid (W4 = putAll w b o cs) → wpList P ops Q rest (a.put op.dst undef) W4) : wpList P ops Q (op :: rest) a w :=
  wpList_plain hgd fun _ hK => wp_store_all ty x y ho b o cs hx hy ht hi h1 (fun W4 h4 => hK _ _ (h W4 h4))
end
theorem cells_one (c : Cd) (a : Option Addr) (n k : Nat) : ∀ v ∈ c.cells (.slice a n k), v.oneCell' = true := by
  intro v hv
  simp only [Cd.cells, List.mem_cons, List.not_mem_nil, or_false] at hv
  rcases hv with rfl | rfl | rfl | rfl | rfl | rfl | rfl <;> rfl
theorem reg_zr (w : World) (B : Nat) : Reg (w.alloc (.cells zr 48 (0, 0))) B w.heap.size [] [] false :=
  ⟨_, 0, heap_alloc_new w _, zr_size, by simp, by simp, zr_n.1, zr_n.2.1, zr_n.2.2.1, zr_n.2.2.2, fun i hi => by simp at hi, fun i hi => by simp at hi⟩
def Froz2 (a : Int) (i : Nat) (m : Nat) (fz : Bool) : Prop := (fz = false ∧ m = i ∧ (a < 0 ∨ (i : Int) < a)) ∨ (fz = true ∧ (m : Int) = a ∧ a ≤ (i : Int))
theorem standsF_zero (l : List Cd) : standsF l 0 = [] := rfl
theorem refusedF_zero (l : List Cd) : refusedF l 0 = [] := rfl
end Go.Proofs.Ytlgbmjdlgjdolaa
