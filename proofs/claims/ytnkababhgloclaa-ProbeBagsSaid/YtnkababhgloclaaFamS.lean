/- Copies of rows of texts; rows of texts of the call's own, many at once; rows of cards made of them. -/
import Derived.Test.YtnkababhgloclaaFamL
import Derived.Test.YtnkababhgloclaaCheckC
namespace Go.Proofs.Ytnkababhgloclaa
open Go.RowKit Go.ChangeShapes
def sc (zs : List ByteArray) : List Value := zs.map Value.string
theorem sc_len (zs : List ByteArray) : (sc zs).length = zs.length := by simp [sc]
theorem sc_set (zs : List ByteArray) (k : Nat) (x : ByteArray) : (sc zs).set k (.string x) = sc (zs.set k x) := by simp [sc, List.map_set]
theorem sc_one (zs : List ByteArray) : ∀ u ∈ sc zs, u.oneCell' = true := by
  intro u hu
  obtain ⟨z, _, rfl⟩ := List.mem_map.1 hu
  rfl
theorem sc_at {w : World} {B t g n c : Nat} {zs : List ByteArray} (h : w.ownsRow B t 1 (.slice (some ⟨g, 0, none⟩) n c) n (sc zs)) (hl : zs.length = n) (k : Nat) (hk : k < n) : w.cell? ⟨g, k, none⟩ = some (.string (nthS zs k)) := by
  rw [h.cellAt k (by omega)]
  simp [sc, nthS_eq (show k < zs.length by omega), show k < zs.length by omega]
theorem strs_own {w : World} {B t : Nat} {v : Value} {zs : List ByteArray} (h : w.ownsRow B t 1 v zs.length (sc zs)) (hm : zs.length ≤ maxLen) : Strs w v zs := by
  have h' := h
  rcases h.2 with ⟨rfl, h0⟩ | ⟨g, cap, cur, rfl, hx⟩
  · exact ⟨none, 0, by rw [h0], hm, by omega, fun _ => ⟨List.length_eq_zero_iff.1 h0, rfl⟩, fun i hi => by omega⟩
  · exact ⟨some ⟨g, 0, none⟩, cap, rfl, hm, hx.2.2.1, (fun h => by cases h), fun i hi => ⟨g, 0, rfl, by simpa using sc_at h' rfl i hi⟩⟩
theorem wp_copyS {P : Program} {w : World} {o : Oper} {a : Act} {K : Act → World → Prop} {Q : Exit → Act → World → Prop} (s x : Operand) (t : TypeId)
    (ho : o.op = .call { callee := .builtin .append, args := #[s, x], argTypes := #[t, t] })
    (base : Nat) (e : TypeId) (i : TypeInfo) (ht : P.underlying t = some (.slice e)) (hi : P.info? e = some i) (hz : i.zero = some (.string .empty)) (hsize : i.size = 1) (hby : i.bytes = 16)
    (g0 c0 : Nat) (hs : a.eval s = .slice (some ⟨g0, 0, none⟩) 0 c0) (hown : w.ownsRow base e 1 (.slice (some ⟨g0, 0, none⟩) 0 c0) 0 (sc [])) (v : Value) (zs : List ByteArray) (hx : a.eval x = v) (hv : Strs w v zs) (hlen : zs.length ≤ 8796093022208) (hbase : base ≤ w.heap.size) (H : Nat) (hH : w.heap.size = H)
    (h : ∀ g cap w', w'.ownsRow base e 1 (.slice (some ⟨g, 0, none⟩) zs.length cap) zs.length (sc zs) → w.grownBy w' (some g0) → (g = g0 ∨ g = H) → g < w'.heap.size → K (a.put o.dst (.slice (some ⟨g, 0, none⟩) zs.length cap)) w') :
    Oper.wp P o a w K Q := by
  obtain ⟨ad, cap, rfl, hm, _, hnil, hc⟩ := hv
  unfold Oper.wp execOp
  cases ad with
  | none =>
    obtain ⟨rfl, rfl⟩ := hnil rfl
    have hrun := run_append_owned_none (P := P) (w := w) base t o.type e i 1 ht hi _ 0 (sc []) hown
    simp only [List.length_nil] at hx
    simp only [ho, resolve, invoke, builtin, Sem.run_bind, Sem.run_pure, Result.andThen_ok, List.map_toArray, List.map_cons, List.map_nil, hs, hx, hrun]
    exact h g0 c0 w hown (World.grownBy.refl w _) (.inl rfl) (hown.lt g0 rfl).2
  | some ad =>
    obtain ⟨v', w', hr, h2, h3, h4, h5⟩ := run_append_own_at (P := P) w base t o.type e i (.string .empty) 1 16 ht hi hz hsize hby rfl (by decide) _ 0 (sc []) hown ad zs.length cap (sc zs) (by rw [sc_len, Nat.mul_one]) (fun j u hj => by
      have hjl : j < zs.length := by
        have := (List.getElem?_eq_some_iff.1 hj).1
        rwa [sc_len] at this
      obtain ⟨b, off, hp, hcell⟩ := hc j hjl
      obtain rfl := Option.some.inj hp
      rw [addr_add, hcell]
      simp [sc, hjl, nthS_eq hjl] at hj ⊢
      exact hj) (sc_one zs) (by unfold maxLen at *; omega) (by omega) hbase
    simp only [ho, resolve, invoke, builtin, Sem.run_bind, Sem.run_pure, Result.andThen_ok, List.map_toArray, List.map_cons, List.map_nil, hs, hx, hr]
    simp only [Nat.zero_add, show sc [] ++ sc zs = sc zs by simp [sc]] at h2
    have h2' := h2
    rcases h2.2 with ⟨rfl, _⟩ | ⟨g, cap', cur, rfl, _⟩
    · obtain ⟨h, _⟩ := h4.1 rfl
      cases h
    · refine h g cap' w' h2' h3 ?_ (h2'.lt g rfl).2
      rcases h5 with h5 | h5
      · exact .inl (by simpa [Value.ownBlock] using h5)
      · exact .inr (by rw [← hH]; simpa [Value.ownBlock] using h5)
theorem step_copyS {P : Program} {w : World} {ops : Array Oper} {o : Oper} {a : Act} {K : Act → World → Prop} {Q : Exit → Act → World → Prop} {E : Prop} (hgd : o.guard = none) (s x : Operand) (t : TypeId)
    (ho : o.op = .call { callee := .builtin .append, args := #[s, x], argTypes := #[t, t] })
    (base : Nat) (e : TypeId) (i : TypeInfo) (ht : P.underlying t = some (.slice e)) (hi : P.info? e = some i) (hz : i.zero = some (.string .empty)) (hsize : i.size = 1) (hby : i.bytes = 16)
    (g0 c0 : Nat) (hs : a.eval s = .slice (some ⟨g0, 0, none⟩) 0 c0) (hown : w.ownsRow base e 1 (.slice (some ⟨g0, 0, none⟩) 0 c0) 0 (sc [])) (v : Value) (zs : List ByteArray) (hx : a.eval x = v) (hv : Strs w v zs) (hlen : zs.length ≤ 8796093022208) (hbase : base ≤ w.heap.size) (H : Nat) (hH : w.heap.size = H)
    (h : ∀ g cap w', w'.ownsRow base e 1 (.slice (some ⟨g, 0, none⟩) zs.length cap) zs.length (sc zs) → w.grownBy w' (some g0) → (g = g0 ∨ g = H) → g < w'.heap.size → K (a.put o.dst (.slice (some ⟨g, 0, none⟩) zs.length cap)) w') :
    if Region.wanted o (yielded ops a.tmps) = true then Oper.wp P o a w K Q else E := by
  have hw : Region.wanted o (yielded ops a.tmps) = true := by simp [Region.wanted, hgd]
  rw [if_pos hw]
  exact wp_copyS s x t ho base e i ht hi hz hsize hby g0 c0 hs hown v zs hx hv hlen hbase H hH h
theorem wpList_copyS {P : Program} {w : World} {ops : Array Oper} {o : Oper} {a : Act} {rest : List Oper} {Q : Exit → Act → World → Prop} (hgd : o.guard = none) (s x : Operand) (t : TypeId)
    (ho : o.op = .call { callee := .builtin .append, args := #[s, x], argTypes := #[t, t] })
    (base : Nat) (e : TypeId) (i : TypeInfo) (ht : P.underlying t = some (.slice e)) (hi : P.info? e = some i) (hz : i.zero = some (.string .empty)) (hsize : i.size = 1) (hby : i.bytes = 16)
    (g0 c0 : Nat) (hs : a.eval s = .slice (some ⟨g0, 0, none⟩) 0 c0) (hown : w.ownsRow base e 1 (.slice (some ⟨g0, 0, none⟩) 0 c0) 0 (sc [])) (v : Value) (zs : List ByteArray) (hx : a.eval x = v) (hv : Strs w v zs) (hlen : zs.length ≤ 8796093022208) (hbase : base ≤ w.heap.size) (H : Nat) (hH : w.heap.size = H)
    (h : ∀ g cap w', w'.ownsRow base e 1 (.slice (some ⟨g, 0, none⟩) zs.length cap) zs.length (sc zs) → w.grownBy w' (some g0) → (g = g0 ∨ g = H) → g < w'.heap.size → wpList P ops Q rest (a.put o.dst (.slice (some ⟨g, 0, none⟩) zs.length cap)) w') :
    wpList P ops Q (o :: rest) a w :=
  wpList_plain hgd fun _ hK => wp_copyS s x t ho base e i ht hi hz hsize hby g0 c0 hs hown v zs hx hv hlen hbase H hH fun g cap w' h1 h2 h3 h4 => hK _ _ (h g cap w' h1 h2 h3 h4)
/-- Rows of numbers, each of its own, none nil, no two in one block. -/
def FamS (w : World) (B : Nat) (e : TypeId) (fs : List (Value × List ByteArray)) : Prop :=
  (∀ f ∈ fs, w.ownsRow B e 1 f.1 f.2.length (sc f.2) ∧ f.1.ownBlock ≠ none) ∧ (fs.map fun f => f.1.ownBlock).Nodup
theorem FamS.nil (w : World) (B : Nat) (e : TypeId) : FamS w B e [] := ⟨fun f h => (nomatch h), List.nodup_nil⟩
theorem FamS.to {w w' : World} {B : Nat} {e : TypeId} {fs : List (Value × List ByteArray)} (h : FamS w B e fs) (hk : ∀ (v : Value) (n : Nat) (xs : List Value), v.ownBlock ≠ none → w.ownsRow B e 1 v n xs → w'.ownsRow B e 1 v n xs) : FamS w' B e fs :=
  ⟨fun f hf => ⟨hk _ _ _ (h.1 f hf).2 (h.1 f hf).1, (h.1 f hf).2⟩, h.2⟩
theorem FamS.add {w : World} {B : Nat} {e : TypeId} {fs : List (Value × List ByteArray)} {v : Value} {zs : List ByteArray} (h : FamS w B e fs) (ho : w.ownsRow B e 1 v zs.length (sc zs)) (hn : v.ownBlock ≠ none) (hd : ∀ f ∈ fs, f.1.ownBlock ≠ v.ownBlock) : FamS w B e (fs ++ [(v, zs)]) := by
  refine ⟨fun f hf => ?_, ?_⟩
  · rcases List.mem_append.1 hf with hf | hf
    · exact h.1 f hf
    · obtain rfl := List.mem_singleton.1 hf
      exact ⟨ho, hn⟩
  · rw [List.map_append, List.nodup_append]
    refine ⟨h.2, by simp, fun a ha b hb => ?_⟩
    obtain ⟨f, hf, rfl⟩ := List.mem_map.1 ha
    simp at hb
    subst hb
    exact hd f hf
theorem own_base {w : World} {B B' e size n : Nat} {v : Value} {xs : List Value} (h : w.ownsRow B e size v n xs) (hb : B' ≤ B) : w.ownsRow B' e size v n xs := by
  refine ⟨h.1, ?_⟩
  rcases h.2 with h0 | ⟨g, cap, cur, h1, h2, h3⟩
  · exact .inl h0
  · exact .inr ⟨g, cap, cur, h1, Nat.le_trans hb h2, h3⟩
/-- The cards' cells. -/
def ccells : List (Cd × Value) → List Value
  | [] => []
  | r :: l => r.1.cells r.2 ++ ccells l
theorem ccells_len : ∀ l, (ccells l).length = l.length * 7
  | [] => rfl
  | r :: l => by simp [ccells, Cd.cells, ccells_len l]; omega
theorem ccells_append : ∀ (l m : List (Cd × Value)), ccells (l ++ m) = ccells l ++ ccells m
  | [], m => rfl
  | r :: l, m => by simp [ccells, ccells_append l m]
theorem ccells_at : ∀ (l : List (Cd × Value)) (i : Nat) (h : i < l.length) (j : Nat) (u : Value), (l[i].1.cells l[i].2)[j]? = some u → (ccells l)[i * 7 + j]? = some u
  | [], i, h, _, _, _ => by simp at h
  | r :: l, 0, _, j, u, hj => by
    have hl : j < (r.1.cells r.2).length := (List.getElem?_eq_some_iff.1 hj).1
    simp only [ccells, Nat.zero_mul, Nat.zero_add]
    rw [List.getElem?_append_left hl]
    exact hj
  | r :: l, i + 1, h, j, u, hj => by
    have := ccells_at l i (by simpa using h) j u hj
    have e : (r.1.cells r.2).length = 7 := by simp [Cd.cells]
    simp only [ccells]
    rw [List.getElem?_append_right (by omega), e, show (i + 1) * 7 + j - 7 = i * 7 + j by omega]
    exact this
/-- Cards of the call's own read as cards. -/
theorem cards_own {w : World} {B : Nat} {e t : TypeId} {v : Value} {l : List (Cd × Value)} (h : w.ownsRow B t 7 v l.length (ccells l)) (hf : FamS w B e (l.map fun r => (r.2, r.1.comp))) (hm : l.length ≤ maxLen) (hml : ∀ r ∈ l, r.1.comp.length ≤ maxLen) : CardsAt w v (l.map (·.1)) := by
  have h' := h
  rcases h.2 with ⟨rfl, h0⟩ | ⟨g, cap, cur, rfl, hx⟩
  · exact ⟨none, 0, by simp [h0], by simp [h0], fun _ => ⟨by rw [List.length_eq_zero_iff.1 h0]; rfl, rfl⟩, fun i hi => by simp at hi; omega⟩
  · refine ⟨some ⟨g, 0, none⟩, cap, by simp, by simpa using ⟨hm, hx.2.2.1⟩, (fun h => by cases h), fun i hi => ?_⟩
    have hi' : i < l.length := by simpa using hi
    refine ⟨g, 0, l[i].2, rfl, fun j u hj => ?_, ?_⟩
    · rw [Nat.zero_add]
      simp only [List.getElem_map] at hj
      have hj7 : j < 7 := by
        have := (List.getElem?_eq_some_iff.1 hj).1
        simpa [Cd.cells] using this
      rw [h'.cellAt _ (by omega)]
      exact ccells_at l i hi' j u hj
    · simp only [List.getElem_map]
      exact strs_own (hf.1 _ (List.mem_map.2 ⟨l[i], List.getElem_mem hi', rfl⟩)).1 (hml _ (List.getElem_mem hi'))
end Go.Proofs.Ytnkababhgloclaa
