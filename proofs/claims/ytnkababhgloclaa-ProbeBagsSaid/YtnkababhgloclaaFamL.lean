/- Copies of rows of numbers where the order is drawn; rows of the call's own, many at once, and tables made of them. -/
import Derived.Test.YtnkababhgloclaaTabsL
import Derived.Maps.AppendAt
import Derived.Laws.AppendOwnNone
import Derived.Deep.AppendLies
import Derived.OwnWalk
import Derived.Handy
import Derived.Lib.Hide
namespace Go.Proofs.Ytnkababhgloclaa
open Go.RowKit Go.ChangeShapes
def rc (zs : List Int) : List Value := zs.map (Value.int .i64)
theorem rc_len (zs : List Int) : (rc zs).length = zs.length := by simp [rc]
theorem rc_set (zs : List Int) (k : Nat) (x : Int) : (rc zs).set k (.int .i64 x) = rc (zs.set k x) := by simp [rc, List.map_set]
theorem rc_one (zs : List Int) : ∀ u ∈ rc zs, u.oneCell' = true := by
  intro u hu
  obtain ⟨z, _, rfl⟩ := List.mem_map.1 hu
  rfl
theorem rc_at {w : World} {B t g n c : Nat} {zs : List Int} (h : w.ownsRow B t 1 (.slice (some ⟨g, 0, none⟩) n c) n (rc zs)) (hl : zs.length = n) (k : Nat) (hk : k < n) : w.cell? ⟨g, k, none⟩ = some (.int .i64 (nth zs k)) := by
  rw [h.cellAt k (by omega)]
  simp [rc, nth_eq (show k < zs.length by omega), show k < zs.length by omega]
theorem ints_own {w : World} {B t : Nat} {v : Value} {zs : List Int} (h : w.ownsRow B t 1 v zs.length (rc zs)) (hm : zs.length ≤ maxLen) : Ints .i64 w v zs := by
  have h' := h
  rcases h.2 with ⟨rfl, h0⟩ | ⟨g, cap, cur, rfl, _⟩
  · exact ⟨none, 0, by rw [h0], hm, fun _ => ⟨List.length_eq_zero_iff.1 h0, rfl⟩, fun i hi => by omega⟩
  · exact ⟨some ⟨g, 0, none⟩, cap, rfl, hm, (fun h => by cases h), fun i hi => ⟨g, 0, rfl, by simpa using rc_at h' rfl i hi⟩⟩
theorem wp_copy {P : Program} {w : World} {o : Oper} {a : Act} {K : Act → World → Prop} {Q : Exit → Act → World → Prop} (s x : Operand) (t : TypeId)
    (ho : o.op = .call { callee := .builtin .append, args := #[s, x], argTypes := #[t, t] })
    (base : Nat) (e : TypeId) (i : TypeInfo) (ht : P.underlying t = some (.slice e)) (hi : P.info? e = some i) (hz : i.zero = some (.int .i64 0)) (hsize : i.size = 1) (hby : i.bytes = 8)
    (g0 c0 : Nat) (hs : a.eval s = .slice (some ⟨g0, 0, none⟩) 0 c0) (hown : w.ownsRow base e 1 (.slice (some ⟨g0, 0, none⟩) 0 c0) 0 (rc [])) (v : Value) (zs : List Int) (hx : a.eval x = v) (hv : Ints .i64 w v zs) (hlen : zs.length ≤ 17592186044416) (hbase : base ≤ w.heap.size) (H : Nat) (hH : w.heap.size = H)
    (h : ∀ g cap w', w'.ownsRow base e 1 (.slice (some ⟨g, 0, none⟩) zs.length cap) zs.length (rc zs) → w.grownBy w' (some g0) → (g = g0 ∨ g = H) → g < w'.heap.size → K (a.put o.dst (.slice (some ⟨g, 0, none⟩) zs.length cap)) w') :
    Oper.wp P o a w K Q := by
  obtain ⟨ad, cap, rfl, hm, hnil, hc⟩ := hv
  unfold Oper.wp execOp
  cases ad with
  | none =>
    obtain ⟨rfl, rfl⟩ := hnil rfl
    have hrun := run_append_owned_none (P := P) (w := w) base t o.type e i 1 ht hi _ 0 (rc []) hown
    simp only [List.length_nil] at hx
    simp only [ho, resolve, invoke, builtin, Sem.run_bind, Sem.run_pure, Result.andThen_ok, List.map_toArray, List.map_cons, List.map_nil, hs, hx, hrun]
    exact h g0 c0 w hown (World.grownBy.refl w _) (.inl rfl) (hown.lt g0 rfl).2
  | some ad =>
    obtain ⟨v', w', hr, h2, h3, h4, h5⟩ := run_append_own_at (P := P) w base t o.type e i (.int .i64 0) 1 8 ht hi hz hsize hby rfl (by decide) _ 0 (rc []) hown ad zs.length cap (rc zs) (by rw [rc_len, Nat.mul_one]) (fun j u hj => by
      have hjl : j < zs.length := by
        have := (List.getElem?_eq_some_iff.1 hj).1
        rwa [rc_len] at this
      obtain ⟨b, off, hp, hcell⟩ := hc j hjl
      obtain rfl := Option.some.inj hp
      rw [addr_add, hcell]
      simp [rc, hjl, nth_eq hjl] at hj ⊢
      exact hj) (rc_one zs) (by unfold maxLen at *; omega) (by omega) hbase
    simp only [ho, resolve, invoke, builtin, Sem.run_bind, Sem.run_pure, Result.andThen_ok, List.map_toArray, List.map_cons, List.map_nil, hs, hx, hr]
    simp only [Nat.zero_add, show rc [] ++ rc zs = rc zs by simp [rc]] at h2
    have h2' := h2
    rcases h2.2 with ⟨rfl, _⟩ | ⟨g, cap', cur, rfl, _⟩
    · obtain ⟨h, _⟩ := h4.1 rfl
      cases h
    · refine h g cap' w' h2' h3 ?_ (h2'.lt g rfl).2
      rcases h5 with h5 | h5
      · exact .inl (by simpa [Value.ownBlock] using h5)
      · exact .inr (by rw [← hH]; simpa [Value.ownBlock] using h5)
theorem step_copy {P : Program} {w : World} {ops : Array Oper} {o : Oper} {a : Act} {K : Act → World → Prop} {Q : Exit → Act → World → Prop} {E : Prop} (hgd : o.guard = none) (s x : Operand) (t : TypeId)
    (ho : o.op = .call { callee := .builtin .append, args := #[s, x], argTypes := #[t, t] })
    (base : Nat) (e : TypeId) (i : TypeInfo) (ht : P.underlying t = some (.slice e)) (hi : P.info? e = some i) (hz : i.zero = some (.int .i64 0)) (hsize : i.size = 1) (hby : i.bytes = 8)
    (g0 c0 : Nat) (hs : a.eval s = .slice (some ⟨g0, 0, none⟩) 0 c0) (hown : w.ownsRow base e 1 (.slice (some ⟨g0, 0, none⟩) 0 c0) 0 (rc [])) (v : Value) (zs : List Int) (hx : a.eval x = v) (hv : Ints .i64 w v zs) (hlen : zs.length ≤ 17592186044416) (hbase : base ≤ w.heap.size) (H : Nat) (hH : w.heap.size = H)
    (h : ∀ g cap w', w'.ownsRow base e 1 (.slice (some ⟨g, 0, none⟩) zs.length cap) zs.length (rc zs) → w.grownBy w' (some g0) → (g = g0 ∨ g = H) → g < w'.heap.size → K (a.put o.dst (.slice (some ⟨g, 0, none⟩) zs.length cap)) w') :
    if Region.wanted o (yielded ops a.tmps) = true then Oper.wp P o a w K Q else E := by
  have hw : Region.wanted o (yielded ops a.tmps) = true := by simp [Region.wanted, hgd]
  rw [if_pos hw]
  exact wp_copy s x t ho base e i ht hi hz hsize hby g0 c0 hs hown v zs hx hv hlen hbase H hH h
theorem wpList_copy {P : Program} {w : World} {ops : Array Oper} {o : Oper} {a : Act} {rest : List Oper} {Q : Exit → Act → World → Prop} (hgd : o.guard = none) (s x : Operand) (t : TypeId)
    (ho : o.op = .call { callee := .builtin .append, args := #[s, x], argTypes := #[t, t] })
    (base : Nat) (e : TypeId) (i : TypeInfo) (ht : P.underlying t = some (.slice e)) (hi : P.info? e = some i) (hz : i.zero = some (.int .i64 0)) (hsize : i.size = 1) (hby : i.bytes = 8)
    (g0 c0 : Nat) (hs : a.eval s = .slice (some ⟨g0, 0, none⟩) 0 c0) (hown : w.ownsRow base e 1 (.slice (some ⟨g0, 0, none⟩) 0 c0) 0 (rc [])) (v : Value) (zs : List Int) (hx : a.eval x = v) (hv : Ints .i64 w v zs) (hlen : zs.length ≤ 17592186044416) (hbase : base ≤ w.heap.size) (H : Nat) (hH : w.heap.size = H)
    (h : ∀ g cap w', w'.ownsRow base e 1 (.slice (some ⟨g, 0, none⟩) zs.length cap) zs.length (rc zs) → w.grownBy w' (some g0) → (g = g0 ∨ g = H) → g < w'.heap.size → wpList P ops Q rest (a.put o.dst (.slice (some ⟨g, 0, none⟩) zs.length cap)) w') :
    wpList P ops Q (o :: rest) a w :=
  wpList_plain hgd fun _ hK => wp_copy s x t ho base e i ht hi hz hsize hby g0 c0 hs hown v zs hx hv hlen hbase H hH fun g cap w' h1 h2 h3 h4 => hK _ _ (h g cap w' h1 h2 h3 h4)
/-- Rows of numbers, each of its own, none nil, no two in one block. -/
def Fam (w : World) (B : Nat) (e : TypeId) (fs : List (Value × List Int)) : Prop :=
  (∀ f ∈ fs, w.ownsRow B e 1 f.1 f.2.length (rc f.2) ∧ f.1.ownBlock ≠ none) ∧ (fs.map fun f => f.1.ownBlock).Nodup
theorem Fam.nil (w : World) (B : Nat) (e : TypeId) : Fam w B e [] := ⟨fun f h => (nomatch h), List.nodup_nil⟩
theorem Fam.to {w w' : World} {B : Nat} {e : TypeId} {fs : List (Value × List Int)} (h : Fam w B e fs) (hk : ∀ (v : Value) (n : Nat) (xs : List Value), v.ownBlock ≠ none → w.ownsRow B e 1 v n xs → w'.ownsRow B e 1 v n xs) : Fam w' B e fs :=
  ⟨fun f hf => ⟨hk _ _ _ (h.1 f hf).2 (h.1 f hf).1, (h.1 f hf).2⟩, h.2⟩
theorem Fam.add {w : World} {B : Nat} {e : TypeId} {fs : List (Value × List Int)} {v : Value} {zs : List Int} (h : Fam w B e fs) (ho : w.ownsRow B e 1 v zs.length (rc zs)) (hn : v.ownBlock ≠ none) (hd : ∀ f ∈ fs, f.1.ownBlock ≠ v.ownBlock) : Fam w B e (fs ++ [(v, zs)]) := by
  refine ⟨fun f hf => ?_, ?_⟩
  · rcases List.mem_append.1 hf with hf | hf
    · exact h.1 f hf
    · obtain rfl := List.mem_singleton.1 hf
      exact ⟨ho, hn⟩
  · rw [List.map_append, List.nodup_append]
    refine ⟨h.2, by simp, fun a ha b hb => ?_⟩
    obtain ⟨f, hf, rfl⟩ := List.mem_map.1 ha
    simp at hb
    subst hb
    exact hd f hf
/-- The tables' cells: a factor and a slice each. -/
def tcells : List (Int × Value × List Int) → List Value
  | [] => []
  | r :: l => .int .i64 r.1 :: r.2.1 :: tcells l
theorem tcells_len : ∀ l, (tcells l).length = l.length * 2
  | [] => rfl
  | r :: l => by simp [tcells, tcells_len l]; omega
theorem tcells_append : ∀ (l m : List (Int × Value × List Int)), tcells (l ++ m) = tcells l ++ tcells m
  | [], m => rfl
  | r :: l, m => by simp [tcells, tcells_append l m]
theorem tcells_at : ∀ (l : List (Int × Value × List Int)) (i : Nat) (h : i < l.length), (tcells l)[i * 2]? = some (.int .i64 l[i].1) ∧ (tcells l)[i * 2 + 1]? = some l[i].2.1
  | [], i, h => by simp at h
  | r :: l, 0, _ => by simp [tcells]
  | r :: l, i + 1, h => by
    have := tcells_at l i (by simpa using h)
    simp only [show (i + 1) * 2 = i * 2 + 1 + 1 by omega, tcells, List.getElem?_cons_succ]
    simpa using this
/-- What the tables say. -/
def said (l : List (Int × Value × List Int)) : List (Int × List Int) := l.map fun r => (r.1, r.2.2)
theorem said_len (l : List (Int × Value × List Int)) : (said l).length = l.length := by simp [said]
theorem said_f {l : List (Int × Value × List Int)} {k : Nat} (h : k < l.length) : rF (said l) k = l[k].1 := by simp [rF, said, List.getD, h]
theorem said_o {l : List (Int × Value × List Int)} {k : Nat} (h : k < l.length) : rO (said l) k = l[k].2.2 := by simp [rO, said, List.getD, h]
/-- Tables of the call's own read as tables. -/
theorem tabs_own {w : World} {B : Nat} {e t : TypeId} {v : Value} {l : List (Int × Value × List Int)} (h : w.ownsRow B t 2 v l.length (tcells l)) (hf : Fam w B e (l.map (·.2))) (hm : l.length ≤ maxLen) (hml : ∀ r ∈ l, r.2.2.length ≤ maxLen) : Tabs w v (said l) := by
  have h' := h
  rcases h.2 with ⟨rfl, h0⟩ | ⟨g, cap, cur, rfl, _⟩
  · exact ⟨none, 0, by rw [said_len, h0], by rw [said_len]; exact hm, fun _ => ⟨by rw [List.length_eq_zero_iff.1 h0]; rfl, rfl⟩, fun i hi => by rw [said_len] at hi; omega⟩
  · refine ⟨some ⟨g, 0, none⟩, cap, by rw [said_len], by rw [said_len]; exact hm, (fun h => by cases h), fun i hi => ?_⟩
    rw [said_len] at hi
    obtain ⟨a0, a1⟩ := tcells_at l i hi
    refine ⟨g, 0, l[i].2.1, rfl, ?_, ?_, ?_⟩
    · rw [said_f hi, Nat.zero_add, ← a0]; exact h'.cellAt _ (by omega)
    · rw [Nat.zero_add, ← a1]; exact h'.cellAt _ (by omega)
    · rw [said_o hi]
      exact ints_own (hf.1 _ (List.mem_map.2 ⟨l[i], List.getElem_mem hi, rfl⟩)).1 (hml _ (List.getElem_mem hi))
end Go.Proofs.Ytnkababhgloclaa
