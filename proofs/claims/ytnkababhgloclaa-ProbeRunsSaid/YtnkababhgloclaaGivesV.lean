/- ProbeGives, plain: the fates made small; which step is the first bad one; what is given back, what sticks, in turn. -/
import Derived.Test.YtnkababhgloclaaGiveD
import Derived.Test.YtnkababhgloclaaProbeB
namespace Go.Proofs.Ytnkababhgloclaa
open Go.RowKit Go.ChangeShapes
def modF (f : Ft) : Ft := ⟨f.step, f.how % 3, f.back % 3⟩
/-- The fates, the first k of them made small; the k-th under way. -/
def halfM (fs : List Ft) (k : Nat) : List Ft := (fs.take k).map modF ++ fs.drop k
theorem halfM_len (fs : List Ft) (k : Nat) : (halfM fs k).length = fs.length := by
  unfold halfM
  rw [List.length_append, List.length_map, List.length_take, List.length_drop]
  omega
theorem halfM_zero (fs : List Ft) : halfM fs 0 = fs := by simp [halfM]
theorem halfM_all (fs : List Ft) : halfM fs fs.length = fs.map modF := by simp [halfM]
theorem halfM_at {fs : List Ft} {k : Nat} (h : k < fs.length) : (halfM fs k)[k]'(by rw [halfM_len]; exact h) = fs[k] := by
  unfold halfM
  rw [List.getElem_append_right (by rw [List.length_map, List.length_take]; omega)]
  simp only [List.length_map, List.length_take, Nat.min_eq_left (Nat.le_of_lt h), Nat.sub_self]
  rw [List.getElem_drop]
  simp
theorem fcs_set : ∀ (l : List Ft) (k : Nat) (h : k < l.length) (a b c : Value) (f : Ft), f.cells = [a, b, c] → (l[k]).cells[0]? = some a → (((fcs l).set (k * 3 + 1) b).set (k * 3 + 2) c) = fcs (l.set k f)
  | [], k, h, _, _, _, _, _, _ => by simp at h
  | t :: l, 0, _, a, b, c, f, hf, h0 => by
    simp only [Ft.cells, List.cons.injEq, and_true] at hf
    obtain ⟨e1, e2, e3⟩ := hf
    simp only [List.getElem_cons_zero, Ft.cells, List.getElem?_cons_zero, Option.some.injEq] at h0
    simp only [fcs, Ft.cells, List.set_cons_zero, Nat.zero_mul, Nat.zero_add, List.cons_append, List.nil_append, List.set_cons_succ]
    rw [h0, e1, e2, e3]
  | t :: l, k + 1, h, a, b, c, f, hf, h0 => by
    have h' : k < l.length := by simpa using h
    have ih := fcs_set l k h' a b c f hf (by simpa using h0)
    have e1 : (k + 1) * 3 + 1 = 3 + (k * 3 + 1) := by omega
    have e2 : (k + 1) * 3 + 2 = 3 + (k * 3 + 2) := by omega
    have hs : ∀ (j : Nat) (x : Value) (m : List Value), ((t.cells ++ m).set (3 + j) x) = t.cells ++ m.set j x := fun j x m => by
      rw [List.set_append_right _ _ (by simp [Ft.cells])]
      simp [Ft.cells]
    rw [e1, e2, List.set_cons_succ]
    simp only [fcs, hs]
    rw [ih]
theorem halfM_next {fs : List Ft} {k : Nat} (h : k < fs.length) : (halfM fs k).set k (modF fs[k]) = halfM fs (k + 1) := by
  have h1 : ((fs.take k).map modF).length = k := by rw [List.length_map, List.length_take]; omega
  unfold halfM
  rw [List.set_append_right _ _ (by rw [h1]; exact Nat.le_refl _), h1, Nat.sub_self, List.take_succ_eq_append_getElem h, List.map_append, List.append_assoc, List.drop_eq_getElem_cons h]
  rfl
theorem modF_ok {f : Ft} (h : f.ok) : (modF f).ok ∧ badT (modF f) = false := by
  unfold Ft.ok at h
  have h1 : 0 ≤ f.how % 3 ∧ f.how % 3 < 3 := by omega
  have h2 : 0 ≤ f.back % 3 ∧ f.back % 3 < 3 := by omega
  refine ⟨?_, ?_⟩
  · unfold Ft.ok modF
    simp only
    omega
  · unfold badT modF
    simp only [Bool.or_eq_false_iff, decide_eq_false_iff_not]
    omega
theorem mods_ok {fs : List Ft} (h : ∀ f ∈ fs, f.ok) : (fs.map modF).any badT = false ∧ ∀ f ∈ fs.map modF, f.ok := by
  refine ⟨?_, fun f hf => ?_⟩
  · rw [List.any_eq_false]
    intro f hf
    obtain ⟨g, hg, rfl⟩ := List.mem_map.1 hf
    rw [(modF_ok (h g hg)).2]
    simp
  · obtain ⟨g, hg, rfl⟩ := List.mem_map.1 hf
    exact (modF_ok (h g hg)).1
/-- The first step from k + 1 on whose first fate is a bad one; -1: there is none. -/
def BadAt (fs : List Ft) (n : Nat) (k b : Int) : Prop := (b = -1 ∧ ∀ j : Nat, k < j → j < n → (ofT fs j).how = 0) ∨ ∃ m : Nat, b = m ∧ k < m ∧ m < n ∧ (ofT fs m).how ≠ 0 ∧ ∀ j : Nat, k < j → j < m → (ofT fs j).how = 0
theorem BadAt.none {fs : List Ft} {n : Nat} {k b : Int} (h : BadAt fs n (k + 1) b) (hk : ∀ j : Nat, (j : Int) = k + 1 → (ofT fs j).how = 0) : BadAt fs n k b := by
  rcases h with ⟨rfl, h⟩ | ⟨m, rfl, h1, h2, h3, h4⟩
  · refine .inl ⟨rfl, fun j hj hn => ?_⟩
    by_cases e : (j : Int) = k + 1
    · exact hk j e
    · exact h j (by omega) hn
  · refine .inr ⟨m, rfl, by omega, h2, h3, fun j hj hn => ?_⟩
    by_cases e : (j : Int) = k + 1
    · exact hk j e
    · exact h4 j (by omega) hn
theorem BadAt.hit {fs : List Ft} {n : Nat} {k : Nat} (hn : k < n) (hk : (ofT fs k).how ≠ 0) : BadAt fs n ((k : Int) - 1) k :=
  .inr ⟨k, rfl, by omega, hn, hk, fun j hj hm => by omega⟩
theorem BadAt.far {fs : List Ft} {n m : Nat} {g : Bool} {at_ how b : Int} (h : BadAt fs n (-1) b) (hf : Far fs n m g at_ how) : b = at_ := by
  cases g with
  | true =>
    obtain ⟨rfl, e, _⟩ := hf.yes rfl
    rcases h with ⟨rfl, _⟩ | ⟨k, rfl, h1, h2, h3, h4⟩
    · exact e.symm
    · exact absurd (hf.fine k h2) h3
  | false =>
    obtain ⟨e1, e2, e3, e4⟩ := hf.no rfl
    rw [e3] at e4
    rcases h with ⟨rfl, h⟩ | ⟨k, rfl, h1, h2, h3, h4⟩
    · exact absurd (h m (by omega) e1) e4
    · rw [e2]
      by_cases e : k < m
      · exact absurd (hf.fine k e) h3
      · by_cases e' : m < k
        · exact absurd (h4 m (by omega) e') e4
        · omega
theorem of_hit {fs : List Ft} {k : Int} {i : Nat} (hi : i < fs.length) (h : fs[i].step = k) (hb : ∀ j (hj : j < i), (fs[j]'(by omega)).step ≠ k) : ofT fs k = fs[i] := by
  have hp := posF_some (P := isT k) hi (by simp [isT, h]) (fun j hj => by simp [isT, hb j hj])
  exact (posF_of.2 i hp).2
theorem of_none {fs : List Ft} {k : Int} (hb : ∀ j (hj : j < fs.length), fs[j].step ≠ k) : ofT fs k = ⟨0, 0, 0⟩ :=
  posF_of.1 (posF_none (fun j hj => by simp [isT, hb j hj]))
theorem namesR_append (st : Bool) (l m : List Rs) : namesR st (l ++ m) = namesR st l ++ namesR st m := by simp [namesR]
theorem gs_hit {st : Bool} {R : List Rs} {i : Nat} (h : i < R.length) (hs : stuckR R[i] = st) : (namesR st R)[(namesR st (R.take i)).length]? = some R[i].name := by
  have e : namesR st R = namesR st (R.take i) ++ namesR st (R.drop i) := by rw [← namesR_append, List.take_append_drop]
  have e2 : namesR st (R.drop i) = R[i].name :: namesR st (R.drop (i + 1)) := by
    rw [List.drop_eq_getElem_cons h]
    unfold namesR
    rw [List.filter_cons, if_pos (by simp [hs])]
    rfl
  rw [e, List.getElem?_append_right (Nat.le_refl _), Nat.sub_self, e2]
  rfl
theorem gs_miss {st : Bool} {R : List Rs} {i : Nat} (h : i < R.length) (hs : stuckR R[i] ≠ st) (hnd : (R.map (·.name)).Nodup) : ∀ x, (namesR st R)[(namesR st (R.take i)).length]? = some x → x ≠ R[i].name := by
  intro x hx
  have e : namesR st R = namesR st (R.take i) ++ namesR st (R.drop i) := by rw [← namesR_append, List.take_append_drop]
  rw [e, List.getElem?_append_right (Nat.le_refl _), Nat.sub_self, List.drop_eq_getElem_cons h] at hx
  have e2 : namesR st (R[i] :: R.drop (i + 1)) = namesR st (R.drop (i + 1)) := by
    unfold namesR
    rw [List.filter_cons, if_neg (by simpa using hs)]
  rw [e2] at hx
  have hm : x ∈ namesR st (R.drop (i + 1)) := List.mem_of_getElem? hx
  unfold namesR at hm
  obtain ⟨r, hr, rfl⟩ := List.mem_map.1 hm
  have hr' := (List.mem_filter.1 hr).1
  intro he
  have h2 : R.map (·.name) = (R.take i).map (·.name) ++ R[i].name :: (R.drop (i + 1)).map (·.name) := by
    conv => lhs; rw [← List.take_append_drop i R, List.map_append, List.drop_eq_getElem_cons h]
    rfl
  rw [h2] at hnd
  have h3 := (List.nodup_append.1 hnd).2.1
  rw [List.nodup_cons] at h3
  exact h3.1 (by rw [← he]; exact List.mem_map.2 ⟨r, hr', rfl⟩)
theorem resT_names (fs : List Ft) : ∀ (i : Nat) (ns : List ByteArray), (resT fs i ns).map (·.name) = ns
  | _, [] => rfl
  | i, n :: ns => by simp [resT, resT_names fs (i + 1) ns]
theorem steps_nodup (f : ByteArray) : (stepsRun.stepsF f).Nodup := by
  unfold stepsRun.stepsF
  split
  · decide
  split
  · decide
  split
  · decide
  split
  · decide
  split
  · decide
  · decide
theorem namesR_two (R : List Rs) : (namesR false R).length + (namesR true R).length = R.length := by
  induction R with
  | nil => rfl
  | cons r R ih =>
    have e1 : ∀ st, (namesR st (r :: R)).length = (if stuckR r = st then 1 else 0) + (namesR st R).length := fun st => by
      unfold namesR
      rw [List.filter_cons]
      by_cases e : stuckR r = st
      · simp [e]; omega
      · simp [e]
    rw [e1, e1, List.length_cons]
    cases stuckR r
    · simp
      omega
    · simp
      omega
end Go.Proofs.Ytnkababhgloclaa
