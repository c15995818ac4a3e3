/- ProbeReverse, plain: what was put in, kept, called. -/
import Derived.Test.YtnajbogmhhlpcaaBackB
namespace Go.Proofs.Ytnajbogmhhlpcaa
open Go.RowKit Go.ChangeShapes
/-- The numbers of the things of a list. -/
def idsT (L : List Th) : List Int := (L.filter fun t => t.fn.isSome).map (·.id)
theorem idsT_append (L M : List Th) : idsT (L ++ M) = idsT L ++ idsT M := by simp [idsT]
theorem idsT_reverse (L : List Th) : idsT L.reverse = (idsT L).reverse := by simp [idsT, List.filter_reverse]
theorem idsT_mem {L : List Th} {x : Int} : x ∈ idsT L ↔ ∃ t ∈ L, t.fn.isSome = true ∧ t.id = x := by
  simp only [idsT, List.mem_map, List.mem_filter]
  constructor
  · rintro ⟨t, ⟨h1, h2⟩, h3⟩
    exact ⟨t, h1, h2, h3⟩
  · rintro ⟨t, h1, h2, h3⟩
    exact ⟨t, ⟨h1, h2⟩, h3⟩
theorem idsT_some {t : Th} {L : List Th} (h : t.fn.isSome = true) : idsT (t :: L) = t.id :: idsT L := by simp [idsT, h]
theorem idsT_none {t : Th} {L : List Th} (h : t.fn = none) : idsT (t :: L) = idsT L := by simp [idsT, h]
/-- The numbers of a list rise. -/
def Rises (L : List Th) : Prop := L.Pairwise fun a b => a.id < b.id
theorem Rises.ids {L : List Th} (h : Rises L) : (idsT L).Pairwise (· < ·) := by
  unfold idsT
  rw [List.pairwise_map]
  exact h.sublist List.filter_sublist
theorem rises_count {l : List Int} (h : l.Pairwise (· < ·)) (x : Int) : l.count x = if x ∈ l then 1 else 0 := by
  induction l with
  | nil => simp
  | cons a l ih =>
    rw [List.pairwise_cons] at h
    rw [List.count_cons, ih h.2]
    by_cases e : a = x
    · subst e
      have : a ∉ l := fun hm => by have := h.1 a hm; omega
      simp [this]
    · have e' : ¬ x = a := fun he => e he.symm
      simp [e, e']
structure Law (L : List Th) (A K al : List Int) (last : Int) : Prop where
  up : Rises L
  le : ∀ t ∈ L, t.id ≤ last
  aL : ∀ x ∈ A, x ≤ last
  kL : ∀ x ∈ K, x ≤ last
  lL : ∀ x ∈ al, x ≤ last
  law : ∀ x ∈ al, (x ∈ K ∧ A.count x = 0 ∧ x ∉ idsT L) ∨ (x ∉ K ∧ A.count x = 1 ∧ x ∉ idsT L) ∨ (x ∉ K ∧ A.count x = 0 ∧ x ∈ idsT L)
theorem Law.nil : Law [] [] [] [] 0 := ⟨List.Pairwise.nil, by simp, by simp, by simp, by simp, by simp⟩
theorem rises_snoc {L : List Th} {last : Int} (h : Rises L) (hl : ∀ t ∈ L, t.id ≤ last) (t : Th) (ht : t.id = last + 1) : Rises (L ++ [t]) := by
  unfold Rises
  rw [List.pairwise_append]
  refine ⟨h, List.pairwise_singleton _ _, fun a ha b hb => ?_⟩
  rw [List.mem_singleton] at hb
  subst hb
  have := hl a ha
  omega
theorem Law.mark {L : List Th} {A K al : List Int} {last : Int} (h : Law L A K al last) (nm : ByteArray) : Law (L ++ [⟨last + 1, nm, none⟩]) A K al (last + 1) := by
  refine ⟨rises_snoc h.up h.le _ rfl, fun t ht => ?_, fun x hx => ?_, fun x hx => ?_, fun x hx => ?_, fun x hx => ?_⟩
  · rcases List.mem_append.1 ht with ht | ht
    · have := h.le t ht; omega
    · rw [List.mem_singleton] at ht; subst ht; simp only; omega
  · have := h.aL x hx; omega
  · have := h.kL x hx; omega
  · have := h.lL x hx; omega
  · have e : idsT (L ++ [⟨last + 1, nm, none⟩]) = idsT L := by simp [idsT]
    rw [e]
    exact h.law x hx
theorem Law.add {L : List Th} {A K al : List Int} {last : Int} (h : Law L A K al last) (nm : ByteArray) (k : Nat) (c : Array Value) : Law (L ++ [⟨last + 1, nm, some (k, c)⟩]) A K (al ++ [last + 1]) (last + 1) := by
  refine ⟨rises_snoc h.up h.le _ rfl, fun t ht => ?_, fun x hx => ?_, fun x hx => ?_, fun x hx => ?_, fun x hx => ?_⟩
  · rcases List.mem_append.1 ht with ht | ht
    · have := h.le t ht; omega
    · rw [List.mem_singleton] at ht; subst ht; simp only; omega
  · have := h.aL x hx; omega
  · have := h.kL x hx; omega
  · rcases List.mem_append.1 hx with hx | hx
    · have := h.lL x hx; omega
    · rw [List.mem_singleton] at hx; omega
  · have e : idsT (L ++ [⟨last + 1, nm, some (k, c)⟩]) = idsT L ++ [last + 1] := by simp [idsT]
    rw [e]
    rcases List.mem_append.1 hx with hx | hx
    · have hne : x ≠ last + 1 := by have := h.lL x hx; omega
      rcases h.law x hx with ⟨h1, h2, h3⟩ | ⟨h1, h2, h3⟩ | ⟨h1, h2, h3⟩
      · exact .inl ⟨h1, h2, by simp [h3, hne]⟩
      · exact .inr (.inl ⟨h1, h2, by simp [h3, hne]⟩)
      · exact .inr (.inr ⟨h1, h2, by simp [h3]⟩)
    · rw [List.mem_singleton] at hx
      subst hx
      refine .inr (.inr ⟨fun hk => by have := h.kL _ hk; omega, List.count_eq_zero.2 (fun ha => by have := h.aL _ ha; omega), by simp⟩)
/-- A part of the list is taken out and called, the last one first. -/
theorem Law.call {L1 M L2 : List Th} {A K al : List Int} {last : Int} (h : Law (L1 ++ M ++ L2) A K al last) : Law (L1 ++ L2) (A ++ idsT M.reverse) K al last := by
  have hsub : (L1 ++ L2).Sublist (L1 ++ M ++ L2) := by
    rw [List.append_assoc]
    exact List.Sublist.append (List.Sublist.refl _) (List.sublist_append_right _ _)
  have hinc := h.up.ids
  refine ⟨h.up.sublist hsub, fun t ht => h.le t (hsub.subset ht), fun x hx => ?_, h.kL, h.lL, fun x hx => ?_⟩
  · rcases List.mem_append.1 hx with hx | hx
    · exact h.aL x hx
    · rw [idsT_reverse, List.mem_reverse] at hx
      obtain ⟨t, h1, _, h3⟩ := idsT_mem.1 hx
      have := h.le t (by simp [h1])
      omega
  · have e : idsT (L1 ++ M ++ L2) = idsT L1 ++ idsT M ++ idsT L2 := by rw [idsT_append, idsT_append]
    have e2 : idsT (L1 ++ L2) = idsT L1 ++ idsT L2 := idsT_append _ _
    have hc : (A ++ idsT M.reverse).count x = A.count x + (if x ∈ idsT M then 1 else 0) := by
      rw [List.count_append, idsT_reverse, List.count_reverse]
      have hm : (idsT M).Pairwise (· < ·) := by
        rw [e] at hinc
        exact (List.pairwise_append.1 (List.pairwise_append.1 hinc).1).2.1
      rw [rises_count hm]
    rw [hc, e2]
    rw [e] at hinc
    rcases h.law x hx with ⟨h1, h2, h3⟩ | ⟨h1, h2, h3⟩ | ⟨h1, h2, h3⟩
    · rw [e] at h3
      simp only [List.mem_append, not_or] at h3
      exact .inl ⟨h1, by simp [h2, h3], by simp [h3]⟩
    · rw [e] at h3
      simp only [List.mem_append, not_or] at h3
      exact .inr (.inl ⟨h1, by simp [h2, h3], by simp [h3]⟩)
    · rw [e] at h3
      by_cases hm : x ∈ idsT M
      · refine .inr (.inl ⟨h1, by simp [h2, hm], ?_⟩)
        rw [List.pairwise_append, List.pairwise_append] at hinc
        obtain ⟨⟨_, _, p1⟩, _, p2⟩ := hinc
        simp only [List.mem_append, not_or]
        exact ⟨fun hx1 => by have := p1 x hx1 x hm; omega, fun hx2 => by have := p2 x (List.mem_append_right _ hm) x hx2; omega⟩
      · refine .inr (.inr ⟨h1, by simp [h2, hm], ?_⟩)
        simp only [List.mem_append] at h3 ⊢
        rcases h3 with (h3 | h3) | h3
        · exact .inl h3
        · exact absurd h3 hm
        · exact .inr h3
/-- A thing is kept. -/
theorem Law.keep {L1 L2 : List Th} {t : Th} {A K al : List Int} {last : Int} (h : Law (L1 ++ [t] ++ L2) A K al last) (hf : t.fn.isSome = true) : Law (L1 ++ L2) A (t.id :: K) al last := by
  have hsub : (L1 ++ L2).Sublist (L1 ++ [t] ++ L2) := by
    rw [List.append_assoc]
    exact List.Sublist.append (List.Sublist.refl _) (List.sublist_append_right _ _)
  have hinc := h.up.ids
  refine ⟨h.up.sublist hsub, fun t ht => h.le t (hsub.subset ht), h.aL, fun x hx => ?_, h.lL, fun x hx => ?_⟩
  · rcases List.mem_cons.1 hx with rfl | hx
    · exact h.le t (by simp)
    · exact h.kL x hx
  · have e : idsT (L1 ++ [t] ++ L2) = idsT L1 ++ [t.id] ++ idsT L2 := by rw [idsT_append, idsT_append, idsT_some hf]; rfl
    have e2 : idsT (L1 ++ L2) = idsT L1 ++ idsT L2 := idsT_append _ _
    rw [e2]
    rw [e] at hinc
    rcases h.law x hx with ⟨h1, h2, h3⟩ | ⟨h1, h2, h3⟩ | ⟨h1, h2, h3⟩
    · rw [e] at h3
      simp only [List.mem_append, not_or] at h3
      exact .inl ⟨List.mem_cons_of_mem _ h1, h2, by simp [h3]⟩
    · rw [e] at h3
      simp only [List.mem_append, List.mem_singleton, not_or] at h3
      exact .inr (.inl ⟨by simp [h1, h3], h2, by simp [h3]⟩)
    · rw [e] at h3
      by_cases hm : x = t.id
      · subst hm
        refine .inl ⟨List.mem_cons_self, h2, ?_⟩
        rw [List.pairwise_append, List.pairwise_append] at hinc
        obtain ⟨⟨_, _, p1⟩, _, p2⟩ := hinc
        simp only [List.mem_append, not_or]
        exact ⟨fun hx1 => by have := p1 _ hx1 t.id (by simp); omega, fun hx2 => by have := p2 t.id (by simp) _ hx2; omega⟩
      · refine .inr (.inr ⟨by simp [h1, hm], h2, ?_⟩)
        simp only [List.mem_append, List.mem_singleton] at h3 ⊢
        rcases h3 with (h3 | h3) | h3
        · exact .inl h3
        · exact absurd h3 hm
        · exact .inr h3
/-- What is called in one go falls. -/
theorem Law.falls {L1 M L2 : List Th} {A K al : List Int} {last : Int} (h : Law (L1 ++ M ++ L2) A K al last) : (idsT M.reverse).Pairwise (· > ·) := by
  have hinc := h.up.ids
  rw [idsT_append, idsT_append] at hinc
  rw [idsT_reverse, List.pairwise_reverse]
  exact (List.pairwise_append.1 (List.pairwise_append.1 hinc).1).2.1
theorem Law.last {A K al : List Int} {last : Int} (h : Law [] A K al last) : ∀ x ∈ al, (x ∈ K ∧ A.count x = 0) ∨ (x ∉ K ∧ A.count x = 1) := fun x hx => by
  rcases h.law x hx with ⟨h1, h2, h3⟩ | ⟨h1, h2, h3⟩ | ⟨h1, h2, h3⟩
  · exact .inl ⟨h1, h2⟩
  · exact .inr ⟨h1, h2⟩
  · simp [idsT] at h3
theorem runB_ids {bhF : List Int → Th → List Th → Beh} (L0 : List Th) : ∀ (M : List Th) (s : List Int), (runB bhF (fun s t _ => s ++ [t.id]) L0 M s).1 = s ++ idsT M
  | [], s => by simp [runB, idsT]
  | t :: M, s => by
    cases hf : t.fn with
    | none =>
      rw [idsT_none hf, ← runB_ids (bhF := bhF) L0 M s]
      simp [runB, hf]
    | some f =>
      rw [idsT_some (by rw [hf]; rfl)]
      have := runB_ids (bhF := bhF) L0 M (s ++ [t.id])
      simp [runB, hf, this]
end Go.Proofs.Ytnajbogmhhlpcaa
