/- Lists of cards: named, the document's Check. -/
import Derived.Test.YtnkababhgloclaaRMayC
import Derived.Deep.RegionHeld3
import Derived.OwnWalk
namespace Go.Proofs.Ytnkababhgloclaa
open Go.RowKit Go.Lib Tx Nm
def namedB (cs : List Cd) (s : ByteArray) : Bool := cs.any fun c => decide (c.name = s)
def nthC (cs : List Cd) (i : Nat) : Cd := cs.getD i default
theorem nthC_eq {cs : List Cd} {i : Nat} (h : i < cs.length) : nthC cs i = cs[i] := by simp [nthC, List.getD, h]
theorem nthC_take {cs : List Cd} {n k : Nat} (h : k < n) : nthC (cs.take n) k = nthC cs k := by
  unfold nthC
  simp [List.getD_eq_getElem?_getD, List.getElem?_take, h]
theorem namedB_yes {cs : List Cd} {k : Nat} {x : ByteArray} (hk : k < cs.length) (h : (nthC cs k).name = x) : namedB cs x = true := by
  unfold namedB
  rw [List.any_eq_true]
  exact ⟨nthC cs k, by rw [nthC_eq hk]; exact List.getElem_mem _, decide_eq_true h⟩
theorem namedB_no {cs : List Cd} {x : ByteArray} (h : ∀ k, k < cs.length → (nthC cs k).name ≠ x) : namedB cs x = false := by
  unfold namedB
  rw [List.any_eq_false]
  intro s hs
  obtain ⟨k, hk, rfl⟩ := List.getElem_of_mem hs
  have := h k hk
  rw [nthC_eq hk] at this
  simpa using this
/-- The cells of the k-th card of a slice. -/
theorem CardsAt.at {w : World} {a : Option Addr} {n cap : Nat} {cs : List Cd} (h : CardsAt w (.slice a n cap) cs) (k : Nat) (hk : k < n) : n = cs.length ∧ ∃ b off sl, a = some ⟨b, off, none⟩ ∧ (∀ j u, ((nthC cs k).cells sl)[j]? = some u → w.cell? ⟨b, off + k * 7 + j, none⟩ = some u) ∧ Strs w sl (nthC cs k).comp := by
  obtain ⟨a', cap', he, _, _, g⟩ := h
  simp only [Value.slice.injEq] at he
  obtain ⟨rfl, rfl, rfl⟩ := he
  obtain ⟨b, off, sl, h1, h2, h3⟩ := g k hk
  rw [← nthC_eq hk] at h2 h3
  exact ⟨rfl, b, off, sl, h1, h2, h3⟩
theorem CardsAt.take {w : World} {a : Option Addr} {n cap : Nat} {cs : List Cd} (h : CardsAt w (.slice a n cap) cs) (i : Nat) (hi : i ≤ n) : CardsAt w (.slice a i cap) (cs.take i) := by
  obtain ⟨a', cap', he, g1, g2, g3⟩ := h
  simp only [Value.slice.injEq] at he
  obtain ⟨rfl, rfl, rfl⟩ := he
  have hl : (cs.take i).length = i := by rw [List.length_take]; omega
  refine ⟨a, cap, by rw [hl], ⟨by omega, by omega⟩, fun h => ?_, fun k hk => ?_⟩
  · obtain ⟨e1, e2⟩ := g2 h
    exact ⟨by rw [e1]; simp, e2⟩
  · obtain ⟨b, off, sl, h1, h2, h3⟩ := g3 k (by omega)
    have e : (cs.take i)[k] = cs[k]'(by omega) := by rw [List.getElem_take]
    exact ⟨b, off, sl, h1, by rw [e]; exact h2, by rw [e]; exact h3⟩
/-- May the i-th card stand in the list? -/
def goodC (cs : List Cd) (i : Nat) : Bool := decide (i < 64) && mayB (nthC cs i) && !namedB (cs.take i) (nthC cs i).name
def firstBad (cs : List Cd) : Option Nat := (List.range cs.length).find? fun i => !goodC cs i
def checkI (cs : List Cd) : Int := match firstBad cs with | some i => i | none => 0
def checkE (cs : List Cd) : Int := match firstBad cs with | some _ => 70 | none => 0
theorem firstBad_some {cs : List Cd} {k : Nat} (hk : k < cs.length) (h1 : ∀ j, j < k → goodC cs j = true) (h2 : goodC cs k = false) : checkI cs = k ∧ checkE cs = 70 := by
  have : firstBad cs = some k := by
    unfold firstBad
    rw [List.find?_eq_some_iff_getElem]
    refine ⟨by rw [h2]; rfl, k, by simpa using hk, by simp, fun j hj => ?_⟩
    simp only [List.getElem_range]
    rw [h1 j hj]
    rfl
  unfold checkI checkE
  rw [this]
  exact ⟨rfl, rfl⟩
theorem firstBad_none {cs : List Cd} (h1 : ∀ j, j < cs.length → goodC cs j = true) : checkI cs = 0 ∧ checkE cs = 0 := by
  have : firstBad cs = none := by
    unfold firstBad
    rw [List.find?_eq_none]
    intro j hj
    rw [h1 j (List.mem_range.1 hj)]
    simp
  unfold checkI checkE
  rw [this]
  exact ⟨rfl, rfl⟩
theorem goodC_big {cs : List Cd} {k : Nat} (h : 64 ≤ k) : goodC cs k = false := by
  unfold goodC
  rw [decide_eq_false (by omega)]
  rfl
theorem goodC_may {cs : List Cd} {k : Nat} (h : mayB (nthC cs k) = false) : goodC cs k = false := by
  unfold goodC
  rw [h, Bool.and_false]
  rfl
theorem goodC_named {cs : List Cd} {k : Nat} (h : namedB (cs.take k) (nthC cs k).name = true) : goodC cs k = false := by
  unfold goodC
  rw [h]
  simp
theorem goodC_yes {cs : List Cd} {k : Nat} (h0 : k < 64) (h1 : mayB (nthC cs k) = true) (h2 : namedB (cs.take k) (nthC cs k).name = false) : goodC cs k = true := by
  unfold goodC
  rw [decide_eq_true h0, h1, h2]
  rfl
def Two (i e : Int) (w : World) (en : Ending) (w' : World) : Prop := en = .returned (.tuple #[.int .i64 i, .int .i64 e]) ∧ Below w.heap.size w w'
end Go.Proofs.Ytnkababhgloclaa
