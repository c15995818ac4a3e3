/- A table out of tables: the slice l[k:k+1]; given's tables as tables. -/
import Derived.Test.YtpafbnmncioppaaGivenC
import Derived.Test.YtpafbnmncioppaaLinV
import Derived.Deep.Slices
namespace Go.Proofs.Ytpafbnmncioppaa
open Go.RowKit Go.ChangeShapes Go.WideShapes Go.Deep
/-- A slice that came in is no longer than its capacity. -/
theorem cap_of {H : Type} {enc : TypeId × Value → H} {P : Program} {w : World} {base : Nat} {spare : Nat → Bool} {held : Bool} {t e : TypeId} {v : Value} {d : DataW H} {ps : List MemPlace} (ht : P.underlying t = some (.slice e))
    (h : DataW.Trod enc P w base spare held t v d ps) {a : Option Addr} {n c : Nat} (hv : v = .slice a n c) : n ≤ c ∧ c ≤ maxLen := by
  obtain ⟨fuel, h⟩ := h
  subst hv
  rcases open_slice ht h with ⟨hcs, _⟩ | ⟨x, l, c', m, q, D, Pl, hcs, _, hl, hm, _⟩
  · simp [Value.cells] at hcs
    obtain ⟨_, rfl, rfl⟩ := hcs
    exact ⟨Nat.le_refl _, by simp⟩
  · simp [Value.cells] at hcs
    obtain ⟨_, rfl, rfl⟩ := hcs
    exact ⟨hl, hm⟩
/-- One of the tables alone. -/
theorem tabs_one {w : World} {b off n c k c' : Nat} {rs : List (Int × List Int)} (h : Tabs w (.slice (some ⟨b, off, none⟩) n c) rs) (hk : k < rs.length) : Tabs w (.slice (some ⟨b, off + k * 2, none⟩) 1 c') [(rF rs k, rO rs k)] := by
  obtain ⟨a, cap, he, _, _, hc⟩ := h
  simp only [Value.slice.injEq] at he
  obtain ⟨rfl, rfl, rfl⟩ := he
  refine ⟨_, c', rfl, by simp [maxLen], (fun h => by cases h), fun i hi => ?_⟩
  obtain rfl : i = 0 := by simpa using hi
  obtain ⟨b', off', u, hp, g0, g1, g2⟩ := hc k hk
  simp only [Option.some.injEq, Addr.mk.injEq, and_true] at hp
  obtain ⟨rfl, rfl⟩ := hp
  exact ⟨b, off + k * 2, u, rfl, by simpa [rF] using g0, by simpa using g1, by simpa [rO] using g2⟩
theorem tabs_nil (w : World) : Tabs w (.slice none 0 0) [] := ⟨none, 0, rfl, by simp, fun _ => ⟨rfl, rfl⟩, fun i hi => by simp at hi⟩
/-- given, for who does not write. -/
theorem given_tabs (v : Value) (rs : List (Int × List Int)) (w : World) (hv : Tabs w v rs) (hr1 : rs.length ≤ 4398046511000) (hO : ∀ k, k < rs.length → (rO rs k).length ≤ 17592186044416) : Calls Try.prog 9 #[v] w fun e w' => ∃ vo, e = .returned vo ∧ Tabs w' vo rs ∧ Below w.heap.size w w' := by
  refine (given_any v rs w hv hr1 hO).mono ?_
  rintro e w' ⟨vo, l, rfl, hs, ho, hf, hb⟩
  refine ⟨vo, rfl, ?_, hb⟩
  subst hs
  rw [said_len] at hr1 hO
  refine tabs_own ho hf (by unfold maxLen; omega) (fun r hr => ?_)
  obtain ⟨j, hj, rfl⟩ := List.getElem_of_mem hr
  have := hO j hj
  rw [said_o hj] at this
  unfold maxLen
  omega
end Go.Proofs.Ytpafbnmncioppaa
