/- Hops, plainly: what the sequence is, and that each round has each band once. -/
import Derived.Test.YtlkkkohgeakfaaaDoorBase
namespace Go.Proofs.YtlkkkohgeakfaaaDoor
open Go.RowKit
namespace Hop
def mixU (x : Nat) : Nat :=
  let a := x ^^^ (x * 8192 % 18446744073709551616)
  let b := a ^^^ (a / 128)
  b ^^^ (b * 131072 % 18446744073709551616)
theorem xor_lt {a b : Nat} (ha : a < 18446744073709551616) (hb : b < 18446744073709551616) : a ^^^ b < 18446744073709551616 := Nat.xor_lt_two_pow (n := 64) ha hb
theorem mixU_lt (x : Nat) (h : x < 18446744073709551616) : mixU x < 18446744073709551616 := by
  have h1 := xor_lt h (Nat.mod_lt (x * 8192) (show 0 < 18446744073709551616 by decide))
  have h2 := xor_lt h1 (Nat.lt_of_le_of_lt (Nat.div_le_self _ 128) h1)
  exact xor_lt h2 (Nat.mod_lt _ (by decide))
/-- Two entries change places. -/
def swp (l : List Int) (i j : Nat) : List Int := (l.set i (nth l j)).set j (nth l i)
theorem swp_len (l : List Int) (i j : Nat) : (swp l i j).length = l.length := by simp [swp]
theorem swp_perm (l : List Int) (i j : Nat) (hi : i < l.length) (hj : j < l.length) : (swp l i j).Perm l := by
  unfold swp
  rw [nth_eq hi, nth_eq hj]
  exact List.set_set_perm hi hj
def row0 : List Int := (List.range 20).map fun (i : Nat) => (i : Int)
def step1 (s : Nat × List Int) (k : Nat) : Nat × List Int := (mixU s.1, swp s.2 k (mixU s.1 % (k + 1)))
def sweepTo (q : Nat) (s : Nat × List Int) : Nat × List Int := (List.range q).foldl (fun s i => step1 s (19 - i)) s
theorem sweepTo_zero (s : Nat × List Int) : sweepTo 0 s = s := rfl
theorem sweepTo_succ (q : Nat) (s : Nat × List Int) : sweepTo (q + 1) s = step1 (sweepTo q s) (19 - q) := by
  simp [sweepTo, List.range_succ, List.foldl_append]
theorem sweepTo_ok (s : Nat × List Int) (h1 : s.1 < 18446744073709551616) (h2 : s.2.length = 20) : ∀ q, q ≤ 19 → (sweepTo q s).1 < 18446744073709551616 ∧ (sweepTo q s).2.length = 20 ∧ (sweepTo q s).2.Perm s.2 := by
  intro q
  induction q with
  | zero => intro _; exact ⟨h1, h2, List.Perm.refl _⟩
  | succ q ih =>
    intro hq
    obtain ⟨a, b, c⟩ := ih (by omega)
    rw [sweepTo_succ]
    have hm := mixU_lt _ a
    have hj : mixU (sweepTo q s).1 % (19 - q + 1) < 19 - q + 1 := Nat.mod_lt _ (by omega)
    exact ⟨hm, by show (swp _ _ _).length = 20; rw [swp_len, b], (swp_perm _ _ _ (by omega) (by omega)).trans c⟩
/-- The first band is not the one that was used last. -/
def fixed (out row : List Int) : List Int := if out.length ≠ 0 ∧ nth row 0 = nth out (out.length - 1) then swp row 0 1 else row
theorem fixed_perm (out row : List Int) (h : row.length = 20) : (fixed out row).Perm row := by
  unfold fixed
  split
  · exact swp_perm _ _ _ (by omega) (by omega)
  · exact List.Perm.refl _
theorem fixed_len (out row : List Int) : (fixed out row).length = row.length := by
  unfold fixed
  split
  · exact swp_len _ _ _
  · rfl
def seed0 (seed : Nat) : Nat := if seed = 0 then 11400714819323198485 else seed
theorem seed0_lt {seed : Nat} (h : seed < 18446744073709551616) : seed0 seed < 18446744073709551616 := by unfold seed0; split <;> omega
structure St where
  x : Nat
  row : List Int
  out : List Int
def nextS (s : St) : St := { x := (sweepTo 19 (s.x, s.row)).1, row := fixed s.out (sweepTo 19 (s.x, s.row)).2, out := s.out ++ fixed s.out (sweepTo 19 (s.x, s.row)).2 }
def roundsS (seed : Nat) : Nat → St
  | 0 => { x := seed0 seed, row := row0, out := [] }
  | m + 1 => nextS (roundsS seed m)
def outS (seed m : Nat) : List Int := (roundsS seed m).out
theorem outS_succ (seed m : Nat) : outS seed (m + 1) = outS seed m ++ (roundsS seed (m + 1)).row := rfl
theorem rounds_ok (seed : Nat) (h : seed < 18446744073709551616) : ∀ m, (roundsS seed m).x < 18446744073709551616 ∧ (roundsS seed m).row.length = 20 ∧ (roundsS seed m).row.Perm row0 ∧ (outS seed m).length = 20 * m := by
  intro m
  induction m with
  | zero => exact ⟨seed0_lt h, rfl, List.Perm.refl _, rfl⟩
  | succ m ih =>
    obtain ⟨a, b, c, d⟩ := ih
    obtain ⟨e, f, g⟩ := sweepTo_ok ((roundsS seed m).x, (roundsS seed m).row) a b 19 (Nat.le_refl _)
    have hl : (roundsS seed (m + 1)).row.length = 20 := by
      show (fixed _ _).length = 20
      rw [fixed_len, f]
    refine ⟨e, hl, ?_, ?_⟩
    · exact (fixed_perm _ _ f).trans (g.trans c)
    · rw [outS_succ, List.length_append, d, hl]; omega
/-- The hops. -/
def hopsV (seed n : Nat) : List Int := (outS seed ((n + 19) / 20)).take n
theorem hopsV_len (seed n : Nat) (h : seed < 18446744073709551616) : (hopsV seed n).length = n := by
  unfold hopsV
  rw [List.length_take, (rounds_ok seed h _).2.2.2]
  omega
theorem outS_prefix (seed : Nat) (h : seed < 18446744073709551616) (m k : Nat) : (outS seed (m + k)).take (20 * m) = outS seed m := by
  have hl := (rounds_ok seed h m).2.2.2
  induction k with
  | zero => rw [Nat.add_zero, ← hl, List.take_length]
  | succ k ih =>
    rw [← Nat.add_assoc, outS_succ, List.take_append_of_le_length, ih]
    rw [(rounds_ok seed h (m + k)).2.2.2]
    omega
theorem hopsV_take (seed n k : Nat) (h : seed < 18446744073709551616) (hk : k ≤ n) : (hopsV seed n).take k = hopsV seed k := by
  have e := outS_prefix seed h ((k + 19) / 20) ((n + 19) / 20 - (k + 19) / 20)
  rw [show (k + 19) / 20 + ((n + 19) / 20 - (k + 19) / 20) = (n + 19) / 20 by omega] at e
  unfold hopsV
  rw [← e, List.take_take, List.take_take]
  congr 1
  omega
/-- A round of the loop: what it appends. -/
theorem take_next (seed n m : Nat) (h : seed < 18446744073709551616) (hm : 20 * m ≤ n) : (outS seed (m + 1)).take n = outS seed m ++ ((roundsS seed (m + 1)).row).take (n - 20 * m) := by
  have hl := (rounds_ok seed h m).2.2.2
  rw [outS_succ, List.take_append, hl, List.take_of_length_le (by omega)]
theorem nth_append_left {a b : List Int} {i : Nat} (h : i < a.length) : nth (a ++ b) i = nth a i := by
  simp [nth, List.getD, List.getElem?_append_left h]
theorem nth_append_right {a b : List Int} {i : Nat} (h : a.length ≤ i) : nth (a ++ b) i = nth b (i - a.length) := by
  simp [nth, List.getD, List.getElem?_append_right h]
theorem nth_take {l : List Int} {n i : Nat} (h : i < n) : nth (l.take n) i = nth l i := by
  simp [nth, List.getD, List.getElem?_take, h]
theorem nodup_nth {l : List Int} (h : l.Nodup) {i j : Nat} (hj : j < l.length) (hij : i < j) : nth l i ≠ nth l j := by
  rw [nth_eq hj, nth_eq (Nat.lt_trans hij hj)]
  have := List.pairwise_iff_getElem.1 h i j (Nat.lt_trans hij hj) hj hij
  exact this
theorem row0_nodup : row0.Nodup := by decide
theorem row0_mem (x : Int) (h : x ∈ row0) : 0 ≤ x ∧ x ≤ 19 := by
  simp [row0] at h
  obtain ⟨a, ha, rfl⟩ := h
  omega
theorem perm_nodup {l : List Int} (h : l.Perm row0) : l.Nodup := (h.nodup_iff).2 row0_nodup
theorem perm_bd {l : List Int} (h : l.Perm row0) {i : Nat} (hi : i < l.length) : 0 ≤ nth l i ∧ nth l i ≤ 19 := row0_mem _ (h.mem_iff.1 (nth_mem hi))
theorem swp_first (l : List Int) (h : 2 ≤ l.length) : nth (swp l 0 1) 0 = nth l 1 := by
  match l, h with
  | a :: b :: r, _ => rfl
theorem fixed_first (out row : List Int) (h : row.length = 20) (hp : row.Nodup) (ho : out.length ≠ 0) : nth (fixed out row) 0 ≠ nth out (out.length - 1) := by
  unfold fixed
  split
  · rename_i hc
    rw [swp_first _ (by omega), ← hc.2]
    exact fun e => nodup_nth hp (show 1 < row.length by omega) (show 0 < 1 by omega) e.symm
  · rename_i hc
    exact fun e => hc ⟨ho, e⟩
/-- What the statement asks of the hops. -/
def Good (l : List Int) : Prop := ∀ i, i < l.length → (0 ≤ nth l i ∧ nth l i ≤ 19) ∧ (0 < i → nth l i ≠ nth l (i - 1)) ∧ ∀ j, i - i % 20 ≤ j → j < i → nth l j ≠ nth l i
theorem outS_good (seed : Nat) (h : seed < 18446744073709551616) : ∀ m, Good (outS seed m) := by
  intro m
  induction m with
  | zero => intro i hi; exact absurd hi (Nat.not_lt_zero _)
  | succ m ih =>
    obtain ⟨a, b, c, d⟩ := rounds_ok seed h m
    obtain ⟨a', b', c', d'⟩ := rounds_ok seed h (m + 1)
    have hn := perm_nodup c'
    have hfix : (outS seed m).length ≠ 0 → nth (roundsS seed (m + 1)).row 0 ≠ nth (outS seed m) ((outS seed m).length - 1) := by
      intro ho
      obtain ⟨e, f, g⟩ := sweepTo_ok ((roundsS seed m).x, (roundsS seed m).row) a b 19 (Nat.le_refl _)
      exact fixed_first _ _ f (perm_nodup (g.trans c)) ho
    intro i hi
    rw [d'] at hi
    rw [outS_succ]
    by_cases hlt : i < 20 * m
    · obtain ⟨x, y, z⟩ := ih i (by omega)
      rw [nth_append_left (by omega)]
      refine ⟨x, fun h0 => ?_, fun j hj hji => ?_⟩
      · rw [nth_append_left (by omega)]; exact y h0
      · rw [nth_append_left (by omega)]; exact z j hj hji
    · have e : nth (outS seed m ++ (roundsS seed (m + 1)).row) i = nth (roundsS seed (m + 1)).row (i - 20 * m) := by rw [nth_append_right (by omega), d]
      rw [e]
      refine ⟨perm_bd c' (by omega), fun h0 => ?_, fun j hj hji => ?_⟩
      · by_cases he : i = 20 * m
        · subst he
          rw [nth_append_left (by omega)]
          have := hfix (by omega)
          rw [d] at this
          simpa using this
        · rw [nth_append_right (by omega), d, show i - 1 - 20 * m = (i - 20 * m) - 1 by omega]
          exact fun e => nodup_nth hn (show i - 20 * m < _ by omega) (show i - 20 * m - 1 < i - 20 * m by omega) e.symm
      · rw [nth_append_right (by omega), d]
        exact nodup_nth hn (by omega) (by omega)
theorem hopsV_good (seed n : Nat) (h : seed < 18446744073709551616) : Good (hopsV seed n) := by
  intro i hi
  rw [hopsV_len seed n h] at hi
  have hl := (rounds_ok seed h ((n + 19) / 20)).2.2.2
  obtain ⟨x, y, z⟩ := outS_good seed h ((n + 19) / 20) i (by omega)
  unfold hopsV
  rw [nth_take hi]
  refine ⟨x, fun h0 => ?_, fun j hj hji => ?_⟩
  · rw [nth_take (by omega)]; exact y h0
  · rw [nth_take (by omega)]; exact z j hj hji
end Hop
end Go.Proofs.YtlkkkohgeakfaaaDoor
