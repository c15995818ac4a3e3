/- The plain law of tables: sums and products that wrap, signed and unsigned, come to the same. -/
import Derived.Test.YtnkababhgloclaaBase
import Derived.Laws.Bits64
namespace Go.Proofs.Ytnkababhgloclaa
open Go.RowKit
theorem wrap_eq {x y : Int} (h : x % 18446744073709551616 = y % 18446744073709551616) : wrap64 x = wrap64 y := by
  unfold wrap64
  omega
theorem wrap_mod (x : Int) : wrap64 x % 18446744073709551616 = x % 18446744073709551616 := by
  unfold wrap64
  omega
theorem wrap_id {x : Int} (h : (Lit.int .i64 x).wf = true) : wrap64 x = x := by
  obtain ⟨h1, h2⟩ : -9223372036854775808 ≤ x ∧ x ≤ 9223372036854775807 := by simpa [Lit.wf, IntKind.min, IntKind.max, IntKind.bits, IntKind.signed] using h
  unfold wrap64
  omega
theorem mul_mod (a b a' b' : Int) (h : a % 18446744073709551616 = a' % 18446744073709551616) (h2 : b % 18446744073709551616 = b' % 18446744073709551616) : a * b % 18446744073709551616 = a' * b' % 18446744073709551616 := by
  rw [Int.mul_emod, h, h2, ← Int.mul_emod]
/-- One table's part: the program's and the document's. -/
def addP (i : Nat) (x : Int) (r : Int × List Int) : Int := if r.2.length = 0 then x else wrap64 (x + wrap64 (r.1 * nth r.2 (i % r.2.length)))
def addU (i : Nat) (x : Int) (r : Int × List Int) : Int := if r.2.length = 0 then x else (x + (r.1 % 18446744073709551616) * (nth r.2 (i % r.2.length) % 18446744073709551616) % 18446744073709551616) % 18446744073709551616
theorem add_mod {i : Nat} {x y : Int} (r : Int × List Int) (h : x % 18446744073709551616 = y % 18446744073709551616) : addU i x r % 18446744073709551616 = addP i y r % 18446744073709551616 := by
  unfold addU addP
  by_cases c : r.2.length = 0
  · rw [if_pos c, if_pos c, h]
  · rw [if_neg c, if_neg c, wrap_mod]
    have := mul_mod (r.1 % 18446744073709551616) (nth r.2 (i % r.2.length) % 18446744073709551616) r.1 (nth r.2 (i % r.2.length)) (by omega) (by omega)
    have h2 := wrap_mod (r.1 * nth r.2 (i % r.2.length))
    generalize r.1 % 18446744073709551616 * (nth r.2 (i % r.2.length) % 18446744073709551616) = A at *
    generalize wrap64 (r.1 * nth r.2 (i % r.2.length)) = B at *
    generalize r.1 * nth r.2 (i % r.2.length) = C at *
    omega
/-- What the first n tables come to. -/
def entP (i : Nat) (base step : Int) (rs : List (Int × List Int)) : Int := rs.foldl (addP i) (wrap64 (base + wrap64 (step * i)))
def entU (i : Nat) (base step : Int) (rs : List (Int × List Int)) : Int := rs.foldl (addU i) ((base % 18446744073709551616 + (step % 18446744073709551616) * (i % 18446744073709551616) % 18446744073709551616) % 18446744073709551616)
theorem fold_mod (i : Nat) : ∀ (rs : List (Int × List Int)) (x y : Int), x % 18446744073709551616 = y % 18446744073709551616 → rs.foldl (addU i) x % 18446744073709551616 = rs.foldl (addP i) y % 18446744073709551616
  | [], _, _, h => h
  | r :: rs, _, _, h => fold_mod i rs _ _ (add_mod r h)
theorem fold_wrap (i : Nat) : ∀ (rs : List (Int × List Int)) (y : Int), wrap64 y = y → wrap64 (rs.foldl (addP i) y) = rs.foldl (addP i) y
  | [], y, h => h
  | r :: rs, y, h => fold_wrap i rs _ (by
    unfold addP
    split
    · exact h
    · exact wrap_eq (wrap_mod _) )
/-- The document's entry, signed, is the program's. -/
theorem ent_eq (i : Nat) (base step : Int) (rs : List (Int × List Int)) : wrap64 (entU i base step rs) = entP i base step rs := by
  unfold entU entP
  rw [← fold_wrap i rs (wrap64 (base + wrap64 (step * i))) (wrap_eq (wrap_mod _))]
  refine wrap_eq (fold_mod i rs _ _ ?_)
  rw [wrap_mod]
  have := mul_mod (step % 18446744073709551616) ((i : Int) % 18446744073709551616) step i (by omega) (by omega)
  have h2 := wrap_mod (step * i)
  generalize step % 18446744073709551616 * ((i : Int) % 18446744073709551616) = A at *
  generalize wrap64 (step * i) = B at *
  generalize step * (i : Int) = C at *
  omega
def sumP (l : List Int) : Int := l.foldl (fun x n => wrap64 (x + n)) 0
def sumU (l : List Int) : Int := l.foldl (fun x n => (x + n % 18446744073709551616) % 18446744073709551616) 0
theorem sum_mod : ∀ (l : List Int) (x y : Int), x % 18446744073709551616 = y % 18446744073709551616 → wrap64 y = y → l.foldl (fun x n => (x + n % 18446744073709551616) % 18446744073709551616) x % 18446744073709551616 = l.foldl (fun x n => wrap64 (x + n)) y % 18446744073709551616 ∧ wrap64 (l.foldl (fun x n => wrap64 (x + n)) y) = l.foldl (fun x n => wrap64 (x + n)) y
  | [], _, _, h, h2 => ⟨h, h2⟩
  | n :: l, x, y, h, _ => sum_mod l ((x + n % 18446744073709551616) % 18446744073709551616) (wrap64 (y + n)) (by rw [wrap_mod]; omega) (wrap_eq (wrap_mod _))
theorem sum_eq (l : List Int) : wrap64 (sumU l) = sumP l := by
  obtain ⟨h1, h2⟩ := sum_mod l 0 0 rfl (by unfold wrap64; omega)
  unfold sumU sumP
  rw [← h2]
  exact wrap_eq h1
end Go.Proofs.Ytnkababhgloclaa
