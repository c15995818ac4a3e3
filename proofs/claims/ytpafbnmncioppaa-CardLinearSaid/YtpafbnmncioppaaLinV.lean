/- The plain law of linear tables. -/
import Derived.Test.YtpafbnmncioppaaCardV
namespace Go.Proofs.Ytpafbnmncioppaa
open Go.RowKit
/-- One table's part, and all of them, in whole numbers. -/
def part (I : Nat) (r : Int × List Int) : Int := if r.2.length = 0 then 0 else r.1 * nth r.2 (I % r.2.length)
def parts (I : Nat) : List (Int × List Int) → Int
  | [] => 0
  | r :: rs => part I r + parts I rs
theorem wrap_add (x y : Int) : wrap64 (wrap64 x + wrap64 y) = wrap64 (x + y) := wrap_eq (by
  have h1 := wrap_mod x
  have h2 := wrap_mod y
  generalize wrap64 x = A at *
  generalize wrap64 y = B at *
  omega)
theorem wrap_addl (x y : Int) : wrap64 (wrap64 x + y) = wrap64 (x + y) := wrap_eq (by
  have h1 := wrap_mod x
  generalize wrap64 x = A at *
  omega)
theorem wrap_addr (x y : Int) : wrap64 (x + wrap64 y) = wrap64 (x + y) := by rw [Int.add_comm, wrap_addl, Int.add_comm]
theorem wrap_wrap (x : Int) : wrap64 (wrap64 x) = wrap64 x := wrap_eq (wrap_mod x)
theorem wrap_mul (x y : Int) : wrap64 (wrap64 x * y) = wrap64 (x * y) := wrap_eq (mul_mod _ _ _ _ (wrap_mod x) rfl)
theorem addP_part (I : Nat) (x : Int) (r : Int × List Int) : addP I (wrap64 x) r = wrap64 (x + part I r) := by
  unfold addP part
  by_cases c : r.2.length = 0
  · rw [if_pos c, if_pos c, Int.add_zero]
  · rw [if_neg c, if_neg c, wrap_add]
theorem fold_parts (I : Nat) : ∀ (rs : List (Int × List Int)) (x : Int), rs.foldl (addP I) (wrap64 x) = wrap64 (x + parts I rs)
  | [], x => by simp [parts]
  | r :: rs, x => by
    rw [List.foldl_cons, addP_part, fold_parts I rs, parts, Int.add_assoc]
theorem ent_val (I : Nat) (b s : Int) (rs : List (Int × List Int)) : entP I b s rs = wrap64 (b + s * I + parts I rs) := by
  unfold entP
  rw [wrap_addr, fold_parts]
theorem ent_one (I : Nat) (r : Int × List Int) : entP I 0 0 [r] = wrap64 (part I r) := by
  rw [ent_val]
  simp [parts]
theorem parts_snoc (I : Nat) : ∀ (rs : List (Int × List Int)) (r : Int × List Int), parts I (rs ++ [r]) = parts I rs + part I r
  | [], r => by simp [parts]
  | q :: rs, r => by
    rw [List.cons_append, parts, parts_snoc I rs r, parts]
    omega
/-- The factors, each times c. -/
def times (c : Int) (rs : List (Int × List Int)) : List (Int × List Int) := rs.map fun r => (wrap64 (r.1 * c), r.2)
theorem part_times (I : Nat) (c : Int) (r : Int × List Int) : wrap64 (part I (wrap64 (r.1 * c), r.2)) = wrap64 (part I r * c) := by
  unfold part
  by_cases h : r.2.length = 0
  · rw [if_pos h, if_pos h]; simp
  · rw [if_neg h, if_neg h]
    dsimp only
    rw [wrap_mul]
    congr 1
    rw [Int.mul_assoc, Int.mul_comm c, ← Int.mul_assoc]
theorem parts_times (I : Nat) (c : Int) : ∀ rs : List (Int × List Int), wrap64 (parts I (times c rs)) = wrap64 (parts I rs * c)
  | [] => by simp [times, parts]
  | r :: rs => by
    have h1 := part_times I c r
    have h2 := parts_times I c rs
    show wrap64 (part I (wrap64 (r.1 * c), r.2) + parts I (times c rs)) = wrap64 ((part I r + parts I rs) * c)
    rw [← wrap_add, h1, h2, wrap_add, Int.add_mul]
theorem ent_times (I : Nat) (b s c : Int) (rs : List (Int × List Int)) : entP I (wrap64 (b * c)) (wrap64 (s * c)) (times c rs) = wrap64 (entP I b s rs * c) := by
  rw [ent_val, ent_val, wrap_mul, ← wrap_add, parts_times]
  rw [← wrap_add (wrap64 (b * c)) (wrap64 (s * c) * I), wrap_wrap, wrap_mul, wrap_add]
  rw [← wrap_addl (wrap64 (b * c) + wrap64 (s * c * I)), wrap_add, wrap_addl]
  congr 1
  rw [Int.add_mul, Int.add_mul, Int.mul_assoc s c, Int.mul_comm c, ← Int.mul_assoc]
end Go.Proofs.Ytpafbnmncioppaa
