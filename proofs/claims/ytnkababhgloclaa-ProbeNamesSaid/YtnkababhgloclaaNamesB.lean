/- ProbeNames: the walk. -/
import Derived.Test.YtnkababhgloclaaNamesA
namespace Go.Proofs.Ytnkababhgloclaa
open Go.RowKit Go.ChangeShapes Tx Nm
theorem names_mark {w : World} {B b i : Nat} (hi : i < 256) (h2 : i % 2 = 0) (h : BagAt w B b (nmL i) i false false) (hB : B ≤ w.heap.size) :
    Calls Try.prog 25 #[.pointer (some ⟨b, 0, none⟩)] w fun e w' => e = .returned (.tuple #[.int .i64 ((i : Int) + 1), .int .i64 0]) ∧ BagAt w' B b (nmL (i + 1)) ((i + 1 : Nat) : Int) false false ∧ Rel B (SB b) w w' := by
  have hh := bmark_room h hB (by rw [nmL_len]; exact hi) (by omega) (by omega)
  have e : nmL (i + 1) = nmL i ++ [⟨(i : Int) + 1, ⟨#[]⟩, none⟩] := by simp only [nmL, nmT, if_pos h2]
  rw [e]
  exact hh
theorem names_add {w : World} {B b i : Nat} (hi : i < 256) (h2 : ¬ i % 2 = 0) (h : BagAt w B b (nmL i) i false false) (hB : B ≤ w.heap.size) :
    Calls Try.prog 26 #[.pointer (some ⟨b, 0, none⟩), .string ⟨#[120]⟩, .func (.func 27) #[] #[]] w fun e w' => e = .returned (.tuple #[.int .i64 ((i : Int) + 1), .int .i64 0]) ∧ BagAt w' B b (nmL (i + 1)) ((i + 1 : Nat) : Int) false false ∧ Rel B (SB b) w w' := by
  have hh := add_room h hB (by rw [nmL_len]; exact hi) (by omega) (by omega) ⟨#[120]⟩ (by decide) 27 #[]
  have e : nmL (i + 1) = nmL i ++ [⟨(i : Int) + 1, ⟨#[120]⟩, some (27, #[])⟩] := by simp only [nmL, nmT, if_neg h2]
  rw [e]
  exact hh
theorem names_full {w : World} {B b : Nat} (h : BagAt w B b (nmL 256) 256 false false) :
    Calls Try.prog 25 #[.pointer (some ⟨b, 0, none⟩)] w fun e w' => e = .returned (.tuple #[.int .i64 0, .int .i64 3]) ∧ w' = w := bmark_full h (nmL_len 256)
end Go.Proofs.Ytnkababhgloclaa
