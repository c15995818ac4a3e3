/- ProbeNames: the bag that its 256 rounds fill, plain; its closure; its Back. -/
import Derived.Test.YtnkababhgloclaaWorksC
namespace Go.Proofs.Ytnkababhgloclaa
open Go.RowKit Go.ChangeShapes Tx Nm
/-- The bag behind i rounds: marks and things in turn. -/
def nmT (i : Nat) : Th := if i % 2 = 0 then ⟨(i : Int) + 1, ⟨#[]⟩, none⟩ else ⟨(i : Int) + 1, ⟨#[120]⟩, some (27, #[])⟩
def nmL : Nat → List Th
  | 0 => []
  | i + 1 => nmL i ++ [nmT i]
theorem nmL_len : ∀ i, (nmL i).length = i
  | 0 => rfl
  | i + 1 => by simp [nmL, nmL_len i]
theorem nmT_fn {i : Nat} {k : Nat} {c : Array Value} (h : (nmT i).fn = some (k, c)) : k = 27 ∧ c = #[] := by
  unfold nmT at h
  split at h
  · cases h
  · injection h with h
    injection h with h1 h2
    exact ⟨h1.symm, h2.symm⟩
theorem nmL_fn : ∀ (i : Nat) {t : Th}, t ∈ nmL i → ∀ {k : Nat} {c : Array Value}, t.fn = some (k, c) → k = 27 ∧ c = #[]
  | 0, t, ht, _, _, _ => by simp [nmL] at ht
  | i + 1, t, ht, k, c, hf => by
    simp only [nmL, List.mem_append, List.mem_singleton] at ht
    rcases ht with ht | rfl
    · exact nmL_fn i ht hf
    · exact nmT_fn hf
set_option maxRecDepth 1000000 in
theorem nmL_pos : posT (nmL 256) 1 true = some 0 := by kernel_rfl
set_option maxRecDepth 1000000 in
theorem nmL_run : (runB (σ := Unit) (fun _ _ _ => .ret 0) (fun _ _ _ => ()) ((nmL 256).take 0) ((nmL 256).drop 0).reverse ()).2.length = 128 := by kernel_rfl
set_option maxHeartbeats 1000000 in
theorem n1_any (w : World) : Calls Try.prog 27 #[] w fun e w' => e = (Beh.ret 0).ending ∧ w' = w := by
  go_enter Try.func27, Try.ntmps27
  go_wp2_with fail
  go_ret
  exact ⟨rfl, rfl⟩
theorem names_back {w : World} {B b : Nat} (h : BagAt w B b (nmL 256) 256 false false) (hB : B ≤ w.heap.size) :
    Calls Try.prog 28 #[.pointer (some ⟨b, 0, none⟩), .int .i64 1] w fun e w' => ∃ a c, e = .returned (.tuple #[.slice a 128 c, .int .i64 0]) ∧ Below B w w' := by
  have hh := bback_some (σ := Unit) (fun _ _ _ => .ret 0) (fun _ _ _ => ()) (fun _ _ => True) (fun _ _ => False) () h (Nat.le_of_eq (nmL_len 256)) 1 0 nmL_pos hB trivial (fun _ _ _ => ⟨fun h => h, fun h => h, fun h => h, fun h => h⟩) (fun _ _ _ _ _ => trivial)
    (fun t ht k c hf x => by
      obtain ⟨rfl, rfl⟩ := nmL_fn 256 ht hf
      kernel_rfl)
    (fun t ht k c hf s R x _ _ _ => by
      obtain ⟨rfl, rfl⟩ := nmL_fn 256 ht hf
      exact (n1_any x).mono (fun e x' he => ⟨he.1, by rw [he.2]; exact Rel.refl _ _ _, trivial⟩))
  refine hh.mono (fun e w' h => ?_)
  obtain ⟨v, rfl, h1, _, _, h5⟩ := h
  rw [nmL_run] at h1
  obtain ⟨a, c, rfl⟩ := own_slice h1
  exact ⟨a, c, rfl, h5.out (Below.refl _ _) hB⟩
end Go.Proofs.Ytnkababhgloclaa
