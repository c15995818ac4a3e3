/- A bag's small calls: New, wrong. -/
import Derived.Test.YtnkababhgloclaaBagD
import Derived.Lib.Hide
import Derived.Deep.AppendLies
import Derived.BigQuiet
import Derived.Deep.QuietTactic
namespace Go.Proofs.Ytnkababhgloclaa
open Go.RowKit Go.ChangeShapes
set_option maxHeartbeats 1000000 in
theorem bnew_any (w : World) : Calls Try.prog 9 #[] w fun e w' => e = .returned (.pointer (some ⟨w.heap.size, 0, none⟩)) ∧ w' = w.alloc (.cells #[.slice none 0 0, .int .i64 0, .bool false, .bool false] 89 (0, 0)) := by
  go_enter Try.func9, Try.ntmps9
  go_wp2_with fail
  go_ret
  exact ⟨rfl, rfl⟩
theorem bag_new (w : World) (B : Nat) (hB : B ≤ w.heap.size) : BagAt (w.alloc (.cells #[.slice none 0 0, .int .i64 0, .bool false, .bool false] 89 (0, 0))) B w.heap.size [] 0 false false :=
  ⟨hB, _, heap_alloc_new w _, ⟨by simp [hc], .inl ⟨rfl, rfl⟩⟩⟩
set_option maxHeartbeats 1000000 in
theorem wrong_nil (w : World) : Calls Try.prog 45 #[.pointer none] w fun e w' => e = .returned (.int .i64 2) ∧ w' = w := by
  go_enter Try.func45, Try.ntmps45
  go_wp2_with fail
  go_ret
  exact ⟨rfl, rfl⟩
set_option maxHeartbeats 4000000 in
theorem wrong_any {w : World} {B b : Nat} {L : List Th} {last : Int} {busy closed : Bool} (h : BagAt w B b L last busy closed) : Calls Try.prog 45 #[.pointer (some ⟨b, 0, none⟩)] w fun e w' => e = .returned (.int .i64 (if closed || busy then 5 else 0)) ∧ w' = w := by
  obtain ⟨a, c, c0, c1, c2, c3, _⟩ := h.cells
  clear h
  cases closed with
  | true =>
    go_enter Try.func45, Try.ntmps45
    go_wp2_with fail
    go_ret
    exact ⟨rfl, rfl⟩
  | false =>
    cases busy with
    | true =>
      go_enter Try.func45, Try.ntmps45
      go_wp2_with fail
      go_ret
      exact ⟨rfl, rfl⟩
    | false =>
      go_enter Try.func45, Try.ntmps45
      go_wp2_with fail
      go_ret
      exact ⟨rfl, rfl⟩
end Go.Proofs.Ytnkababhgloclaa
