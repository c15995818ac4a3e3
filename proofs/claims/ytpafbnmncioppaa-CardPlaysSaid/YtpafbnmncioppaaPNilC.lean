/- A nil registry. -/
import Derived.Test.YtpafbnmncioppaaPRefM
namespace Go.Proofs.Ytpafbnmncioppaa
open Go.RowKit
def Nil2 (v : Value) (w : World) (e : Ending) (w' : World) : Prop := e = .returned v ∧ Below w.heap.size w w'
set_option maxHeartbeats 1000000 in
set_option maxRecDepth 100000 in
theorem enter_nil (n f q : ByteArray) (l s e : Int) (sl : Value) (w : World) : Calls Try.prog 28 #[.pointer none, .agg #[.string n, .string f, .int .u8 l, sl, .int .i8 s, .string q, .int .i16 e]] w (Nil2 (.int .i64 2) w) := by
  have b1 : Hid (Below w.heap.size w (w.alloc (.cells #[.string n, .string f, .int .u8 l, sl, .int .i8 s, .string q, .int .i16 e] 38))) := Lib.hid ((Below.refl _ w).alloc (Nat.le_refl _) _)
  go_enter Try.func28, Try.ntmps28
  go_wp2_with fail
  go_ret
  exact ⟨rfl, b1.out⟩
set_option maxHeartbeats 1000000 in
theorem mark_nil (p : ByteArray) (i s : Int) (w : World) : Calls Try.prog 29 #[.pointer none, .string p, .int .i64 i, .int .i64 s] w (Nil2 (.int .i64 2) w) := by
  go_enter Try.func29, Try.ntmps29
  go_wp2_with fail
  go_ret
  exact ⟨rfl, Below.refl _ _⟩
set_option maxHeartbeats 1000000 in
theorem freeze_nil (w : World) : Calls Try.prog 33 #[.pointer none] w (Nil2 (.int .i64 2) w) := by
  go_enter Try.func33, Try.ntmps33
  go_wp2_with fail
  go_ret
  exact ⟨rfl, Below.refl _ _⟩
set_option maxHeartbeats 1000000 in
theorem frozen_nil (w : World) : Calls Try.prog 34 #[.pointer none] w (Nil2 (.bool false) w) := by
  go_enter Try.func34, Try.ntmps34
  go_wp2_with fail
  go_ret
  exact ⟨rfl, Below.refl _ _⟩
set_option maxHeartbeats 1000000 in
theorem cards_nil (w : World) : Calls Try.prog 30 #[.pointer none] w (Nil2 (.slice none 0 0) w) := by
  go_enter Try.func30, Try.ntmps30
  go_wp2_with fail
  go_ret
  exact ⟨rfl, Below.refl _ _⟩
set_option maxHeartbeats 1000000 in
theorem refused_nil (w : World) : Calls Try.prog 31 #[.pointer none] w (Nil2 (.slice none 0 0) w) := by
  go_enter Try.func31, Try.ntmps31
  go_wp2_with fail
  go_ret
  exact ⟨rfl, Below.refl _ _⟩
set_option maxHeartbeats 1000000 in
theorem notes_nil (w : World) : Calls Try.prog 32 #[.pointer none] w (Nil2 (.slice none 0 0) w) := by
  go_enter Try.func32, Try.ntmps32
  go_wp2_with fail
  go_ret
  exact ⟨rfl, Below.refl _ _⟩
end Go.Proofs.Ytpafbnmncioppaa
