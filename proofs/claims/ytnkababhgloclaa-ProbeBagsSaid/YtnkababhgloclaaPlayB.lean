/- ProbeBags: a result is what a thing comes to. -/
import Derived.Test.YtnkababhgloclaaPlayA
namespace Go.Proofs.Ytnkababhgloclaa
open Go.RowKit Go.ChangeShapes
set_option maxHeartbeats 4000000 in
set_option maxRecDepth 100000 in
theorem same_yes (w : World) (id : Int) (name : ByteArray) (code : Int) (pan mark : Bool) (word : ByteArray) :
    Calls Try.prog 39 #[.agg #[.int .i64 id, .string name, .int .i64 code, .bool pan, .string word], .agg #[.int .i64 id, .bool mark, .string name, .int .i64 code, .bool pan, .string word]] w fun e w' => e = .returned (.bool true) ∧ Below w.heap.size w w' := by
  have b1 := (Below.refl w.heap.size w).alloc (Nat.le_refl _) (.cells #[.int .i64 id, .string name, .int .i64 code, .bool pan, .string word] 83)
  have b2 := b1.alloc (by simp) (.cells #[.int .i64 id, .bool mark, .string name, .int .i64 code, .bool pan, .string word] 92)
  have B2 := Lib.hid b2
  have hb : (pan == pan) = true := by simp
  clear b1 b2
  go_enter Try.func39, Try.ntmps39
  go_wp2_with fail
  go_ret
  exact ⟨rfl, B2.out⟩
end Go.Proofs.Ytnkababhgloclaa
