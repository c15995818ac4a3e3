/- A new registry: card.New. -/
import Derived.Test.YtpafbnmncioppaaNameC
import Derived.Below
import Derived.Laws.Tables
import Derived.Laws.Rows
import Derived.Lib.Hide
namespace Go.Proofs.Ytpafbnmncioppaa
open Go.RowKit
/-- The cells of an empty registry. -/
noncomputable def zr : Array Value := (Try.prog.built 84 []).getD #[]
theorem zr_built : Try.prog.built 84 [] = some zr := by kernel_rfl
theorem zr_size : zr.size = 1924 := by kernel_rfl
theorem zr_n : zr[1920]? = some (.int .i64 0) ∧ zr[1921]? = some (.int .i64 0) ∧ zr[1922]? = some (.int .i64 0) ∧ zr[1923]? = some (.bool false) := ⟨by kernel_rfl, by kernel_rfl, by kernel_rfl, by kernel_rfl⟩
theorem run_build_reg (w : World) : (Instr.build 84 #[]).run Try.prog w = .ok (.agg zr) w := run_build w 84 #[] zr zr_built
set_option maxHeartbeats 1000000 in
set_option maxRecDepth 100000 in
theorem new_any (w : World) : Calls Try.prog 24 #[] w fun e w' => e = .returned (.pointer (some ⟨w.heap.size, 0, none⟩)) ∧ w' = w.alloc (.cells zr 84 (0, 0)) := by
  have hb := run_build_reg
  have hz : ∀ w : World, Sem.run Try.prog (zeroValue 84) w = .ok (.agg zr) w := fun w => by kernel_rfl
  go_enter Try.func24, Try.ntmps24
  go_wp2_with fail
  go_ret
  exact ⟨rfl, rfl⟩
end Go.Proofs.Ytpafbnmncioppaa
