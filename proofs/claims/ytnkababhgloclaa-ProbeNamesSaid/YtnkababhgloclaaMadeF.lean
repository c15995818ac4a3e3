/- Rows of fates that make() lays, and a call that reads them. -/
import Derived.Test.YtnkababhgloclaaFateC
import Derived.Laws.OwnMore
namespace Go.Proofs.Ytnkababhgloclaa
open Go.RowKit Go.ChangeShapes
theorem infoF : (Try.prog.info? 67).map (fun i => (i.zero, i.size, i.bytes)) = some (some (.agg #[.int .i64 0, .int .u8 0, .int .u8 0]), 3, 16) := by kernel_rfl
def zeroF (n : Nat) : Array Value := madeCells #[.int .i64 0, .int .u8 0, .int .u8 0] (n * 3)
theorem make_fates (n : Nat) (hn : n ≤ 1000) (w : World) : (Instr.makeSlice 52 (.int .i64 n) (.int .i64 n)).run Try.prog w = .ok (.slice (some ⟨w.heap.size, 0, none⟩) n n) (w.alloc (.cells (zeroF n) 67)) := by
  obtain ⟨i, hi, h1, h2, h3⟩ := info_parts infoF
  have := run_make (P := Try.prog) w 52 67 i _ (by kernel_rfl) hi h1 .i64 .i64 n n (by omega) (by omega) (by rw [h3]; omega) (by omega)
  rw [h2] at this
  simp only [Int.toNat_natCast] at this
  exact this
theorem wp_make_fates {o : Oper} {ac : Act} {w : World} {K : Act → World → Prop} {Q : Exit → Act → World → Prop} (n : Nat) (hn : n ≤ 1000) (ho : o.op = .makeSlice 52 (.const (.int .i64 n)) (.const (.int .i64 n)))
    (h : K (ac.put o.dst (.slice (some ⟨w.heap.size, 0, none⟩) n n)) (w.alloc (.cells (zeroF n) 67))) : o.wp Try.prog ac w K Q := by
  unfold Oper.wp execOp
  have e : ∀ v, ac.eval (.const v) = v := fun _ => rfl
  simp only [ho, Sem.run_bind, e, make_fates n hn, Result.andThen_ok]
  exact h
theorem made_fates (n : Nat) {w : World} {b : Nat} (h : w.heap[b]? = some (.cells (zeroF n) 67 (0, 0))) : FatesAt w (.slice (some ⟨b, 0, none⟩) n n) (List.replicate n ⟨0, 0, 0⟩) := by
  refine ⟨some ⟨b, 0, none⟩, n, by simp, by simp, fun i hi => ⟨b, 0, rfl, fun j u hu => ?_⟩⟩
  have hin : i < n := by simpa using hi
  have hc : ((List.replicate n (⟨0, 0, 0⟩ : Ft))[i]).cells = [.int .i64 0, .int .u8 0, .int .u8 0] := by rw [List.getElem_replicate]; rfl
  rw [hc] at hu
  have h3 : j < 3 := by have := (List.getElem?_eq_some_iff.1 hu).1; simpa using this
  rw [cell_of_row w b _ _ _ _ h, Nat.zero_add]
  have hlt : i * 3 + j < n * 3 := by omega
  have hm : (i * 3 + j) % 3 = j := by omega
  have hg : (zeroF n)[i * 3 + j]? = some ((#[.int .i64 0, .int .u8 0, .int .u8 0] : Array Value)[(i * 3 + j) % (#[.int .i64 0, .int .u8 0, .int .u8 0] : Array Value).size]!) := by
    unfold zeroF madeCells
    rw [Array.getElem?_map, Array.getElem?_range]
    simp [hlt]
  rw [hg]
  have hz : (#[.int .i64 0, .int .u8 0, .int .u8 0] : Array Value).size = 3 := rfl
  rw [hz, hm]
  rcases j with _ | _ | _ | j
  · simpa using hu
  · simpa using hu
  · simpa using hu
  · omega
end Go.Proofs.Ytnkababhgloclaa
