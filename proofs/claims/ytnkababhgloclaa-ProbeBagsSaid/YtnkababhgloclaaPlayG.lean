/- ProbeBags: a step of the play, kind by kind. (Printed by tools/genplayg.py.) -/
import Derived.Test.YtnkababhgloclaaPlayF
namespace Go.Proofs.Ytnkababhgloclaa
open Go.RowKit Go.ChangeShapes
theorem ss_cells {x : World} {q b m p3 N0 : Nat} {c f : List Int} {kind code pan sid : Int} {name word : ByteArray} (h : PlayI x q b m N0 c f) (h3 : x.heap[p3]? = some (.cells #[.int .i64 kind, .string name, .int .i64 code, .int .i64 pan, .string word, .int .i64 sid] 36 (0, 0))) :
    x.cell? ⟨q, 0, none⟩ = some (.pointer (some ⟨b, 0, none⟩)) ∧ x.cell? ⟨q, 1, none⟩ = some (.pointer (some ⟨m, 0, none⟩)) ∧ x.cell? ⟨p3, 0, none⟩ = some (.int .i64 kind) ∧ x.cell? ⟨p3, 1, none⟩ = some (.string name) ∧ x.cell? ⟨p3, 2, none⟩ = some (.int .i64 code) ∧ x.cell? ⟨p3, 3, none⟩ = some (.int .i64 pan) ∧ x.cell? ⟨p3, 4, none⟩ = some (.string word) ∧ x.cell? ⟨p3, 5, none⟩ = some (.int .i64 sid) := by
  obtain ⟨_, _, _, _, e0, e1, _⟩ := h.cells
  exact ⟨e0, e1, (cell_of_row x p3 0 _ _ _ h3).trans rfl, (cell_of_row x p3 1 _ _ _ h3).trans rfl, (cell_of_row x p3 2 _ _ _ h3).trans rfl, (cell_of_row x p3 3 _ _ _ h3).trans rfl, (cell_of_row x p3 4 _ _ _ h3).trans rfl, (cell_of_row x p3 5 _ _ _ h3).trans rfl⟩
theorem andR {p q : Prop} {a b c d e f g : Prop} (h : a ∧ b ∧ c ∧ d ∧ e ∧ f ∧ g ∧ p) (hq : q) : a ∧ b ∧ c ∧ d ∧ e ∧ f ∧ g ∧ p ∧ q := ⟨h.1, h.2.1, h.2.2.1, h.2.2.2.1, h.2.2.2.2.1, h.2.2.2.2.2.1, h.2.2.2.2.2.2.1, h.2.2.2.2.2.2.2, hq⟩
theorem RBagAt.m1 {x : World} {B m : Nat} {LR : List RT} {last : Int} {closed : Bool} (h : RBagAt x B m LR last closed) : x.cell? ⟨m, 1, none⟩ = some (.int .i64 last) := by
  obtain ⟨_, _, _, c1, _⟩ := h.cells
  exact c1
theorem PlayI.q1 {x : World} {q b m N0 : Nat} {c f : List Int} (h : PlayI x q b m N0 c f) : x.cell? ⟨q, 1, none⟩ = some (.pointer (some ⟨m, 0, none⟩)) := by
  obtain ⟨_, _, _, _, _, e1, _⟩ := h.cells
  exact e1
theorem there5 {w : World} {p t : Nat} {C : Array Value} (h : w.heap[p]? = some (.cells C t (0, 0))) (hC : C.size = 5) : w.there p 0 5 := fun j hj => ⟨by
  rw [cell_of_row _ _ _ _ _ _ h]
  exact Option.isSome_iff_exists.2 ⟨_, Array.getElem?_eq_getElem (by omega)⟩, frozen_of_row _ _ _ _ _ h⟩
theorem layRs {w : World} {p : Nat} {C : Array Value} (h : w.heap[p]? = some (.cells C 83 (0, 0))) (hC : C.size = 5) (id : Int) (name : ByteArray) (bh : Beh) : (w.setCells p 0 (rcells id name bh)).heap[p]? = some (.cells (rcells id name bh).toArray 83 (0, 0)) := by
  obtain ⟨l⟩ := C
  match l, hC with
  | [c0, c1, c2, c3, c4], _ =>
    rw [heap_setCells_same (rcells id name bh) w 0 _ h]
    simp [layA, rcells]
theorem stepH_store {P : Program} {ops : Array Oper} {op : Oper} {a : Act} {w : World} {K : Act → World → Prop} {Q : Exit → Act → World → Prop} {X : Prop} (hgd : op.guard = none) (ty : TypeId) (x y : Operand) (ho : op.op = .store ty x y)
    (b o : Nat) (cs : List Value) (hx : a.eval x = .pointer (some ⟨b, o, none⟩)) (hy : a.eval y = .agg cs.toArray) (ht : w.there b o cs.length) (hi : (P.info? ty).map (·.size) = some cs.length) (h1 : ∀ v ∈ cs, v.oneCell' = true)
    (h : K (a.put op.dst undef) (w.setCells b o cs)) : if Region.wanted op (yielded ops a.tmps) = true then Oper.wp P op a w K Q else X := by
  have hw : Region.wanted op (yielded ops a.tmps) = true := by simp [Region.wanted, hgd]
  rw [if_pos hw]
  exact wp_store_mid ty x y ho b o cs.toArray hx hy (by simpa using ht) (by simpa using hi) (all_oneCell_toArray h1) (by simpa using h)
theorem step_OR {x x' : World} {B p3 : Nat} {C : Array Value} (h3 : x.heap[p3]? = some (.cells C 36 (0, 0))) (hr : Rel B OR x x') : x'.heap[p3]? = some (.cells C 36 (0, 0)) := hr.block h3 (fun _ => OR_not (by decide) _ _ _)
/-- Between the program's Undo and the document's. -/
structure UMid (w1 : World) (B q b m : Nat) (last : Int) (ct : Nat) (C3 : Array Value) (p3 : Nat) (id : Int) (p10 : Nat) (r : Rs) (y : Int) (cs fs : List Int) (x1 wx : World) : Prop where
  T : ∃ N, Rel B (TY N) w1 x1
  O : Rel B OR x1 wx
  I : ∃ N0, PlayI x1 q b m N0 cs fs
  S : x1.heap[p3]? = some (.cells C3 36 (0, 0))
  R : wx.heap[p10]? = some (.cells (rcells r.id r.name r.bh).toArray 83 (0, 0))
  C : y ≠ 0 ∧ r = rzero ∧ cs = [] ∧ fs = [] ∨ y = 0 ∧ cs = [r.id] ∧ fs = [(ct : Int) - 1]
  RB : ∃ LR lr cr, RBagAt x1 B m LR lr cr
  K : ∀ w2, Rel B OR x1 w2 → Calls Try.prog 38 #[.pointer (some ⟨m, 0, none⟩), .int .i64 id] w2 fun e w3 => ∃ t : RT, (∀ p, p < w2.heap.size → RowNe w2 m p → RowNe w3 m p) ∧ e = .returned (.tuple #[.agg t.cells.toArray, .int .i64 y]) ∧ (y = 0 → t = toR r) ∧ Rel B (SM m) w2 w3 ∧ Snd w2 B q b m last cs fs w3
theorem UMid.keep {w1 : World} {B q b m : Nat} {last : Int} {ct p3 p10 : Nat} {sid : Int} {r : Rs} {y : Int} {cs fs : List Int} {x1 wx : World} {kind code pan id : Int} {name word : ByteArray} (h : UMid w1 B q b m last ct #[.int .i64 kind, .string name, .int .i64 code, .int .i64 pan, .string word, .int .i64 sid] p3 id p10 r y cs fs x1 wx) :
    wx.cell? ⟨q, 0, none⟩ = some (.pointer (some ⟨b, 0, none⟩)) ∧ wx.cell? ⟨q, 1, none⟩ = some (.pointer (some ⟨m, 0, none⟩)) ∧ wx.cell? ⟨p3, 0, none⟩ = some (.int .i64 kind) ∧ wx.cell? ⟨p3, 1, none⟩ = some (.string name) ∧ wx.cell? ⟨p3, 2, none⟩ = some (.int .i64 code) ∧ wx.cell? ⟨p3, 3, none⟩ = some (.int .i64 pan) ∧ wx.cell? ⟨p3, 4, none⟩ = some (.string word) ∧ wx.cell? ⟨p3, 5, none⟩ = some (.int .i64 sid) := by
  obtain ⟨N0, hI⟩ := h.I
  exact ss_cells (play_OR hI h.O) (step_OR h.S h.O)
theorem step_TY {x x' : World} {B N p3 : Nat} {C : Array Value} (h3 : x.heap[p3]? = some (.cells C 36 (0, 0))) (hr : Rel B (TY N) x x') : x'.heap[p3]? = some (.cells C 36 (0, 0)) := hr.block h3 (fun _ => TY_not (by decide) (.inr (by decide)))
theorem step_SD {x x' : World} {B m p3 : Nat} {C : Array Value} (h3 : x.heap[p3]? = some (.cells C 36 (0, 0))) (hr : Rel B (SD m) x x') : x'.heap[p3]? = some (.cells C 36 (0, 0)) := hr.block h3 (fun _ => SD_no (by decide) (by decide) _ _ _)
theorem mades (n : Nat) : (madeCells #[Value.int .i64 0] (n * 1)).toList = ic (List.replicate n 0) := by
  unfold madeCells ic
  rw [Nat.mul_one]
  apply List.ext_getElem
  · simp
  · intro i h1 h2
    simp [Nat.mod_one]
theorem make_ints (x : World) (n : Nat) (hn : n ≤ 256) : ∃ x', (Instr.makeSlice 30 (.int .i64 (n : Int)) (.int .i64 (n : Int))).run Try.prog x = .ok (.slice (some ⟨x.heap.size, 0, none⟩) n n) x' ∧ x'.ownsRow x.heap.size 3 1 (.slice (some ⟨x.heap.size, 0, none⟩) n n) n (ic (List.replicate n 0)) ∧ Below x.heap.size x x' := by
  obtain ⟨i0, hi, hz0, hz1, hz2⟩ := info_parts infoI
  obtain ⟨x', h1, h2, h3⟩ := run_makeSlice_full (P := Try.prog) (w := x) x.heap.size 30 3 i0 (.int .i64 0) 1 Try.underlying30 hi hz0 hz1 .i64 .i64 n (by omega) (by rw [hz2]; omega) (by unfold maxLen; omega) (Nat.le_refl _)
  rw [show (Value.int .i64 0).cells = #[Value.int .i64 0] from rfl, mades] at h2
  exact ⟨x', h1, h2, ⟨h3.os, h3.tape, h3.output, h3.size, fun k hk => h3.block k hk (by simp)⟩⟩
end Go.Proofs.Ytnkababhgloclaa
