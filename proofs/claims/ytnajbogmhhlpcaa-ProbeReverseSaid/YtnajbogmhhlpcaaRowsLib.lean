/- Small laws on arrays in variables: a whole array loaded, stored, compared. -/
import Derived.WalkKit
import Derived.WalkLawsBesides
import Derived.WalkSpells
import Derived.Laws.Rows
import Derived.Below
import Derived.Deep.RegionLaw
namespace Go.Proofs.Ytnajbogmhhlpcaa
open Go.RowKit

theorem cell_one_at (w : World) (x : Value) (t : TypeId) (B : Nat) (hB : B = w.heap.size) : ∀ (j : Nat) (u : Value), [x][j]? = some u → (w.alloc (.cells #[x] t)).cell? ((⟨B, 0, none⟩ : Addr).add j) = some u := by
  subst hB; exact cell_one_new w x t
theorem setRow_alloc (w : World) (old cs : Array Value) (t : TypeId) (fr : Nat × Nat) : (w.alloc (.cells old t fr)).setRow w.heap.size cs = w.alloc (.cells cs t fr) := by
  have : (w.heap.push (.cells old t fr)).modify w.heap.size (fun | .cells _ elem frozen => .cells cs elem frozen | o => o) = w.heap.push (.cells cs t fr) := by
    apply Array.ext
    · simp
    · intro k h1 h2
      simp only [Array.getElem_modify, Array.getElem_push]
      simp at h1
      by_cases hk : k < w.heap.size
      · simp [hk, show w.heap.size ≠ k by omega]
      · simp [show k = w.heap.size by omega]
  show ({ w with heap := _ } : World) = { w with heap := _ }
  congr 1
theorem size_alloc (w : World) (o : Obj) : (w.alloc o).heap.size = w.heap.size + 1 := by
  show (w.heap.push o).size = _
  simp
theorem setRow_alloc2 (w : World) (A : Obj) (old cs : Array Value) (t : TypeId) (fr : Nat × Nat) : ((w.alloc A).alloc (.cells old t fr)).setRow (w.heap.size + 1) cs = (w.alloc A).alloc (.cells cs t fr) := by
  have := setRow_alloc (w.alloc A) old cs t fr
  rwa [size_alloc] at this
theorem below_setRow {B : Nat} {a w : World} (h : Below B a w) (g : Nat) (hg : B ≤ g) (cs : Array Value) : Below B a (w.setRow g cs) := by
  refine h.trans ⟨rfl, rfl, rfl, by simp [World.setRow], fun k hk => ?_⟩
  simp only [World.setRow, Array.getElem?_modify]
  rw [if_neg (by omega)]

/-- A pointer to a variable that holds just these cells. -/
def RowAt (w : World) (v : Value) (cs : Array Value) : Prop := ∃ g t fr, v = .pointer (some ⟨g, 0, none⟩) ∧ w.heap[g]? = some (.cells cs t fr)
theorem RowAt.block {w w' : World} {v : Value} {cs : Array Value} (h : RowAt w v cs) (hb : Below w.heap.size w w') : RowAt w' v cs := by
  obtain ⟨g, t, fr, rfl, hg⟩ := h
  exact ⟨g, t, fr, rfl, (hb.block g (Array.getElem?_eq_some_iff.1 hg).1).trans hg⟩
theorem RowAt.alloc {w : World} {v : Value} {cs : Array Value} (h : RowAt w v cs) (o : Obj) : RowAt (w.alloc o) v cs := h.block ((Below.refl _ _).alloc (Nat.le_refl _) o)
theorem RowAt.drew {w : World} {v : Value} {cs : Array Value} (h : RowAt w v cs) : RowAt w.drew v cs := h.block (Below.refl _ _).drew
theorem RowAt.drewN {w : World} {v : Value} {cs : Array Value} (h : RowAt w v cs) (n : Nat) : RowAt (w.drewN n) v cs := h.block (below_drewN (Below.refl _ _) n)
theorem RowAt.cell {w : World} {g : Nat} {cs : Array Value} (h : RowAt w (.pointer (some ⟨g, 0, none⟩)) cs) (k : Nat) : w.cell? ⟨g, k, none⟩ = cs[k]? := by
  obtain ⟨g', t, fr, hv, hg⟩ := h
  simp only [Value.pointer.injEq, Option.some.injEq, Addr.mk.injEq, and_true] at hv
  obtain rfl := hv
  exact cell_of_row w g k cs t fr hg
theorem wp_load_rowAt {P : Program} {o : Oper} {a : Act} {w : World} {K : Act → World → Prop} {Q : Exit → Act → World → Prop} (ty : TypeId) (x : Operand) (ho : o.op = .load ty x)
    (cs : Array Value) (d : TypeDesc) (hx : RowAt w (a.eval x) cs)
    (hu : P.underlying ty = some d) (hd : (match d with | .struct _ | .array _ _ => true | _ => false) = true) (hi : (P.info? ty).map (·.size) = some cs.size) :
    o.wp P a w K Q = K (a.put o.dst (.agg cs)) w := by
  obtain ⟨g, t, fr, hv, hg⟩ := hx
  unfold Oper.wp execOp
  simp only [ho, hv, Instr.loadAt, Instr.sureAddr, Sem.run_bind, Sem.run_pure, Result.andThen_ok, run_loadVar_row w g t ty cs fr d hg hu hd hi]
  rfl

/-- A whole array loaded, as one step of a region that draws its order. -/
theorem step_load_rowAt {P : Program} {ops : Array Oper} {o : Oper} {a : Act} {w : World} {K : Act → World → Prop} {Q : Exit → Act → World → Prop} {E : Prop} (hg : o.guard = none) (ty : TypeId) (x : Operand) (ho : o.op = .load ty x)
    (cs : Array Value) (d : TypeDesc) (hx : RowAt w (a.eval x) cs)
    (hu : P.underlying ty = some d) (hd : (match d with | .struct _ | .array _ _ => true | _ => false) = true) (hi : (P.info? ty).map (·.size) = some cs.size)
    (hK : K (a.put o.dst (.agg cs)) w) : if Region.wanted o (yielded ops a.tmps) = true then Oper.wp P o a w K Q else E := by
  have hw : Region.wanted o (yielded ops a.tmps) = true := by simp [Region.wanted, hg]
  rw [if_pos hw, wp_load_rowAt ty x ho cs d hx hu hd hi]
  exact hK
end Go.Proofs.Ytnajbogmhhlpcaa
