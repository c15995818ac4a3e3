/- A step of the script that both registries do: a mark, a freeze, a telling. -/
import Derived.Test.YtpafbnmncioppaaPToldC
import Derived.Test.YtpafbnmncioppaaPPairC
namespace Go.Proofs.Ytpafbnmncioppaa
open Go.RowKit Go.ChangeShapes Nm
/-- A block's cells, as they were laid. -/
theorem box_at {w w' : World} {cs : Array Value} {t : Nat} (hb : w'.heap[w.heap.size]? = (w.alloc (.cells cs t)).heap[w.heap.size]?) (j : Nat) {u : Value} (hu : cs[j]? = some u) : w'.cell? ⟨w.heap.size, j, none⟩ = some u :=
  (cell_of_row w' w.heap.size j cs t (0, 0) (hb.trans (heap_alloc_new w _))).trans hu
theorem few_i {cs : List Cd} (h : FewC cs) : ∀ i (h : i < cs.length), cs[i].comp.length ≤ maxLen := fun i hi => by
  have := h _ (List.getElem_mem hi)
  unfold maxLen
  omega
theorem RReg.grown {T : Nat → Prop} {w w' : World} {B m b : Nat} {cs rs cs' rs' : List Cd} {ns ns' : List Nt} {fz fz' : Bool} {T' : Nat → Prop} (h : RReg T w B m cs rs ns fz) (h' : RegN T' w B b cs' rs' ns' fz') (hg : w.grownBy w' (some b)) : RReg T w' B m cs rs ns fz :=
  h.still fun k C t hC _ ht => hg.block k (Array.getElem?_eq_some_iff.1 hC).1 (by
    intro e
    cases e
    obtain ⟨⟨C', h1⟩, _⟩ := h'.at
    rw [h1] at hC
    cases hC
    rcases ht with ht | ht | ht | ht <;> exact absurd ht (by decide))
set_option maxHeartbeats 8000000 in
set_option maxRecDepth 100000 in
theorem step_mark (T : Nat → Prop) (W : World) (B b m : Nat) (cs rs : List Cd) (ns : List Nt) (fz : Bool) (n f q p : ByteArray) (who l s e i sm : Int) (sl : Value) (w : World) (hp : PairS T w B b m cs rs ns fz) (hBW : B = W.heap.size) (hW : Below B W w) :
    Calls Try.prog 25 #[.pointer (some ⟨b, 0, none⟩), .pointer (some ⟨m, 0, none⟩), .agg #[.int .i64 who, .int .i64 1, .string n, .string f, .int .u8 l, sl, .int .i8 s, .string q, .int .i16 e, .string p, .int .i64 i, .int .i64 sm]] w (Stepped T w B b m) := by
  have hB := Lib.hid (show B ≤ w.heap.size from Nat.le_trans (Nat.le_of_eq hBW) hW.size)
  have b1 : Below w.heap.size w (w.alloc (.cells #[.int .i64 who, .int .i64 1, .string n, .string f, .int .u8 l, sl, .int .i8 s, .string q, .int .i16 e, .string p, .int .i64 i, .int .i64 sm] 61)) := (Below.refl _ w).alloc (Nat.le_refl _) _
  have P0 := Lib.hid (hp.below b1)
  have HP := Lib.hid hp
  have B1 := Lib.hid b1
  have NB : Hid (w.heap.size ≠ b) := Lib.hid (by have := (hp.lt b hp.tb).2; omega)
  have AT : Hid (∀ w' : World, w'.heap[w.heap.size]? = (w.alloc (.cells #[.int .i64 who, .int .i64 1, .string n, .string f, .int .u8 l, sl, .int .i8 s, .string q, .int .i16 e, .string p, .int .i64 i, .int .i64 sm] 61)).heap[w.heap.size]? → w'.cell? ⟨w.heap.size, 9, none⟩ = some (.string p) ∧ w'.cell? ⟨w.heap.size, 10, none⟩ = some (.int .i64 i) ∧ w'.cell? ⟨w.heap.size, 11, none⟩ = some (.int .i64 sm)) := Lib.hid (fun w' h => ⟨box_at h 9 rfl, box_at h 10 rfl, box_at h 11 rfl⟩)
  have C1 := Lib.hid (mark_any T b B cs rs ns fz p i sm _ P0.out.reg)
  clear hp b1 hBW hW
  go_enter Try.func25, Try.ntmps25
  go_wp2_with fail
  refine C1.out.mono ?_
  rintro er w1 ⟨rfl, hr, hg⟩
  obtain ⟨a9, a10, a11⟩ := AT.out w1 (hg.block _ (by simp) (fun e => NB.out (by simpa using e)))
  have hr0 := P0.out.reg.at.2.2.2
  have C2 := rmark_any T B m cs rs ns fz p i sm w1 (P0.out.ref.grown P0.out.reg hg) (Nat.le_trans hB.out (Nat.le_trans B1.out.size hg.size)) hr0 hr.at.2.1
  obtain ⟨x, hx⟩ : ∃ x, markA ns fz p i = x := ⟨_, rfl⟩
  rw [hx] at C2 ⊢
  have C2 := Lib.hid C2
  have R1 := Lib.hid hr
  have G1 := Lib.hid hg
  clear hr hg hx C1
  have dx : decide (x = x) = true := by simp
  go_wp2_with fail
  refine C2.out.mono ?_
  rintro er w2 hd
  have D := Lib.hid hd
  obtain ⟨rfl, _⟩ := hd
  go_wp2_with fail
  go_ret
  exact ⟨rfl, HP.out.step hB.out ((Kept.below B1.out).trans (Kept.grown G1.out HP.out.tb)) R1.out (fun _ h => h) (fun _ h => .inl h) D.out HP.out.mc HP.out.mr⟩
set_option maxHeartbeats 8000000 in
set_option maxRecDepth 100000 in
theorem step_end (T : Nat → Prop) (W : World) (B b m : Nat) (cs rs : List Cd) (ns : List Nt) (fz : Bool) (n f q p : ByteArray) (who l s e i sm : Int) (sl : Value) (w : World) (hp : PairS T w B b m cs rs ns fz) (hBW : B = W.heap.size) (hW : Below B W w) :
    Calls Try.prog 25 #[.pointer (some ⟨b, 0, none⟩), .pointer (some ⟨m, 0, none⟩), .agg #[.int .i64 who, .int .i64 2, .string n, .string f, .int .u8 l, sl, .int .i8 s, .string q, .int .i16 e, .string p, .int .i64 i, .int .i64 sm]] w (Stepped T w B b m) := by
  have hB := Lib.hid (show B ≤ w.heap.size from Nat.le_trans (Nat.le_of_eq hBW) hW.size)
  have b1 : Below w.heap.size w (w.alloc (.cells #[.int .i64 who, .int .i64 2, .string n, .string f, .int .u8 l, sl, .int .i8 s, .string q, .int .i16 e, .string p, .int .i64 i, .int .i64 sm] 61)) := (Below.refl _ w).alloc (Nat.le_refl _) _
  have P0 := Lib.hid (hp.below b1)
  have HP := Lib.hid hp
  have B1 := Lib.hid b1
  have C1 := Lib.hid (@freeze_any (NE ns T) b B cs rs fz _ P0.out.reg)
  clear hp b1 hBW hW
  go_enter Try.func25, Try.ntmps25
  go_wp2_with fail
  refine C1.out.mono ?_
  rintro er w1 ⟨rfl, hr, hg⟩
  have C2 := rfreeze_any T B m cs rs ns fz w1 (P0.out.ref.grown P0.out.reg hg)
  obtain ⟨x, hx⟩ : ∃ x : Int, (if fz then 5 else 0) = x := ⟨_, rfl⟩
  rw [hx] at C2 ⊢
  have C2 := Lib.hid C2
  have R1 : Hid (RegN T w1 B b cs rs ns true) := Lib.hid hr
  have G1 := Lib.hid hg
  clear hr hg hx C1
  have dx : decide (x = x) = true := by simp
  go_wp2_with fail
  refine C2.out.mono ?_
  rintro er w2 hd
  have D := Lib.hid hd
  obtain ⟨rfl, _⟩ := hd
  go_wp2_with fail
  go_ret
  exact ⟨rfl, HP.out.step hB.out ((Kept.below B1.out).trans (Kept.grown G1.out HP.out.tb)) R1.out (fun _ h => h) (fun _ h => .inl h) D.out HP.out.mc HP.out.mr⟩
set_option maxHeartbeats 8000000 in
set_option maxRecDepth 100000 in
theorem step_tell (T : Nat → Prop) (W : World) (B b m : Nat) (cs rs : List Cd) (ns : List Nt) (fz : Bool) (n f q p : ByteArray) (who l s e i sm : Int) (sl : Value) (w : World) (hp : PairS T w B b m cs rs ns fz) (hBW : B = W.heap.size) (hW : Below B W w) :
    Calls Try.prog 25 #[.pointer (some ⟨b, 0, none⟩), .pointer (some ⟨m, 0, none⟩), .agg #[.int .i64 who, .int .i64 3, .string n, .string f, .int .u8 l, sl, .int .i8 s, .string q, .int .i16 e, .string p, .int .i64 i, .int .i64 sm]] w (Stepped T w B b m) := by
  have hB := Lib.hid (show B ≤ w.heap.size from Nat.le_trans (Nat.le_of_eq hBW) hW.size)
  have b1 : Below w.heap.size w (w.alloc (.cells #[.int .i64 who, .int .i64 3, .string n, .string f, .int .u8 l, sl, .int .i8 s, .string q, .int .i16 e, .string p, .int .i64 i, .int .i64 sm] 61)) := (Below.refl _ w).alloc (Nat.le_refl _) _
  have P0 := Lib.hid (hp.below b1)
  have B1 := Lib.hid b1
  have h4 := P0.out.reg.at
  have C1 := Lib.hid (told_any T T B b m cs rs ns fz _ P0.out.reg P0.out.ref (Nat.le_trans hB.out b1.size) h4.2.2.2 h4.2.1 h4.2.2.1 hp.mc hp.mr)
  clear hp b1 hBW hW h4
  go_enter Try.func25, Try.ntmps25
  go_wp2_with fail
  refine C1.out.mono ?_
  rintro er w1 ⟨rfl, hb⟩
  have HB := Lib.hid hb
  clear hb
  go_wp2_with fail
  go_ret
  exact ⟨rfl, T, cs, rs, ns, fz, P0.out.below HB.out, fun _ h => .inl h, (Kept.below B1.out).trans (Kept.below HB.out)⟩
end Go.Proofs.Ytpafbnmncioppaa
