/- A thing's function is called, whatever comes: the bag's call, its deferred closure. -/
import Derived.Test.YtnkababhgloclaaDelB
import Derived.Recover
import Derived.Deep.DeepCutAuto
import Derived.Deep.CutBlock
namespace Go.Proofs.Ytnkababhgloclaa
open Go.RowKit Go.ChangeShapes
/-- What a thing's function came to: it answered, or panicked with a text, or with a number. -/
inductive Beh where
  | ret (code : Int)
  | str (s : ByteArray)
  | num (n : Int)
def panV : Beh → Value
  | .str s => .iface 9 (.string s)
  | .num n => .iface 3 (.int .i64 n)
  | .ret _ => .nilIface
def Beh.ending : Beh → Ending
  | .ret c => .returned (.int .i64 c)
  | .str s => .panicked [{ v := .iface 9 (.string s), recovered := false }]
  | .num n => .panicked [{ v := .iface 3 (.int .i64 n), recovered := false }]
def Beh.code : Beh → Int
  | .ret c => c
  | _ => 0
def Beh.pan : Beh → Bool
  | .ret _ => false
  | _ => true
def Beh.word : Beh → ByteArray
  | .str s => s
  | _ => .empty
/-- A Result's cells. -/
def rcells (id : Int) (name : ByteArray) (bh : Beh) : List Value := [.int .i64 id, .string name, .int .i64 bh.code, .bool bh.pan, .string bh.word]
theorem ta_str (s : ByteArray) (w : World) : (Instr.typeAssert (.iface 9 (.string s)) 20 9 true).run Try.prog w = .ok (.tuple #[.string s, .bool true]) w := by kernel_rfl
theorem ta_num (n : Int) (w : World) : (Instr.typeAssert (.iface 3 (.int .i64 n)) 20 9 true).run Try.prog w = .ok (.tuple #[.string .empty, .bool false]) w := by kernel_rfl
theorem catch_idle (p1 p3 b : Nat) (x : Bool) (w : World) (h1 : w.cell? ⟨p1, 0, none⟩ = some (.pointer (some ⟨b, 0, none⟩))) (h2 : w.cell? ⟨b, 2, none⟩ = some (.bool x)) (h3 : w.frozen? ⟨b, 2, none⟩ = false) :
    CallsD Try.prog 71 #[.pointer (some ⟨p1, 0, none⟩), .pointer (some ⟨p3, 0, none⟩)] .returning w fun e u' w' => e = .returned (.tuple #[]) ∧ u' = .returning ∧ w' = w.setCell ⟨b, 2, none⟩ (.bool false) := by
  refine callsD_of_wpS Try.func71 rfl fun c₀ cs hu => ?_
  apply wpS_seq
  apply wpS_region
  simp [wpOpsS, go_sem, recoverD, hu, Try.ntmps71, Exit.thenS, h1, h2, h3]
  apply wpS_seq
  apply wpS_region
  simp [wpOpsS, go_sem, recoverD, hu, Try.ntmps71, Exit.thenS]
  apply wpS_seq
  apply wpS_region
  simp [wpOpsS, go_sem, recoverD, hu, Try.ntmps71, Exit.thenS]
  refine wpS_cond (t := false) (by simp [Act.eval, Array.replicate]) ?_
  simp only [Bool.false_eq_true, if_false]
  refine wpS_of_wp (wp_skip ?_)
  cases c₀
  simp_all [bodyPostS, results, Try.results71]
theorem catch_str (p1 p3 b : Nat) (x y : Bool) (s s0 : ByteArray) (w : World) (h1 : w.cell? ⟨p1, 0, none⟩ = some (.pointer (some ⟨b, 0, none⟩))) (h2 : w.cell? ⟨b, 2, none⟩ = some (.bool x)) (h3 : w.frozen? ⟨b, 2, none⟩ = false)
    (h4 : w.cell? ⟨p3, 3, none⟩ = some (.bool y)) (h5 : w.frozen? ⟨p3, 3, none⟩ = false) (h6 : w.cell? ⟨p3, 4, none⟩ = some (.string s0)) (h7 : w.frozen? ⟨p3, 4, none⟩ = false) (hb : b ≠ p3) :
    CallsD Try.prog 71 #[.pointer (some ⟨p1, 0, none⟩), .pointer (some ⟨p3, 0, none⟩)] (.panicking [{ v := .iface 9 (.string s), recovered := false }]) w fun e u' w' => e = .returned (.tuple #[]) ∧ u' = .panicking [{ v := .iface 9 (.string s), recovered := true }] ∧ w' = ((w.setCell ⟨b, 2, none⟩ (.bool false)).setCell ⟨p3, 3, none⟩ (.bool true)).setCell ⟨p3, 4, none⟩ (.string s) := by
  refine callsD_of_wpS Try.func71 rfl fun c₀ cs hu => ?_
  apply wpS_seq
  apply wpS_region
  simp [wpOpsS, go_sem, recoverD, hu, Try.ntmps71, Exit.thenS, h1, h2, h3]
  apply wpS_seq
  apply wpS_region
  simp [wpOpsS, go_sem, recoverD, hu, Try.ntmps71, Exit.thenS]
  apply wpS_seq
  apply wpS_region
  simp [wpOpsS, go_sem, recoverD, hu, Try.ntmps71, Exit.thenS]
  refine wpS_cond (t := true) (by simp [Act.eval, Array.replicate]) ?_
  simp only [if_true]
  apply wpS_seq
  apply wpS_region
  simp [wpOpsS, go_sem, Exit.thenS, h4, h5]
  refine wpS_of_wp ?_
  have k6 : ((w.setCell ⟨b, 2, none⟩ (.bool false)).setCell ⟨p3, 3, none⟩ (.bool true)).cell? ⟨p3, 4, none⟩ = some (.string s0) := by
    rw [World.cell?_setCell_other _ _ _ _ (by simp), World.cell?_setCell_other _ _ _ _ (by simp [hb])]
    exact h6
  have ta := ta_str
  have k7 : ((w.setCell ⟨b, 2, none⟩ (.bool false)).setCell ⟨p3, 3, none⟩ (.bool true)).frozen? ⟨p3, 4, none⟩ = false := by
    rw [World.frozen?_setCell, World.frozen?_setCell]
    exact h7
  generalize ((w.setCell ⟨b, 2, none⟩ (.bool false)).setCell ⟨p3, 3, none⟩ (.bool true)) = w2 at *
  go_wp2_with fail
  cases c₀
  simp_all [bodyPostS, results, Try.results71]
theorem catch_num (p1 p3 b : Nat) (x y : Bool) (n : Int) (s0 : ByteArray) (w : World) (h1 : w.cell? ⟨p1, 0, none⟩ = some (.pointer (some ⟨b, 0, none⟩))) (h2 : w.cell? ⟨b, 2, none⟩ = some (.bool x)) (h3 : w.frozen? ⟨b, 2, none⟩ = false)
    (h4 : w.cell? ⟨p3, 3, none⟩ = some (.bool y)) (h5 : w.frozen? ⟨p3, 3, none⟩ = false) (h6 : w.cell? ⟨p3, 4, none⟩ = some (.string s0)) (h7 : w.frozen? ⟨p3, 4, none⟩ = false) (hb : b ≠ p3) :
    CallsD Try.prog 71 #[.pointer (some ⟨p1, 0, none⟩), .pointer (some ⟨p3, 0, none⟩)] (.panicking [{ v := .iface 3 (.int .i64 n), recovered := false }]) w fun e u' w' => e = .returned (.tuple #[]) ∧ u' = .panicking [{ v := .iface 3 (.int .i64 n), recovered := true }] ∧ w' = ((w.setCell ⟨b, 2, none⟩ (.bool false)).setCell ⟨p3, 3, none⟩ (.bool true)).setCell ⟨p3, 4, none⟩ (.string .empty) := by
  refine callsD_of_wpS Try.func71 rfl fun c₀ cs hu => ?_
  apply wpS_seq
  apply wpS_region
  simp [wpOpsS, go_sem, recoverD, hu, Try.ntmps71, Exit.thenS, h1, h2, h3]
  apply wpS_seq
  apply wpS_region
  simp [wpOpsS, go_sem, recoverD, hu, Try.ntmps71, Exit.thenS]
  apply wpS_seq
  apply wpS_region
  simp [wpOpsS, go_sem, recoverD, hu, Try.ntmps71, Exit.thenS]
  refine wpS_cond (t := true) (by simp [Act.eval, Array.replicate]) ?_
  simp only [if_true]
  apply wpS_seq
  apply wpS_region
  simp [wpOpsS, go_sem, Exit.thenS, h4, h5]
  refine wpS_of_wp ?_
  have k6 : ((w.setCell ⟨b, 2, none⟩ (.bool false)).setCell ⟨p3, 3, none⟩ (.bool true)).cell? ⟨p3, 4, none⟩ = some (.string s0) := by
    rw [World.cell?_setCell_other _ _ _ _ (by simp), World.cell?_setCell_other _ _ _ _ (by simp [hb])]
    exact h6
  have ta := ta_num
  have k7 : ((w.setCell ⟨b, 2, none⟩ (.bool false)).setCell ⟨p3, 3, none⟩ (.bool true)).frozen? ⟨p3, 4, none⟩ = false := by
    rw [World.frozen?_setCell, World.frozen?_setCell]
    exact h7
  generalize ((w.setCell ⟨b, 2, none⟩ (.bool false)).setCell ⟨p3, 3, none⟩ (.bool true)) = w2 at *
  go_wp2_with fail
  cases c₀
  simp_all [bodyPostS, results, Try.results71]
theorem wpList_store_all {P : Program} {ops : Array Oper} {rest : List Oper} {op : Oper} {a : Act} {w : World} {Q : Exit → Act → World → Prop} (hgd : op.guard = none) (ty : TypeId) (x y : Operand) (ho : op.op = .store ty x y)
    (b o : Nat) (cs : List Value) (hx : a.eval x = .pointer (some ⟨b, o, none⟩)) (hy : a.eval y = .agg cs.toArray) (ht : w.there b o cs.length) (hi : (P.info? ty).map (·.size) = some cs.length) (h1 : ∀ v ∈ cs, v.oneCell' = true)
    (h : ∀ W4, Hid (W4 = w.setCells b o cs) → wpList P ops Q rest (a.put op.dst undef) W4) : wpList P ops Q (op :: rest) a w :=
  wpList_plain hgd fun _ hK => wp_store_mid ty x y ho b o cs.toArray hx hy (by simpa using ht) (by simpa using hi) (all_oneCell_toArray h1) (hK _ _ (h _ (Lib.hid rfl)))
theorem rcells_one (id : Int) (name : ByteArray) (bh : Beh) : ∀ v ∈ rcells id name bh, v.oneCell' = true := by
  intro v hv
  simp only [rcells, List.mem_cons, List.not_mem_nil, or_false] at hv
  rcases hv with rfl | rfl | rfl | rfl | rfl <;> rfl
/-- Cells laid into a block. -/
def layA (C : Array Value) : Nat → List Value → Array Value
  | _, [] => C
  | o, v :: r => layA (C.setIfInBounds o v) (o + 1) r
theorem heap_setCells_same {g t : Nat} : ∀ (vs : List Value) (w : World) (o : Nat) (C : Array Value), w.heap[g]? = some (.cells C t (0, 0)) → (w.setCells g o vs).heap[g]? = some (.cells (layA C o vs) t (0, 0))
  | [], _, _, _, h => h
  | v :: r, w, o, C, h => heap_setCells_same r _ (o + 1) _ (heap_setCell_same w g o C t v h)
theorem heap_setCells_far {g i : Nat} (hne : i ≠ g) : ∀ (vs : List Value) (w : World) (o : Nat), (w.setCells g o vs).heap[i]? = w.heap[i]?
  | [], _, _ => rfl
  | v :: r, w, o => (heap_setCells_far hne r _ (o + 1)).trans (Below.heap_setCell w _ _ i (by simpa using hne))
theorem rel_lay {S : Nat → Obj → Prop} {B g t : Nat} (hB : B ≤ g) (hs : ∀ C, S g (.cells C t (0, 0))) : ∀ (vs : List Value) (w : World) (o : Nat) (C : Array Value), w.heap[g]? = some (.cells C t (0, 0)) → Rel B S w (w.setCells g o vs)
  | [], w, _, _, _ => Rel.refl _ _ w
  | v :: r, w, o, C, h => (Rel.set (a := ⟨g, o, none⟩) hB h (hs C) v).trans (rel_lay hB hs r _ (o + 1) _ (heap_setCell_same w g o C t v h))
theorem ends {w : World} {p t : Nat} {id : Int} {name : ByteArray} {bh : Beh} (h : w.heap[p]? = some (.cells (rcells id name bh).toArray t (0, 0))) : w.cell? ⟨p, 0, none⟩ = some (.int .i64 id) ∧ w.cell? ⟨p, 1, none⟩ = some (.string name) ∧ w.cell? ⟨p, 2, none⟩ = some (.int .i64 bh.code) ∧ w.cell? ⟨p, 3, none⟩ = some (.bool bh.pan) ∧ w.cell? ⟨p, 4, none⟩ = some (.string bh.word) :=
  ⟨(cell_of_row w p 0 _ _ _ h).trans rfl, (cell_of_row w p 1 _ _ _ h).trans rfl, (cell_of_row w p 2 _ _ _ h).trans rfl, (cell_of_row w p 3 _ _ _ h).trans rfl, (cell_of_row w p 4 _ _ _ h).trans rfl⟩
theorem heap_alloc_old' (w : World) (o : Obj) {r : Nat} (h : r < w.heap.size) : (w.alloc o).heap[r]? = w.heap[r]? := by
  show (w.heap.push o)[r]? = _
  rw [Array.getElem?_push_lt h, Array.getElem?_eq_getElem h]
set_option maxHeartbeats 8000000 in
set_option maxRecDepth 100000 in
theorem call_any {w : World} {B b : Nat} {L : List Th} {last : Int} {closed : Bool} (h : BagAt w B b L last false closed) (hB : B ≤ w.heap.size) (id : Int) (name : ByteArray) (k : Nat) (c : Array Value) (he : ∀ w : World, (callFunc k c).run Try.prog w = .ok (.enter k c) w) (S : Nat → Obj → Prop) (J : World → Beh → World → Prop)
    (hs : ∀ q C z, ¬ S q (.cells C 24 z) ∧ ¬ S q (.cells C 101 z) ∧ ¬ S q (.cells C 83 z) ∧ ¬ S q (.cells C 89 z))
    (HC : ∀ w1, BagAt w1 B b L last true closed → Rel B (SK b w.heap.size) w w1 → Calls Try.prog k c w1 fun e w2 => ∃ bh : Beh, e = bh.ending ∧ Rel B S w1 w2 ∧ J w1 bh w2) :
    Calls Try.prog 54 #[.pointer (some ⟨b, 0, none⟩), .agg #[.int .i64 id, .string name, .func (.func k) #[] c]] w fun e w3 => ∃ (bh : Beh) (w1 w2 : World), e = .returned (.agg (rcells id name bh).toArray) ∧ BagAt w1 B b L last true closed ∧ Rel B (SK b w.heap.size) w w1 ∧ Rel B S w1 w2 ∧ J w1 bh w2 ∧ Rel B (SK b w.heap.size) w2 w3 ∧ BagAt w3 B b L last false closed := by
  have hmf : ∀ (fn : Fn) (first cap : Array Value) (w : World), (Instr.makeFunc fn first cap).run Try.prog w = .ok (.func fn first cap) w := fun _ _ _ _ => rfl
  have hbl := h.lt
  obtain ⟨p1, hp1⟩ : ∃ p, p = w.heap.size := ⟨_, rfl⟩
  have b1 : Below w.heap.size w (((w.alloc (.cells #[.pointer (some ⟨b, 0, none⟩)] 24)).alloc (.cells #[.int .i64 id, .string name, .func (.func k) #[] c] 101)).alloc (.cells #[.int .i64 0, .string ⟨#[]⟩, .int .i64 0, .bool false, .string ⟨#[]⟩] 83)) := (((Below.refl _ w).alloc (Nat.le_refl _) _).alloc (by simp) _).alloc (by simp; omega) _
  have hA : ∀ wA, wA = (((w.alloc (.cells #[.pointer (some ⟨b, 0, none⟩)] 24)).alloc (.cells #[.int .i64 id, .string name, .func (.func k) #[] c] 101)).alloc (.cells #[.int .i64 0, .string ⟨#[]⟩, .int .i64 0, .bool false, .string ⟨#[]⟩] 83)) → BagAt wA B b L last false closed ∧ Below w.heap.size w wA ∧ wA.heap[w.heap.size]? = some (.cells #[.pointer (some ⟨b, 0, none⟩)] 24 (0, 0)) ∧ wA.heap[w.heap.size + 1]? = some (.cells #[.int .i64 id, .string name, .func (.func k) #[] c] 101 (0, 0)) ∧ wA.heap[w.heap.size + 1 + 1]? = some (.cells #[.int .i64 0, .string ⟨#[]⟩, .int .i64 0, .bool false, .string ⟨#[]⟩] 83 (0, 0)) := by
    rintro wA rfl
    refine ⟨h.below b1, b1, ?_, ?_, ?_⟩
    · rw [heap_alloc_old' _ _ (by simp; omega), heap_alloc_old' _ _ (by simp)]
      exact heap_alloc_new w _
    · rw [heap_alloc_old' _ _ (by simp)]
      exact heap_alloc2_new w _ _
    · have := heap_alloc_new ((w.alloc (.cells #[.pointer (some ⟨b, 0, none⟩)] 24)).alloc (.cells #[.int .i64 id, .string name, .func (.func k) #[] c] 101)) (.cells #[.int .i64 0, .string ⟨#[]⟩, .int .i64 0, .bool false, .string ⟨#[]⟩] 83)
      simpa using this
  have HH := Lib.hid h
  have HA := Lib.hid hA
  have HHC := Lib.hid HC
  have HSS := Lib.hid hs
  have HBL := Lib.hid hbl
  have x2 := (hA _ rfl).1.cells
  obtain ⟨_, _, _, _, x2, _, _⟩ := x2
  have x3 := (hA _ rfl).1.frozen 2
  have y1 := (cell_of_row _ w.heap.size 0 _ _ _ (hA _ rfl).2.2.1).trans (show (#[Value.pointer (some ⟨b, 0, none⟩)] : Array Value)[0]? = some (.pointer (some ⟨b, 0, none⟩)) from rfl)
  clear h hs HC hbl b1 hA
  go_enter_defers Try.func54, Try.ntmps54
  go_upto_region 2 with fail
  obtain ⟨wB, hwB⟩ : ∃ x, x = ((((w.alloc (.cells #[.pointer (some ⟨b, 0, none⟩)] 24)).alloc (.cells #[.int .i64 id, .string name, .func (.func k) #[] c] 101)).alloc (.cells #[.int .i64 0, .string ⟨#[]⟩, .int .i64 0, .bool false, .string ⟨#[]⟩] 83)).setCell ⟨b, 2, none⟩ (.bool true)) := ⟨_, rfl⟩
  rw [← hwB]
  have KB : Hid (BagAt wB B b L last true closed ∧ Rel B (SK b w.heap.size) w wB ∧ wB.heap[p1]? = some (.cells #[.pointer (some ⟨b, 0, none⟩)] 24 (0, 0)) ∧ wB.heap[p1 + 1]? = some (.cells #[.int .i64 id, .string name, .func (.func k) #[] c] 101 (0, 0)) ∧ wB.heap[p1 + 1 + 1]? = some (.cells #[.int .i64 0, .string ⟨#[]⟩, .int .i64 0, .bool false, .string ⟨#[]⟩] 83 (0, 0))) := Lib.hid (by
    obtain ⟨z1, z2, z3, z4, z5⟩ := HA.out _ rfl
    have hb := HBL.out
    rw [hwB, hp1]
    refine ⟨z1.setBusy true, (Rel.below z2).trans (z1.relSet 2 (.bool true) (SK b w.heap.size) (fun C z => Or.inl ⟨rfl, C, z, rfl⟩) (Nat.le_refl _)), ?_, ?_, ?_⟩
    · rw [Below.heap_setCell _ _ _ _ (by simp; omega)]; exact z3
    · rw [Below.heap_setCell _ _ _ _ (by simp; omega)]; exact z4
    · rw [Below.heap_setCell _ _ _ _ (by simp; omega)]; exact z5)
  rw [← hp1]
  have hne1 : b ≠ p1 ∧ b ≠ p1 + 1 ∧ b ≠ p1 + 1 + 1 := by have := HBL.out; omega
  have HP1 := Lib.hid hp1
  clear hwB x2 x3 y1 HA hp1
  have q0 := (cell_of_row _ (p1 + 1) 0 _ _ _ KB.out.2.2.2.1).trans (show (#[Value.int .i64 id, .string name, .func (.func k) #[] c] : Array Value)[0]? = some (.int .i64 id) from rfl)
  have q1 := (cell_of_row _ (p1 + 1) 1 _ _ _ KB.out.2.2.2.1).trans (show (#[Value.int .i64 id, .string name, .func (.func k) #[] c] : Array Value)[1]? = some (.string name) from rfl)
  have q2 := (cell_of_row _ (p1 + 1) 2 _ _ _ KB.out.2.2.2.1).trans (show (#[Value.int .i64 id, .string name, .func (.func k) #[] c] : Array Value)[2]? = some (.func (.func k) #[] c) from rfl)
  have TH : Hid (wB.there (p1 + 1 + 1) 0 5) := Lib.hid (fun j hj => ⟨by
    rw [cell_of_row _ _ _ _ _ _ KB.out.2.2.2.2]
    exact Option.isSome_iff_exists.2 ⟨_, Array.getElem?_eq_getElem (by simp; omega)⟩, frozen_of_row _ _ _ _ _ KB.out.2.2.2.2⟩)
  go_wp2_with (refine wpList_store_all (by rfl) 83 (.tmp 4) (.tmp 12) (by rfl) (p1 + 1 + 1) 0 [.int .i64 id, .string name, .int .i64 0, .bool false, .string ⟨#[]⟩] (by kernel_rfl) (by kernel_rfl) TH.out (by kernel_rfl) (rcells_one id name (.ret 0)) ?_)
  intro W4 HW4
  have HBp : Hid (B ≤ p1) := Lib.hid (by rw [HP1.out]; exact hB)
  have KC : Hid (BagAt W4 B b L last true closed ∧ Rel B (SK b w.heap.size) w W4 ∧ W4.heap[p1]? = some (.cells #[.pointer (some ⟨b, 0, none⟩)] 24 (0, 0)) ∧ W4.heap[p1 + 1]? = some (.cells #[.int .i64 id, .string name, .func (.func k) #[] c] 101 (0, 0)) ∧ W4.heap[p1 + 1 + 1]? = some (.cells #[.int .i64 id, .string name, .int .i64 0, .bool false, .string ⟨#[]⟩] 83 (0, 0))) := Lib.hid (by
    obtain ⟨z1, z2, z3, z4, z5⟩ := KB.out
    have hbp := HBp.out
    have r1 := rel_lay (S := SK b w.heap.size) (B := B) (g := p1 + 1 + 1) (t := 83) (by omega) (fun C => Or.inr ⟨by have := HP1.out; omega, C, _, rfl⟩) [.int .i64 id, .string name, .int .i64 0, .bool false, .string ⟨#[]⟩] wB 0 _ z5
    have r2 := rel_lay (S := fun _ o => ∃ C z, o = .cells C 83 z) (B := B) (g := p1 + 1 + 1) (t := 83) (by omega) (fun C => ⟨C, _, rfl⟩) [.int .i64 id, .string name, .int .i64 0, .bool false, .string ⟨#[]⟩] wB 0 _ z5
    rw [HW4.out]
    refine ⟨z1.rel r2 (fun C z h => ?_) (fun q C z h => ?_), z2.trans r1, (heap_setCells_far (by omega) _ _ _).trans z3, (heap_setCells_far (by omega) _ _ _).trans z4, heap_setCells_same _ _ _ _ z5⟩
    · obtain ⟨C', z', h⟩ := h
      cases h
    · obtain ⟨C', z', h⟩ := h
      cases h)
  have q3 := (cell_of_row _ (p1 + 1) 2 _ _ _ KC.out.2.2.2.1).trans (show (#[Value.int .i64 id, .string name, .func (.func k) #[] c] : Array Value)[2]? = some (.func (.func k) #[] c) from rfl)
  clear HW4 KB q0 q1 q2 TH
  go_wp2_with fail
  refine (HHC.out W4 KC.out.1 KC.out.2.1).mono ?_
  rintro e w2 ⟨bh, rfl, hr, hj⟩
  have HJ := Lib.hid hj
  have HR := Lib.hid hr
  clear hj hr q3
  have K2 : Hid (BagAt w2 B b L last true closed ∧ w2.heap[p1]? = some (.cells #[.pointer (some ⟨b, 0, none⟩)] 24 (0, 0)) ∧ w2.heap[p1 + 1 + 1]? = some (.cells #[.int .i64 id, .string name, .int .i64 0, .bool false, .string ⟨#[]⟩] 83 (0, 0))) := Lib.hid (by
    obtain ⟨z1, z2, z3, z4, z5⟩ := KC.out
    exact ⟨z1.rel HR.out (fun C z => (HSS.out b C z).2.2.2) (fun q C z => (HSS.out q C z).2.1), HR.out.block z3 (fun _ => (HSS.out _ _ _).1), HR.out.block z5 (fun _ => (HSS.out _ _ _).2.2.1)⟩)
  have r0 := cell_of_row w2 (p1 + 1 + 1) 2 _ _ _ K2.out.2.2 |>.trans (show (#[Value.int .i64 id, .string name, .int .i64 0, .bool false, .string ⟨#[]⟩] : Array Value)[2]? = some (.int .i64 0) from rfl)
  have f0 := frozen_of_row w2 (p1 + 1 + 1) 2 _ _ K2.out.2.2
  cases bh with
  | ret code =>
    simp only [Beh.ending]
    go_upto_region 5 with fail
    obtain ⟨w5, hw5⟩ : ∃ x, x = w2.setCell ⟨p1 + 1 + 1, 2, none⟩ (.int .i64 code) := ⟨_, rfl⟩
    rw [← hw5]
    have K5 : Hid (BagAt w5 B b L last true closed ∧ w5.heap[p1]? = some (.cells #[.pointer (some ⟨b, 0, none⟩)] 24 (0, 0)) ∧ w5.heap[p1 + 1 + 1]? = some (.cells #[.int .i64 id, .string name, .int .i64 code, .bool false, .string ⟨#[]⟩] 83 (0, 0)) ∧ Rel B (SK b w.heap.size) w2 w5) := Lib.hid (by
      obtain ⟨z1, z2, z3⟩ := K2.out
      have hbp := HBp.out
      have r1 : Rel B (SK b w.heap.size) w2 w5 := by rw [hw5]; exact Rel.set (a := ⟨p1 + 1 + 1, 2, none⟩) (by simp; omega) z3 (show SK b w.heap.size (p1 + 1 + 1) _ from Or.inr ⟨by have := HP1.out; omega, _, _, rfl⟩) _
      have r2 : Rel B (fun _ o => ∃ C z, o = .cells C 83 z) w2 w5 := by rw [hw5]; exact Rel.set (a := ⟨p1 + 1 + 1, 2, none⟩) (by simp; omega) z3 ⟨_, _, rfl⟩ _
      refine ⟨z1.rel r2 (fun C z h => ?_) (fun q C z h => ?_), ?_, ?_, r1⟩
      · obtain ⟨C', z', h⟩ := h; cases h
      · obtain ⟨C', z', h⟩ := h; cases h
      · rw [hw5, Below.heap_setCell _ _ _ _ (by simp; omega)]; exact z2
      · rw [hw5]; exact heap_setCell_same w2 _ 2 _ _ _ z3)
    clear hw5 r0 f0
    have u0 := (cell_of_row w5 (p1 + 1 + 1) 0 _ _ _ K5.out.2.2.1).trans (show (#[Value.int .i64 id, .string name, .int .i64 code, .bool false, .string ⟨#[]⟩] : Array Value)[0]? = some (.int .i64 id) from rfl)
    have u1 := (cell_of_row w5 (p1 + 1 + 1) 1 _ _ _ K5.out.2.2.1).trans (show (#[Value.int .i64 id, .string name, .int .i64 code, .bool false, .string ⟨#[]⟩] : Array Value)[1]? = some (.string name) from rfl)
    have u2 := (cell_of_row w5 (p1 + 1 + 1) 2 _ _ _ K5.out.2.2.1).trans (show (#[Value.int .i64 id, .string name, .int .i64 code, .bool false, .string ⟨#[]⟩] : Array Value)[2]? = some (.int .i64 code) from rfl)
    have u3 := (cell_of_row w5 (p1 + 1 + 1) 3 _ _ _ K5.out.2.2.1).trans (show (#[Value.int .i64 id, .string name, .int .i64 code, .bool false, .string ⟨#[]⟩] : Array Value)[3]? = some (.bool false) from rfl)
    have u4 := (cell_of_row w5 (p1 + 1 + 1) 4 _ _ _ K5.out.2.2.1).trans (show (#[Value.int .i64 id, .string name, .int .i64 code, .bool false, .string ⟨#[]⟩] : Array Value)[4]? = some (.string ⟨#[]⟩) from rfl)
    have TH : Hid (w5.there (p1 + 1 + 1) 0 5) := Lib.hid (fun j hj => ⟨by
      rw [cell_of_row _ _ _ _ _ _ K5.out.2.2.1]
      exact Option.isSome_iff_exists.2 ⟨_, Array.getElem?_eq_getElem (by simp; omega)⟩, frozen_of_row _ _ _ _ _ K5.out.2.2.1⟩)
    go_wp2_with (refine wpList_store_all (by rfl) 83 (.tmp 4) (.tmp 18) (by rfl) (p1 + 1 + 1) 0 [.int .i64 id, .string name, .int .i64 code, .bool false, .string ⟨#[]⟩] (by kernel_rfl) (by kernel_rfl) TH.out (by kernel_rfl) (rcells_one id name (.ret code)) ?_)
    intro W6 HW6
    have K6 : Hid (BagAt W6 B b L last true closed ∧ W6.heap[p1]? = some (.cells #[.pointer (some ⟨b, 0, none⟩)] 24 (0, 0)) ∧ W6.heap[p1 + 1 + 1]? = some (.cells #[.int .i64 id, .string name, .int .i64 code, .bool false, .string ⟨#[]⟩] 83 (0, 0)) ∧ Rel B (SK b w.heap.size) w2 W6) := Lib.hid (by
      obtain ⟨z1, z2, z3, z4⟩ := K5.out
      have hbp := HBp.out
      have r1 := rel_lay (S := SK b w.heap.size) (B := B) (g := p1 + 1 + 1) (t := 83) (by omega) (fun C => Or.inr ⟨by have := HP1.out; omega, C, _, rfl⟩) [.int .i64 id, .string name, .int .i64 code, .bool false, .string ⟨#[]⟩] w5 0 _ z3
      have r2 := rel_lay (S := fun _ o => ∃ C z, o = .cells C 83 z) (B := B) (g := p1 + 1 + 1) (t := 83) (by omega) (fun C => ⟨C, _, rfl⟩) [.int .i64 id, .string name, .int .i64 code, .bool false, .string ⟨#[]⟩] w5 0 _ z3
      rw [HW6.out]
      refine ⟨z1.rel r2 (fun C z h => ?_) (fun q C z h => ?_), (heap_setCells_far (by omega) _ _ _).trans z2, heap_setCells_same _ _ _ _ z3, z4.trans r1⟩
      · obtain ⟨C', z', h⟩ := h
        cases h
      · obtain ⟨C', z', h⟩ := h
        cases h)
    clear HW6 u0 u1 u2 u3 u4 TH
    go_wp2_with fail
    refine leaves_cons (f := 71) (args := #[.pointer (some ⟨p1, 0, none⟩), .pointer (some ⟨p1 + 1 + 1, 0, none⟩)]) (by simp) (by simp [go_sem]) ?_
    obtain ⟨_, _, _, _, bz, _, _⟩ := K6.out.1.cells
    refine (catch_idle p1 (p1 + 1 + 1) b true W6 ((cell_of_row W6 p1 0 _ _ _ K6.out.2.1).trans rfl) bz (K6.out.1.frozen 2)).mono ?_
    rintro e u' w'' ⟨rfl, rfl, rfl⟩
    obtain ⟨WF, hWF⟩ : ∃ x, x = W6.setCell ⟨b, 2, none⟩ (.bool false) := ⟨_, rfl⟩
    have KF : Hid (WF.heap[p1 + 1 + 1]? = some (.cells (rcells id name (.ret code)).toArray 83 (0, 0)) ∧ Rel B (SK b w.heap.size) w2 WF ∧ BagAt WF B b L last false closed) := Lib.hid (by
      obtain ⟨z1, z2, z3, z4⟩ := K6.out
      rw [hWF]
      refine ⟨?_, z4.trans (z1.relSet 2 (.bool false) (SK b w.heap.size) (fun C z => Or.inl ⟨rfl, C, z, rfl⟩) (Nat.le_refl _)), z1.setBusy false⟩
      rw [Below.heap_setCell _ _ _ _ (by simp; omega)]
      exact z3)
    obtain ⟨v0, v1, v2, v3, v4⟩ := ends KF.out.1
    rw [← hWF]
    clear hWF
    simp [Leaves, settle, results, Try.results54, go_sem, v0, v1, v2, v3, v4]
    exact ⟨.ret code, rfl, W4, KC.out.1, KC.out.2.1, w2, HR.out, HJ.out, KF.out.2.1, KF.out.2.2⟩
  | str s =>
    simp only [Beh.ending]
    go_wp2_with fail
    refine leaves_cons (f := 71) (args := #[.pointer (some ⟨p1, 0, none⟩), .pointer (some ⟨p1 + 1 + 1, 0, none⟩)]) (by simp) (by simp [go_sem]) ?_
    obtain ⟨_, _, _, _, bz, _, _⟩ := K2.out.1.cells
    refine (catch_str p1 (p1 + 1 + 1) b true false s ⟨#[]⟩ w2 ((cell_of_row w2 p1 0 _ _ _ K2.out.2.1).trans rfl) bz (K2.out.1.frozen 2) ((cell_of_row w2 (p1 + 1 + 1) 3 _ _ _ K2.out.2.2).trans rfl) (frozen_of_row w2 _ 3 _ _ K2.out.2.2) ((cell_of_row w2 (p1 + 1 + 1) 4 _ _ _ K2.out.2.2).trans rfl) (frozen_of_row w2 _ 4 _ _ K2.out.2.2) hne1.2.2).mono ?_
    rintro e u' w'' ⟨rfl, rfl, rfl⟩
    obtain ⟨WF, hWF⟩ : ∃ x, x = ((w2.setCell ⟨b, 2, none⟩ (.bool false)).setCell ⟨p1 + 1 + 1, 3, none⟩ (.bool true)).setCell ⟨p1 + 1 + 1, 4, none⟩ (.string s) := ⟨_, rfl⟩
    have KF : Hid (WF.heap[p1 + 1 + 1]? = some (.cells (rcells id name (.str s)).toArray 83 (0, 0)) ∧ Rel B (SK b w.heap.size) w2 WF ∧ BagAt WF B b L last false closed) := Lib.hid (by
      obtain ⟨z1, z2, z3⟩ := K2.out
      have hbp := HBp.out
      have g1 := z1.setBusy false
      have g2 : (w2.setCell ⟨b, 2, none⟩ (.bool false)).heap[p1 + 1 + 1]? = some (.cells #[.int .i64 id, .string name, .int .i64 0, .bool false, .string ⟨#[]⟩] 83 (0, 0)) := by rw [Below.heap_setCell _ _ _ _ (by simp; omega)]; exact z3
      have r0 : Rel B (SK b w.heap.size) w2 (w2.setCell ⟨b, 2, none⟩ (.bool false)) := z1.relSet 2 (.bool false) (SK b w.heap.size) (fun C z => Or.inl ⟨rfl, C, z, rfl⟩) (Nat.le_refl _)
      have r1 := rel_lay (S := SK b w.heap.size) (B := B) (g := p1 + 1 + 1) (t := 83) (by omega) (fun C => Or.inr ⟨by have := HP1.out; omega, C, _, rfl⟩) [.bool true, .string s] _ 3 _ g2
      have r2 := rel_lay (S := fun _ o => ∃ C z, o = .cells C 83 z) (B := B) (g := p1 + 1 + 1) (t := 83) (by omega) (fun C => ⟨C, _, rfl⟩) [.bool true, .string s] _ 3 _ g2
      have e : WF = (w2.setCell ⟨b, 2, none⟩ (.bool false)).setCells (p1 + 1 + 1) 3 [.bool true, .string s] := hWF
      rw [e]
      refine ⟨heap_setCells_same _ _ _ _ g2, r0.trans r1, g1.rel r2 (fun C z h => ?_) (fun q C z h => ?_)⟩
      · obtain ⟨C', z', h⟩ := h; cases h
      · obtain ⟨C', z', h⟩ := h; cases h)
    obtain ⟨v0, v1, v2, v3, v4⟩ := ends KF.out.1
    rw [← hWF]
    clear hWF
    simp [Leaves, settle, results, Try.results54, go_sem, v0, v1, v2, v3, v4]
    exact ⟨.str s, rfl, W4, KC.out.1, KC.out.2.1, w2, HR.out, HJ.out, KF.out.2.1, KF.out.2.2⟩
  | num n =>
    simp only [Beh.ending]
    go_wp2_with fail
    refine leaves_cons (f := 71) (args := #[.pointer (some ⟨p1, 0, none⟩), .pointer (some ⟨p1 + 1 + 1, 0, none⟩)]) (by simp) (by simp [go_sem]) ?_
    obtain ⟨_, _, _, _, bz, _, _⟩ := K2.out.1.cells
    refine (catch_num p1 (p1 + 1 + 1) b true false n ⟨#[]⟩ w2 ((cell_of_row w2 p1 0 _ _ _ K2.out.2.1).trans rfl) bz (K2.out.1.frozen 2) ((cell_of_row w2 (p1 + 1 + 1) 3 _ _ _ K2.out.2.2).trans rfl) (frozen_of_row w2 _ 3 _ _ K2.out.2.2) ((cell_of_row w2 (p1 + 1 + 1) 4 _ _ _ K2.out.2.2).trans rfl) (frozen_of_row w2 _ 4 _ _ K2.out.2.2) hne1.2.2).mono ?_
    rintro e u' w'' ⟨rfl, rfl, rfl⟩
    obtain ⟨WF, hWF⟩ : ∃ x, x = ((w2.setCell ⟨b, 2, none⟩ (.bool false)).setCell ⟨p1 + 1 + 1, 3, none⟩ (.bool true)).setCell ⟨p1 + 1 + 1, 4, none⟩ (.string .empty) := ⟨_, rfl⟩
    have KF : Hid (WF.heap[p1 + 1 + 1]? = some (.cells (rcells id name (.num n)).toArray 83 (0, 0)) ∧ Rel B (SK b w.heap.size) w2 WF ∧ BagAt WF B b L last false closed) := Lib.hid (by
      obtain ⟨z1, z2, z3⟩ := K2.out
      have hbp := HBp.out
      have g1 := z1.setBusy false
      have g2 : (w2.setCell ⟨b, 2, none⟩ (.bool false)).heap[p1 + 1 + 1]? = some (.cells #[.int .i64 id, .string name, .int .i64 0, .bool false, .string ⟨#[]⟩] 83 (0, 0)) := by rw [Below.heap_setCell _ _ _ _ (by simp; omega)]; exact z3
      have r0 : Rel B (SK b w.heap.size) w2 (w2.setCell ⟨b, 2, none⟩ (.bool false)) := z1.relSet 2 (.bool false) (SK b w.heap.size) (fun C z => Or.inl ⟨rfl, C, z, rfl⟩) (Nat.le_refl _)
      have r1 := rel_lay (S := SK b w.heap.size) (B := B) (g := p1 + 1 + 1) (t := 83) (by omega) (fun C => Or.inr ⟨by have := HP1.out; omega, C, _, rfl⟩) [.bool true, .string .empty] _ 3 _ g2
      have r2 := rel_lay (S := fun _ o => ∃ C z, o = .cells C 83 z) (B := B) (g := p1 + 1 + 1) (t := 83) (by omega) (fun C => ⟨C, _, rfl⟩) [.bool true, .string .empty] _ 3 _ g2
      have e : WF = (w2.setCell ⟨b, 2, none⟩ (.bool false)).setCells (p1 + 1 + 1) 3 [.bool true, .string .empty] := hWF
      rw [e]
      refine ⟨heap_setCells_same _ _ _ _ g2, r0.trans r1, g1.rel r2 (fun C z h => ?_) (fun q C z h => ?_)⟩
      · obtain ⟨C', z', h⟩ := h; cases h
      · obtain ⟨C', z', h⟩ := h; cases h)
    obtain ⟨v0, v1, v2, v3, v4⟩ := ends KF.out.1
    rw [← hWF]
    clear hWF
    simp [Leaves, settle, results, Try.results54, go_sem, v0, v1, v2, v3, v4]
    exact ⟨.num n, rfl, W4, KC.out.1, KC.out.2.1, w2, HR.out, HJ.out, KF.out.2.1, KF.out.2.2⟩
end Go.Proofs.Ytnkababhgloclaa
