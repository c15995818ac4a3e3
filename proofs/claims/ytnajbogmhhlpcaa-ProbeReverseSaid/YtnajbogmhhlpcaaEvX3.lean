/- Code and calls: what the runner answers is so in the model. The runner, made ready: each operation becomes a function once, of the frame and the memory alone. It answers what the runner answers. Summaries: a closed call is run once; wherever it is called again, what it made is laid under new names. Long runs, cut: a body is run piece by piece, each piece from a memory that is told in full. What a run comes to, as a contract for a walk by hand: in any world that has grown from one where the arrays stand. What a call of the runner's hands back, in memory of its own: rows of the result, as a walk by hand wants them. -/
import Derived.Test.YtnajbogmhhlpcaaEvX2
import Derived.Laws.Rows
import Derived.Laws.AppendOwn
namespace Go.Proofs.Ytnajbogmhhlpcaa
open Go.RowKit
namespace Ev
set_option linter.unusedSectionVars false
variable [Env]
section
variable {P : Program} {β : Beta} {w : World} {s : St} {lo nt : Nat} {fr : Tr AV} {a : Act}
/-! Code and calls. -/
theorem start_ok {args : List AV} {vs : Array Value} (h : Reps β args vs.toList) {n : Nat} (hn : args.length ≤ n) : FRep β n (startFr args) { tmps := vs ++ Array.replicate (n - vs.size) undef, defers := [] } := by
  have hl := Reps.length h
  rw [Array.length_toList] at hl
  refine ⟨by simp; omega, rfl, fun t => ?_⟩
  simp only [startFr, get_storeL, get_lf]
  by_cases ht : t < args.length
  · obtain ⟨u, hu, hr⟩ := h.at t args[t] (List.getElem?_eq_getElem ht)
    rw [if_pos ⟨Nat.zero_le _, by omega⟩, Nat.sub_zero]
    have e1 : (vs ++ Array.replicate (n - vs.size) undef).getD t undef = u := by
      rw [Array.getD_eq_getD_getElem?, Array.getElem?_append_left (by omega)]
      rw [Array.getElem?_toList] at hu
      rw [hu]; rfl
    rw [e1, List.getElem?_eq_getElem ht]
    exact hr
  · rw [if_neg (by omega)]
    have e1 : (vs ++ Array.replicate (n - vs.size) undef).getD t undef = undef := by
      rw [Array.getD_eq_getD_getElem?, Array.getElem?_append_right (by omega)]
      by_cases h2 : t - vs.size < n - vs.size
      · rw [Array.getElem?_replicate, if_pos h2]; rfl
      · rw [Array.getElem?_replicate, if_neg h2]; rfl
    rw [e1]
    exact ⟨#[], rfl, rfl⟩
theorem evF_call_ok {ih : Nat → Job → Option Out} (hcode : CodeOk P ih) : CallOk P (fun lo j => evF P ih lo j) := by
  intro lo f args s v s' h β w vs hs hg ha
  simp only [evF] at h
  split at h
  case h_1 => cases h
  case h_2 fn hfn =>
  split at h
  case h_1 => cases h
  case h_2 c hb =>
  cases hn : (!Nat.ble args.length fn.ntmps) with
  | true => rw [hn] at h; cases h
  | false =>
  rw [hn] at h
  simp only [cond_false] at h
  have hn' : args.length ≤ fn.ntmps := by simpa [Nat.ble_eq] using hn
  split at h
  case h_2 => cases h
  case h_1 e fr' s1 hih =>
  cases he : exNrm e with
  | false => rw [he] at h; cases h
  | true =>
  rw [he] at h
  simp only [cond_true] at h
  split at h
  case h_2 => cases h
  case h_1 as has =>
  cases h
  refine calls_of_wp hfn hb (hcode lo fn.ntmps c (startFr args) s e fr' s' hih β w _ hs hg (start_ok ha hn') _ ?_)
  intro a' w' β' hx hf'
  obtain ⟨u, h1, h2⟩ := results_ok hx.sit hf' has
  have fin : a'.defers = [] ∧ ∃ v, (results fn a'.tmps).run P w' = .ok v w' ∧ ∃ u β', Ending.returned v = .returned u ∧ Ext lo β s w β' s' w' ∧ Rep β' (oneOf as) u := ⟨hf'.defers, u, h1, u, β', rfl, hx, h2⟩
  cases e with
  | nrm => exact fin
  | ret => exact fin
  | exit k => cases he
def LoopOk (P : Program) (ih : Nat → Job → Option Out) (n : Nat) : Prop :=
  ∀ lo nt c fr s e fr' s', ih lo (.code nt (.loop c) fr s) = some (.code e fr' s') → ∀ (β : Beta) (w : World) (a : Act), Sit β s w → Globs P β → FRep β nt fr a →
    ∀ Q : Exit → Act → World → Prop, (∀ a' w' β', Ext lo β s w β' s' w' → FRep β' nt fr' a' → Q (exOf e) a' w') → Code.rounds P c Q n a w
theorem evF_loop_ok {ih : Nat → Job → Option Out} {n : Nat} (hcode : CodeOk P ih) (hloop : LoopOk P ih n) : LoopOk P (fun lo j => evF P ih lo j) (n + 1) := by
  intro lo nt c fr s e fr' s' h β w a hs hg hf Q hQ
  simp only [evF] at h
  rw [rounds_succ]
  split at h
  case h_1 fr1 s1 h1 =>
    refine hcode lo nt c fr s _ fr1 s1 h1 β w a hs hg hf _ ?_
    intro a1 w1 β1 hx hf1
    have hle := hx.beta hs
    refine hloop lo nt c fr1 s1 e fr' s' h β1 w1 a1 hx.sit (hg.mono hle) hf1 Q ?_
    intro a2 w2 β2 hx2 hf2
    exact hQ a2 w2 β2 (hx.trans hs hx2) hf2
  case h_2 e1 fr1 s1 hne h1 =>
    cases h
    refine hcode lo nt c fr s _ fr' s' h1 β w a hs hg hf _ ?_
    intro a1 w1 β1 hx hf1
    have := hQ a1 w1 β1 hx hf1
    cases e with
    | nrm => exact (hne rfl).elim
    | exit k => exact this
    | ret => exact this
  case h_3 => cases h
theorem evF_code_ok {ih : Nat → Job → Option Out} {n : Nat} (hcall : CallOk P ih) (hcode : CodeOk P ih) (hloop : LoopOk P ih n) : CodeOk P (fun lo j => evF P ih lo j) := by
  intro lo nt c fr s e fr' s' h β w a hs hg hf Q hQ
  cases c <;> simp only [evF] at h <;> try (cases h; done)
  case skip => cases h; exact wp_skip (hQ a w β (Ext.refl hs) hf)
  case label l => cases h; exact wp_label (hQ a w β (Ext.refl hs) hf)
  case exit k => cases h; exact wp_exit (hQ a w β (Ext.refl hs) hf)
  case ret => cases h; exact wp_ret (hQ a w β (Ext.refl hs) hf)
  case region id ops draw =>
    cases draw with
    | true =>
      simp only [cond_true] at h
      cases hm : P.follows .mixedOrders with
      | false => rw [hm] at h; cases h
      | true =>
        rw [hm] at h
        exact draw_ok hcall hm h hs hg hf hQ
    | false =>
      simp only [cond_false] at h
      exact region_ok hcall h hs hg hf hQ
  case seq x y =>
    refine wp_seq ?_
    split at h
    case h_1 fr1 s1 h1 =>
      refine hcode lo nt x fr s _ fr1 s1 h1 β w a hs hg hf _ ?_
      intro a1 w1 β1 hx hf1
      have hle := hx.beta hs
      refine hcode lo nt y fr1 s1 e fr' s' h β1 w1 a1 hx.sit (hg.mono hle) hf1 Q ?_
      intro a2 w2 β2 hx2 hf2
      exact hQ a2 w2 β2 (hx.trans hs hx2) hf2
    case h_2 e1 fr1 s1 hne h1 =>
      cases h
      refine hcode lo nt x fr s _ fr' s' h1 β w a hs hg hf _ ?_
      intro a1 w1 β1 hx hf1
      have := hQ a1 w1 β1 hx hf1
      cases e with
      | nrm => exact (hne rfl).elim
      | exit k => exact this
      | ret => exact this
    case h_3 => cases h
  case cond x thn els =>
    split at h
    case h_2 => cases h
    case h_1 t ht =>
    have hv : a.eval x = .bool t := opnd_ok hf hg ht
    refine wp_cond hv ?_
    have := hcode lo nt _ fr s e fr' s' h β w a hs hg hf Q hQ
    cases t <;> exact this
  case block id c =>
    refine wp_block ?_
    split at h
    case h_1 k fr1 s1 h1 =>
      refine hcode lo nt c fr s _ fr1 s1 h1 β w a hs hg hf _ ?_
      intro a1 w1 β1 hx hf1
      cases hk : (k == id) with
      | true =>
        rw [hk] at h
        cases h
        have := eq_of_beq hk
        simp only [exOf, Exit.inBlock, this, if_true]
        exact hQ a1 w1 β1 hx hf1
      | false =>
        rw [hk] at h
        cases h
        have : ¬ k = id := by simpa using hk
        simp only [exOf, Exit.inBlock, this, if_false]
        exact hQ a1 w1 β1 hx hf1
    case h_2 e1 fr1 s1 hne h1 =>
      cases h
      refine hcode lo nt c fr s _ fr' s' h1 β w a hs hg hf _ ?_
      intro a1 w1 β1 hx hf1
      have := hQ a1 w1 β1 hx hf1
      cases e with
      | nrm => exact this
      | exit k => exact (hne _ rfl).elim
      | ret => exact this
    case h_3 => cases h
  case loop c => exact wp_loop_rounds (n + 1) (evF_loop_ok hcode hloop lo nt c fr s e fr' s' h β w a hs hg hf Q hQ)
  case scope c =>
    refine wp_scope_straight ?_
    refine hcode lo nt c fr s e fr' s' h β w a hs hg hf _ ?_
    intro a1 w1 β1 hx hf1
    have := hQ a1 w1 β1 hx hf1
    cases e <;> exact this
theorem ev_ok (P : Program) : ∀ n, CallOk P (ev P n) ∧ CodeOk P (ev P n) ∧ LoopOk P (ev P n) n
  | 0 => ⟨fun _ _ _ _ _ _ h => (by cases h), fun _ _ _ _ _ _ _ _ h => (by cases h), fun _ _ _ _ _ _ _ _ h => (by cases h)⟩
  | n + 1 => ⟨evF_call_ok (ev_ok P n).2.1, evF_code_ok (ev_ok P n).1 (ev_ok P n).2.1 (ev_ok P n).2.2, evF_loop_ok (ev_ok P n).2.1 (ev_ok P n).2.2⟩
end
/-! A call without arguments that says true. -/
def tabBlk (L : List Int) : Blk := .cells 0 L.length [] (storeL .lf 0 (L.map (AV.int .i64))) false false
def heapOf : List (Nat × List Int) → Tr Blk
  | [] => .lf
  | (g, L) :: l => (heapOf l).set (some (tabBlk L)) (path g)
def saysTrue : Option Out → Bool
  | some (.call (.bool b) _) => b
  | _ => false
/-- A variable that holds just these numbers. -/
def HoldsAt (W : World) (g : Nat) (L : List Int) : Prop := ∃ t fr, W.heap[g]? = some (.cells (L.map (Value.int .i64)).toArray t fr)
theorem heapOf_get : ∀ {l : List (Nat × List Int)} {g : Nat} {b : Blk}, (heapOf l).get (path g) = some b → ∃ L, (g, L) ∈ l ∧ b = tabBlk L
  | [], g, b, h => by rw [heapOf, get_lf] at h; cases h
  | (k, L) :: l, g, b, h => by
    rw [heapOf, get_put] at h
    by_cases e : g = k
    · rw [if_pos e] at h; cases h; exact ⟨L, by simp [e], rfl⟩
    · rw [if_neg e] at h
      obtain ⟨M, h1, h2⟩ := heapOf_get h
      exact ⟨M, by simp [h1], h2⟩
theorem ints_reps (β : Beta) : ∀ L : List Int, Reps β (L.map (AV.int .i64)) (L.map (Value.int .i64))
  | [] => rfl
  | n :: L => ⟨_, _, rfl, rfl, ints_reps β L⟩
def sizeAt (W : World) (g : Nat) : Nat := match W.heap[g]? with | some (.cells cs _ _) => cs.size | _ => 0
/-- The start: the listed variables, and the place of each of the others. -/
theorem sit_start {P : Program} {W : World} (hsh : W.ShapedOpen P) {tabs : List (Nat × List Int)} (ht : ∀ x ∈ tabs, HoldsAt W x.1 x.2 ∧ x.1 < P.globals.size) :
    Sit (fun g => if g < P.globals.size then some (g, sizeAt W g) else none) ⟨heapOf tabs, P.globals.size⟩ W ∧ Globs P (fun g => if g < P.globals.size then some (g, sizeAt W g) else none) := by
  have hlt : P.globals.size < W.heap.size := by
    obtain ⟨o, _, h1, _⟩ := hsh.2 P.globals.size (Nat.le_refl _) (by simp [begin]; omega)
    exact (Array.getElem?_eq_some_iff.1 h1).1
  refine ⟨⟨?_, ?_, ?_⟩, fun g hg => ⟨_, if_pos hg⟩⟩
  · intro i b hb
    obtain ⟨L, h1, rfl⟩ := heapOf_get hb
    obtain ⟨⟨t, fr, hw⟩, hg⟩ := ht _ h1
    refine ⟨_, if_pos hg, ?_⟩
    have hs : sizeAt W i = L.length := by unfold sizeAt; rw [hw]; simp
    simp only at hw
    refine ⟨_, t, fr, hw, by rw [hs]; simp, by rw [hs]; exact Nat.le_refl _, fun _ => hs, fun e => (by cases e), ?_⟩
    intro k v hk
    have hk' : (L.map (AV.int .i64))[k]? = some v := by
      have hlen : (L.map (AV.int .i64)).length = L.length := by simp
      have := hk
      rw [← hlen] at this
      exact cellAt_rowOf this
    obtain ⟨u, hu, hr⟩ := (ints_reps _ L).at k v hk'
    exact ⟨u, by rw [List.getElem?_toArray]; exact hu, hr⟩
  · intro i j p q _ _ hp hq hpq
    by_cases hi : i < P.globals.size
    · by_cases hj : j < P.globals.size
      · rw [if_pos hi] at hp
        rw [if_pos hj] at hq
        cases hp
        cases hq
        exact hpq
      · rw [if_neg hj] at hq; cases hq
    · rw [if_neg hi] at hp; cases hp
  · intro i p hp
    by_cases hi : i < P.globals.size
    · rw [if_pos hi] at hp
      cases hp
      exact ⟨hi, by simp only; omega⟩
    · rw [if_neg hi] at hp; cases hp
theorem closed_true {P : Program} {W : World} (hsh : W.ShapedOpen P) {tabs : List (Nat × List Int)} (ht : ∀ x ∈ tabs, HoldsAt W x.1 x.2 ∧ x.1 < P.globals.size) {n : Nat} {f : FuncId} (h : saysTrue (ev P n P.globals.size (.call f [] ⟨heapOf tabs, P.globals.size⟩)) = true) :
    Calls P f #[] W fun e w' => e = .returned (.bool true) ∧ Below W.heap.size W w' := by
  obtain ⟨hs, hg⟩ := sit_start hsh ht
  unfold saysTrue at h
  split at h
  case h_2 => cases h
  case h_1 b s' he =>
  subst h
  refine ((ev_ok P n).1 _ f [] _ _ s' he _ W #[] hs hg rfl).mono ?_
  rintro e w' ⟨u, β', rfl, hx, hr⟩
  refine ⟨by rw [show u = .bool true from hr], hx.os, hx.tape, hx.output, hx.size, fun k hk => hx.keep k hk ?_⟩
  intro i p hi hl hp
  obtain ⟨c, hc⟩ := hl
  obtain ⟨q, hq, _⟩ := hs.blk i c hc
  have := (hs.low i q hq).1
  simp only at this
  omega
end Ev
end Go.Proofs.Ytnajbogmhhlpcaa
namespace Go.Proofs.Ytnajbogmhhlpcaa
open Go.RowKit
namespace Ev
set_option linter.unusedSectionVars false
variable [Env]
inductive Box (α : Type) where
  | mk (f : α)
def Box.run {α : Type} : Box α → α
  | .mk f => f
/-- Calls of Go functions, as the operations want them. -/
abbrev CallF := Nat → FuncId → List AV → St → Option (AV × St)
def lift (c : CallF) (lo : Nat) : Job → Option Out
  | .call f args s => match c lo f args s with
    | some (v, s') => some (.call v s')
    | none => none
  | _ => none
abbrev OpF := CallF → Nat → Tr AV → St → Option (AV × St)
/-! Tries, by their recursors. -/
noncomputable def getF {α : Type} (k : Pth) : Tr α → Option α :=
  Pth.rec (motive := fun _ => Tr α → Option α) (fun t => Tr.rec (motive := fun _ => Option α) none (fun _ v _ _ _ => v) t) (fun _ ih t => Tr.rec (motive := fun _ => Option α) none (fun l _ _ _ _ => ih l) t) (fun _ ih t => Tr.rec (motive := fun _ => Option α) none (fun _ _ r _ _ => ih r) t) k
noncomputable def setF {α : Type} (x : Option α) (k : Pth) : Tr α → Tr α :=
  Pth.rec (motive := fun _ => Tr α → Tr α) (fun t => Tr.rec (motive := fun _ => Tr α) (.nd .lf x .lf) (fun l _ r _ _ => .nd l x r) t)
    (fun _ ih t => Tr.rec (motive := fun _ => Tr α) (.nd (ih .lf) none .lf) (fun l v r _ _ => .nd (ih l) v r) t)
    (fun _ ih t => Tr.rec (motive := fun _ => Tr α) (.nd .lf none (ih .lf)) (fun l v r _ _ => .nd l v (ih r)) t) k
theorem getF_eq {α : Type} (k : Pth) : ∀ t : Tr α, getF k t = Tr.get k t := by
  induction k with
  | h => intro t; cases t <;> rfl
  | o p ih => intro t; cases t with
    | lf => rfl
    | nd l v r => exact ih l
  | i p ih => intro t; cases t with
    | lf => rfl
    | nd l v r => exact ih r
theorem setF_eq {α : Type} (x : Option α) (k : Pth) : ∀ t : Tr α, setF x k t = Tr.set x k t := by
  induction k with
  | h => intro t; cases t <;> rfl
  | o p ih => intro t; cases t with
    | lf => exact congrArg (fun z => Tr.nd z none Tr.lf) (ih .lf)
    | nd l v r => exact congrArg (fun z => Tr.nd z v r) (ih l)
  | i p ih => intro t; cases t with
    | lf => exact congrArg (fun z => Tr.nd Tr.lf none z) (ih .lf)
    | nd l v r => exact congrArg (fun z => Tr.nd l v z) (ih r)
/-! Operands. -/
noncomputable def slotF (o : Option AV) : AV := Option.rec (motive := fun _ => AV) (.tup []) (fun v => v) o
theorem slotF_eq (o : Option AV) : slotF o = slotV o := by cases o <;> rfl
/-- an operand that is ready: a slot, or a value. -/
inductive Ready where
  | slot (p : Pth)
  | val (v : AV)
  | bad
def ready (P : Program) : Operand → Ready
  | .tmp t => .slot (path t)
  | x => match opnd P .lf x with
    | some v => .val v
    | none => .bad
noncomputable def useF {α : Type} (r : Ready) (fr : Tr AV) (k : AV → Option α) : Option α :=
  Ready.rec (motive := fun _ => Option α) (fun p => k (slotF (getF p fr))) (fun v => k v) none r
theorem useF_eq {α : Type} (P : Program) (x : Operand) (fr : Tr AV) (k : AV → Option α) : useF (ready P x) fr k = match opnd P fr x with | some v => k v | none => none := by
  cases x with
  | tmp t => simp only [ready, useF, opnd, getF_eq, slotF_eq]
  | const v =>
    simp only [ready, opnd]
    cases ofV v <;> rfl
  | global g =>
    simp only [ready, opnd]
    cases Nat.blt g P.globals.size <;> rfl
  | func f => rfl
/-! Whole numbers that stay small. -/
def fastInt (op : BinOp) (m n : Nat) : Option AV :=
  match op with
  | .add => bif Nat.blt (Nat.add m n) 9223372036854775808 then some (.int .i64 (.ofNat (Nat.add m n))) else none
  | .sub => bif Nat.ble n m && Nat.blt m 9223372036854775808 then some (.int .i64 (.ofNat (Nat.sub m n))) else none
  | .eql => some (.bool (Nat.beq m n))
  | .neq => some (.bool (!Nat.beq m n))
  | .lss => some (.bool (Nat.blt m n))
  | .leq => some (.bool (Nat.ble m n))
  | .gtr => some (.bool (Nat.blt n m))
  | .geq => some (.bool (Nat.ble n m))
  | _ => none
theorem fastInt_ok {op : BinOp} {m n : Nat} {v : AV} (h : fastInt op m n = some v) : binInt op .i64 (.ofNat m) (.ofNat n) = some v ∧ op ≠ .shl ∧ op ≠ .shr := by
  cases op <;> simp only [fastInt, reduceCtorEq] at h
  case add =>
    rw [Bool.cond_eq_ite] at h
    split at h
    case isFalse => cases h
    case isTrue c =>
    cases h
    refine ⟨?_, by simp, by simp⟩
    simp only [binInt]
    have e : (Int.ofNat m + Int.ofNat n) = Int.ofNat (Nat.add m n) := rfl
    rw [e]
    simp only [wrapK, c, cond_true]
  case sub =>
    rw [Bool.cond_eq_ite] at h
    split at h
    case isFalse => cases h
    case isTrue c =>
    cases h
    refine ⟨?_, by simp, by simp⟩
    simp only [Bool.and_eq_true, Nat.ble_eq] at c
    have c2 : m + 1 ≤ 9223372036854775808 := by simpa [Nat.blt, Nat.ble_eq] using c.2
    have e : (Int.ofNat m - Int.ofNat n) = Int.ofNat (Nat.sub m n) := by
      show (m : Int) - (n : Int) = ((m - n : Nat) : Int)
      omega
    simp only [binInt]
    rw [e]
    have c3 : Nat.blt (Nat.sub m n) 9223372036854775808 = true := blt_of (by show m - n < _; omega)
    simp only [wrapK, c3, cond_true]
  all_goals
    cases h
    refine ⟨?_, by simp, by simp⟩
    simp only [binInt]
    have hb : Nat.beq m n = decide (m = n) := by rw [Bool.eq_iff_iff]; simp [Nat.beq_eq]
    congr 2
    rw [Bool.eq_iff_iff]
    simp [Nat.blt, Nat.ble_eq, hb]
    try omega
def binF (P : Program) (op : BinOp) (t : TypeId) : AV → AV → Option AV
  | .int .i64 (.ofNat m), .int .i64 (.ofNat n) => match fastInt op m n with
    | some v => some v
    | none => binAV P op t (.int .i64 (.ofNat m)) (.int .i64 (.ofNat n))
  | a, b => binAV P op t a b
theorem binF_eq (P : Program) (op : BinOp) (t : TypeId) (a b : AV) : binF P op t a b = binAV P op t a b := by
  unfold binF
  split
  · rename_i m n
    split
    · rename_i v h
      obtain ⟨h1, h2, h3⟩ := fastInt_ok h
      unfold binAV
      simp only
      cases op <;> first | exact absurd rfl h2 | exact absurd rfl h3 | exact h1.symm
    · rfl
  · rfl
/-! Memory, by the recursors. -/
noncomputable def cellF (n : Nat) (zs : List AV) (t : Tr AV) (i : Nat) : Option AV :=
  bif Nat.blt i n then
    match getF (path i) t with
    | some v => some v
    | none => nthA zs (i % zs.length)
  else none
theorem cellF_eq (n : Nat) (zs : List AV) (t : Tr AV) (i : Nat) : cellF n zs t i = cellAt n zs t i := by
  unfold cellF cellAt
  rw [getF_eq]
  rfl
noncomputable def loadNF (n : Nat) (zs : List AV) (t : Tr AV) : Nat → Nat → Option (List AV)
  | _, 0 => some []
  | i, k + 1 => match cellF n zs t i with
    | some v => match loadNF n zs t (i + 1) k with
      | some l => some (v :: l)
      | none => none
    | none => none
theorem loadNF_eq (n : Nat) (zs : List AV) (t : Tr AV) : ∀ k i, loadNF n zs t i k = loadN n zs t i k
  | 0, i => rfl
  | k + 1, i => by
    simp only [loadNF, loadN, cellF_eq, loadNF_eq n zs t k]
    rfl
noncomputable def loadAtF (s : St) (i : TI) (b off : Nat) : Option AV :=
  match getF (path b) s.h with
  | some (.cells _ n zs t _ _) => bif i.isAgg then (loadNF n zs t off i.size).map .agg else cellF n zs t off
  | _ => none
theorem loadAtF_eq (s : St) (i : TI) (b off : Nat) : loadAtF s i b off = loadAt s i b off := by
  unfold loadAtF loadAt
  simp only [getF_eq, loadNF_eq, cellF_eq]
  rfl
noncomputable def storeLF (t : Tr AV) (i : Nat) : List AV → Tr AV
  | [] => t
  | v :: l => storeLF (setF (some v) (path i) t) (i + 1) l
theorem storeLF_eq : ∀ (l : List AV) (t : Tr AV) (i : Nat), storeLF t i l = storeL t i l
  | [], t, i => rfl
  | v :: l, t, i => by
    simp only [storeLF, storeL, setF_eq, storeLF_eq l]
noncomputable def storeAtF (s : St) (lo b off : Nat) (l : List AV) : Option St :=
  match getF (path b) s.h with
  | some (.cells T n zs t o true) => bif Nat.ble lo b && Nat.ble (off + l.length) n && allScalar l then some ⟨setF (some (.cells T n zs (storeLF t off l) o true)) (path b) s.h, s.n⟩ else none
  | _ => none
theorem storeAtF_eq (s : St) (lo b off : Nat) (l : List AV) : storeAtF s lo b off l = storeAt s lo b off l := by
  unfold storeAtF storeAt
  simp only [getF_eq, setF_eq, storeLF_eq]
  rfl
/-! Operations. -/
noncomputable def loadF (i : TI) (r : Ready) : OpF := fun _ _ fr s => useF r fr fun v => match v with
  | .ptr b off => match loadAtF s i b off with
    | some v => some (v, s)
    | none => none
  | _ => none
noncomputable def moveF (r : Ready) : OpF := fun _ _ fr s => useF r fr fun v => some (v, s)
noncomputable def nilF (r : Ready) : OpF := fun _ _ fr s => useF r fr fun v => match v with
  | .ptr b off => some (.ptr b off, s)
  | .fn f cap => some (.fn f cap, s)
  | .slc b o l c => some (.slc b o l c, s)
  | .map b => some (.map b, s)
  | _ => none
noncomputable def binOpF (P : Program) (op : BinOp) (t : TypeId) (x y : Ready) : OpF := fun _ _ fr s => useF x fr fun a => useF y fr fun b => match binF P op t a b with
  | some v => some (v, s)
  | none => none
noncomputable def fieldAddrF (off' : Nat) (r : Ready) : OpF := fun _ _ fr s => useF r fr fun v => match v with
  | .ptr b off => some (.ptr b (off + off'), s)
  | _ => none
noncomputable def storeF (i : TI) (a x : Ready) : OpF := fun _ lo fr s => useF a fr fun u => match u with
  | .ptr b off => useF x fr fun v => bif v.cells.length == i.size then
      match storeAtF s lo b off v.cells with
      | some s' => some (.tup [], s')
      | none => none
    else none
  | _ => none
noncomputable def extractF (k : Nat) (r : Ready) : OpF := fun _ _ fr s => useF r fr fun v => match v with
  | .tup l => match l[k]? with
    | some v => some (v, s)
    | none => none
  | _ => none
def readys (P : Program) : List Operand → List Ready
  | [] => []
  | x :: l => ready P x :: readys P l
noncomputable def usesF (l : List Ready) (fr : Tr AV) : Option (List AV) :=
  List.rec (motive := fun _ => Option (List AV)) (some []) (fun r _ ih => useF r fr fun v => Option.rec (motive := fun _ => Option (List AV)) none (fun vs => some (v :: vs)) ih) l
theorem usesF_eq (P : Program) (fr : Tr AV) : ∀ l : List Operand, usesF (readys P l) fr = opnds P fr l
  | [] => rfl
  | x :: l => by
    show useF (ready P x) fr (fun v => Option.rec none (fun vs => some (v :: vs)) (usesF (readys P l) fr)) = _
    rw [useF_eq, usesF_eq P fr l, opnds]
    cases opnd P fr x with
    | none => rfl
    | some v => cases opnds P fr l <;> rfl
noncomputable def callF (f : FuncId) (args : List Ready) : OpF := fun c lo fr s => Option.rec (motive := fun _ => Option (AV × St)) none (fun vs => c lo f vs s) (usesF args fr)
/-- what the runner does, as it stands. -/
def anyF (P : Program) (o : Oper) : OpF := fun c lo fr s => evOper P lo (lift c) fr s o
noncomputable def cCall (P : Program) (o : Oper) (c : Call) : Box OpF :=
  match c.callee with
  | .value (.func f) => match P.funcs[f]? with
    | some fn => match fn.body with
      | some _ => bif fn.name == "runtime.NumGoroutine" then .mk (anyF P o) else .mk (callF f (readys P c.args.toList))
      | none => .mk (anyF P o)
    | none => .mk (anyF P o)
  | _ => .mk (anyF P o)
def placeF (b off len size : Nat) (k : Int) (s : St) : Option (AV × St) :=
  match k with
  | .ofNat m => bif Nat.blt m len then some (.ptr b (Nat.add off (Nat.mul m size)), s) else none
  | .negSucc _ => none
theorem placeF_eq (b off len size : Nat) (k : Int) (s : St) : placeF b off len size k s = bif decide (0 ≤ k) && decide (k < (len : Int)) then some (.ptr b (off + k.toNat * size), s) else none := by
  cases k with
  | ofNat m =>
    have h0 : decide ((0 : Int) ≤ Int.ofNat m) = true := decide_eq_true (Int.natCast_nonneg m)
    have h1 : decide (Int.ofNat m < (len : Int)) = Nat.blt m len := by
      rw [Bool.eq_iff_iff, decide_eq_true_eq]
      show ((m : Int) < (len : Int)) ↔ _
      simp [Nat.blt, Nat.ble_eq]
      omega
    rw [h0, h1]
    rfl
  | negSucc m =>
    have h0 : decide ((0 : Int) ≤ Int.negSucc m) = false := rfl
    rw [h0]
    rfl
noncomputable def placeArrF (len size : Nat) (x ix : Ready) : OpF := fun _ _ fr s => useF ix fr fun w => match w with
  | .int _ k => useF x fr fun v => match v with
    | .ptr b off => placeF b off len size k s
    | _ => none
  | _ => none
noncomputable def placeSlcF (size : Nat) (x ix : Ready) : OpF := fun _ _ fr s => useF ix fr fun w => match w with
  | .int _ k => useF x fr fun v => match v with
    | .slc b off len _ => placeF b off len size k s
    | _ => none
  | _ => none
noncomputable def cPlace (P : Program) (o : Oper) (t : TypeId) (x ix : Operand) : Box OpF :=
  match ti P t with
  | none => .mk (anyF P o)
  | some i => match i.d with
    | .array len e => match ti P e with
      | none => .mk (anyF P o)
      | some j => .mk (placeArrF len j.size (ready P x) (ready P ix))
    | .slice e => match ti P e with
      | none => .mk (anyF P o)
      | some j => .mk (placeSlcF j.size (ready P x) (ready P ix))
    | _ => .mk (anyF P o)
theorem cPlace_eq (P : Program) (o : Oper) (t : TypeId) (x ix : Operand) (ho : o.op = .indexAddr t x ix) (c : CallF) (lo : Nat) (fr : Tr AV) (s : St) : (cPlace P o t x ix).run c lo fr s = evOper P lo (lift c) fr s o := by
  have he : evOper P lo (lift c) fr s o = evIndexAddr P lo fr s t x ix := by
    unfold evOper
    rw [ho]
    rfl
  unfold cPlace
  split
  · rfl
  · rename_i i hi
    split
    · rename_i len e hd
      split
      · rfl
      · rename_i j hj
        rw [he]
        simp only [Box.run, placeArrF, useF_eq, evIndexAddr, hi, hd, placeF_eq]
        cases opnd P fr ix with
        | none => rfl
        | some w => cases w <;> try rfl
                    cases opnd P fr x with
                    | none => rfl
                    | some v => cases v <;> first | rfl | simp only [hj]
    · rename_i e hd
      split
      · rfl
      · rename_i j hj
        rw [he]
        simp only [Box.run, placeSlcF, useF_eq, evIndexAddr, hi, hd, placeF_eq]
        cases opnd P fr ix with
        | none => rfl
        | some w => cases w <;> try rfl
                    cases opnd P fr x with
                    | none => rfl
                    | some v => cases v <;> first | rfl | simp only [hj]
    · rfl
noncomputable def cOper (P : Program) (o : Oper) : Box OpF :=
  match o.op with
  | .move x => .mk (moveF (ready P x))
  | .assign x => .mk (moveF (ready P x))
  | .load t a => match ti P t with
    | some i => .mk (loadF i (ready P a))
    | none => .mk (anyF P o)
  | .store t a x => match ti P t with
    | some i => .mk (storeF i (ready P a) (ready P x))
    | none => .mk (anyF P o)
  | .nilCheck x => .mk (nilF (ready P x))
  | .binOp op t x y _ => .mk (binOpF P op t (ready P x) (ready P y))
  | .extract x k => .mk (extractF k (ready P x))
  | .fieldAddr st x f => match ti P st with
    | some i => match i.d with
      | .struct fs => match fs[f]? with
        | some fd => match ti P fd.type with
          | some j => bif j.size == 0 then .mk (anyF P o) else .mk (fieldAddrF fd.offset (ready P x))
          | none => .mk (anyF P o)
        | none => .mk (anyF P o)
      | _ => .mk (anyF P o)
    | none => .mk (anyF P o)
  | .indexAddr t x ix => cPlace P o t x ix
  | .call c => cCall P o c
  | _ => .mk (anyF P o)
theorem opt_rec {α β : Type} (x : Option α) (f : α → Option β) : Option.rec (motive := fun _ => Option β) none (fun a => f a) x = match x with | some a => f a | none => none := by cases x <;> rfl
theorem cOper_eq (P : Program) (o : Oper) (c : CallF) (lo : Nat) (fr : Tr AV) (s : St) : (cOper P o).run c lo fr s = evOper P lo (lift c) fr s o := by
  obtain ⟨dst, op, ty, pos, after, guard⟩ := o
  cases op <;> try rfl
  case indexAddr t x ix => exact cPlace_eq P _ t x ix rfl c lo fr s
  case move x =>
    simp only [cOper, Box.run, moveF, useF_eq, evOper, evOp, evMove]
    cases opnd P fr x <;> rfl
  case assign x =>
    simp only [cOper, Box.run, moveF, useF_eq, evOper, evOp, evAssign]
    cases opnd P fr x <;> rfl
  case load t a =>
    simp only [cOper]
    split
    · rename_i i hi
      simp only [Box.run, loadF, loadAtF_eq, useF_eq, evOper, evOp, evLoad, hi]
      cases h : opnd P fr a with
      | none => rfl
      | some v => cases v <;> rfl
    · rfl
  case store t a x =>
    simp only [cOper]
    split
    · rename_i i hi
      simp only [Box.run, storeF, storeAtF_eq, useF_eq, evOper, evOp, evStore, hi]
      cases h : opnd P fr a with
      | none => rfl
      | some v => cases v <;> first | rfl | (simp only; cases opnd P fr x <;> rfl)
    · rfl
  case nilCheck x =>
    simp only [cOper, Box.run, nilF, useF_eq, evOper, evOp, evNilCheck]
    cases h : opnd P fr x with
    | none => rfl
    | some v => cases v <;> rfl
  case binOp op t x y yt =>
    simp only [cOper, Box.run, binOpF, useF_eq, binF_eq, evOper, evOp, evBinOp]
    cases h : opnd P fr x with
    | none => rfl
    | some v => cases opnd P fr y <;> rfl
  case extract x k =>
    simp only [cOper, Box.run, extractF, useF_eq, evOper, evOp, evExtract]
    cases h : opnd P fr x with
    | none => rfl
    | some v => cases v <;> rfl
  case fieldAddr st x f =>
    simp only [cOper]
    split
    · rename_i i hi
      split
      · rename_i fs hd
        split
        · rename_i fd hf
          split
          · rename_i j hj
            cases hz : (j.size == 0) with
            | true => rfl
            | false =>
              simp only [cond_false, Box.run, fieldAddrF, useF_eq, evOper, evOp, evFieldAddr, hi, hd, hf, hj, hz]
              cases h : opnd P fr x with
              | none => rfl
              | some v => cases v <;> rfl
          · rfl
        · rfl
      · rfl
    · rfl
  case call cl =>
    simp only [cOper, cCall]
    split
    · rename_i f hcal
      split
      · rename_i fn hfn
        split
        · rename_i body hb
          cases hn : (fn.name == "runtime.NumGoroutine") with
          | true => rfl
          | false =>
            simp only [cond_false, Box.run, callF, usesF_eq, opt_rec, evOper, hcal, callee, opnd]
            cases h : opnds P fr cl.args.toList with
            | none => rfl
            | some l =>
              simp only [List.append_nil, hfn, hb, hn, cond_false, lift]
              cases c lo f l s with
              | none => rfl
              | some r => rfl
        · rfl
      · rfl
    · rfl
/-! Regions. -/
noncomputable def cPut (nt : Nat) : Option Tmp → Box (Tr AV → AV → Option (Tr AV))
  | none => .mk fun fr _ => some fr
  | some d => bif Nat.blt d nt then .mk (fun fr v => some (setF (some v) (path d) fr)) else .mk (fun _ _ => none)
theorem cPut_eq (nt : Nat) (dst : Option Tmp) (fr : Tr AV) (v : AV) : (cPut nt dst).run fr v = put nt fr dst v := by
  cases dst with
  | none => rfl
  | some d =>
    simp only [cPut, put]
    cases Nat.blt d nt with
    | true => simp only [cond_true, Box.run, setF_eq]
    | false => rfl
abbrev OpsF := CallF → Nat → Tr AV → St → Option (Tr AV × St)
noncomputable def stepF (g : OpF) (p : Tr AV → AV → Option (Tr AV)) (k : OpsF) : OpsF := fun c lo fr s =>
  Option.rec (motive := fun _ => Option (Tr AV × St)) none (fun r => Prod.rec (motive := fun _ => Option (Tr AV × St)) (fun v s' => Option.rec (motive := fun _ => Option (Tr AV × St)) none (fun fr' => k c lo fr' s') (p fr v)) r) (g c lo fr s)
/-- where the guard stands, and what it wants. -/
def wantF (ops : Array Oper) (o : Oper) : Option (Option Pth × Bool) :=
  match o.guard with
  | none => none
  | some (j, want) => match ops[j]? with
    | some g => match g.dst with
      | some d => some (some (path d), want)
      | none => some (none, want)
    | none => some (none, want)
def boolIs (want : Bool) : Option AV → Bool
  | some (.bool b) => b == want
  | _ => false
noncomputable def wantRun (w : Option Pth × Bool) (fr : Tr AV) : Bool :=
  match w with
  | (some p, want) => boolIs want (getF p fr)
  | (none, _) => false
theorem wanted_eq (ops : Array Oper) (o : Oper) (fr : Tr AV) : wantedOp fr ops o = match wantF ops o with | none => some true | some w => some (wantRun w fr) := by
  unfold wantedOp wantF
  cases o.guard with
  | none => rfl
  | some jw =>
    obtain ⟨j, want⟩ := jw
    simp only
    cases ops[j]? with
    | none => rfl
    | some g =>
      simp only
      cases g.dst with
      | none => rfl
      | some d =>
        simp only [wantRun, getF_eq]
        cases fr.get (path d) with
        | none => rfl
        | some v => cases v <;> rfl
noncomputable def guardF (w : Option Pth × Bool) (p : Tr AV → AV → Option (Tr AV)) (yes no : OpsF) : OpsF := fun c lo fr s => bif wantRun w fr then yes c lo fr s else match p fr (.tup []) with
  | some fr' => no c lo fr' s
  | none => none
noncomputable def cOps (P : Program) (nt : Nat) (ops : Array Oper) : List Oper → Box OpsF
  | [] => .mk fun _ _ fr s => some (fr, s)
  | o :: l => match cOper P o with
    | .mk g => match cPut nt o.dst with
      | .mk p => match cOps P nt ops l with
        | .mk k => match wantF ops o with
          | none => .mk (stepF g p k)
          | some w => .mk (guardF w p (stepF g p k) k)
theorem run_mk {α : Type} {b : Box α} {f : α} (h : b = .mk f) : b.run = f := by rw [h]; rfl
theorem cOps_eq (P : Program) (nt lo : Nat) (c : CallF) (ops : Array Oper) : ∀ (l : List Oper) (fr : Tr AV) (s : St), evOps P lo nt (lift c) ops l fr s = match (cOps P nt ops l).run c lo fr s with | some (fr', s') => some (.code .nrm fr' s') | none => none
  | [], fr, s => rfl
  | o :: l, fr, s => by
    have ih := cOps_eq P nt lo c ops l
    simp only [evOps, cOps]
    cases hg : cOper P o with
    | mk g =>
    have eg := cOper_eq P o c lo
    rw [run_mk hg] at eg
    cases hp : cPut nt o.dst with
    | mk p =>
    have ep := cPut_eq nt o.dst
    rw [run_mk hp] at ep
    cases hk : cOps P nt ops l with
    | mk k =>
    rw [run_mk hk] at ih
    have step : ∀ fr s, (match stepF g p k c lo fr s with | some (fr', s') => some (Out.code .nrm fr' s') | none => none) = (match evOper P lo (lift c) fr s o with
        | some (v, s') => match put nt fr o.dst v with
          | some fr' => evOps P lo nt (lift c) ops l fr' s'
          | none => none
        | none => none) := by
      intro fr s
      simp only [stepF, eg]
      cases evOper P lo (lift c) fr s o with
      | none => rfl
      | some r =>
        obtain ⟨v, s'⟩ := r
        simp only [ep]
        cases put nt fr o.dst v with
        | none => rfl
        | some fr' => exact (ih fr' s').symm
    rw [wanted_eq]
    cases hgd : wantF ops o with
    | none =>
      simp only [Box.run]
      rw [step]
      rfl
    | some jw =>
      simp only [Box.run, guardF]
      cases hw : wantRun jw fr with
      | true => exact (step fr s).symm
      | false =>
        simp only [ep, cond_false]
        cases put nt fr o.dst (.tup []) with
        | none => rfl
        | some fr' => exact ih fr' s
/-! Drawn regions. -/
def NoNews (recs : List Rec) : Prop := ∀ r ∈ recs, r.news = []
def NoWr (recs : List Rec) : Prop := ∀ r ∈ recs, r.kind ≠ .writes
def memQ (nn : Bool) (h : Tr Blk) (held mask : Nat) (recs : List Rec) : Tr Blk := bif nn then memOf h held mask recs 0 else h
theorem memOf_calm {held mask : Nat} {h : Tr Blk} : ∀ {recs : List Rec} {k : Nat}, NoNews recs → memOf h held mask recs k = h
  | [], _, _ => rfl
  | r :: l, k, hn => by
    simp only [memOf, hn r (by simp)]
    exact memOf_calm fun r' hr => hn r' (by simp [hr])
theorem memQ_eq {nn : Bool} {recs : List Rec} (hn : nn = false → NoNews recs) (h : Tr Blk) (held mask : Nat) : memQ nn h held mask recs = memOf h held mask recs 0 := by
  cases nn with
  | true => rfl
  | false => exact (memOf_calm (hn rfl)).symm
noncomputable def lookAtQ (nn : Bool) (P : Program) (c : Core) (mask : Nat) (recs : List Rec) (n : Nat) (t : TypeId) (b off : Nat) : Option AV :=
  match ti P t with
  | some i => loadAtF ⟨memQ nn c.h c.held mask recs, n⟩ i b off
  | none => none
noncomputable def lookAllQ (nn : Bool) (P : Program) (mask : Nat) (recs : List Rec) (n : Nat) (l : Look) : List Core → Bool
  | [] => true
  | c :: cs => (match lookAtQ nn P c mask recs n l.t l.b l.off with
    | some v => sameAV v l.v
    | none => false) && lookAllQ nn P mask recs n l cs
noncomputable def lookFirstQ (nn : Bool) (P : Program) (mask : Nat) (recs : List Rec) (n : Nat) (t : TypeId) (b off : Nat) : List Core → Option AV
  | [] => none
  | c :: cs => match lookAtQ nn P c mask recs n t b off with
    | some v => bif lookAllQ nn P mask recs n ⟨t, b, off, v⟩ cs then some v else none
    | none => none
noncomputable def looksStayQ (nn : Bool) (P : Program) (c : Core) (mask : Nat) (all : List Rec) (n : Nat) : List Rec → Nat → Bool
  | [], _ => true
  | r :: l, k => (match r.kind with
    | .look x => Nat.testBit mask k || lookAllQ nn P r.mask all n x [c]
    | _ => true) && looksStayQ nn P c mask all n l (k + 1)
section
variable {P : Program} {nn : Bool} {recs : List Rec} (hn : nn = false → NoNews recs)
include hn
theorem lookAtQ_eq (c : Core) (mask n : Nat) (t : TypeId) (b off : Nat) : lookAtQ nn P c mask recs n t b off = lookAt P c mask recs n t b off := by
  unfold lookAtQ lookAt
  simp only [memQ_eq hn, loadAtF_eq]
  rfl
theorem lookAllQ_eq (mask n : Nat) (l : Look) : ∀ cs : List Core, lookAllQ nn P mask recs n l cs = lookAll P mask recs n l cs
  | [] => rfl
  | c :: cs => by simp only [lookAllQ, lookAll, lookAtQ_eq hn, lookAllQ_eq mask n l cs]; rfl
theorem lookFirstQ_eq (mask n : Nat) (t : TypeId) (b off : Nat) (cs : List Core) : lookFirstQ nn P mask recs n t b off cs = lookFirst P mask recs n t b off cs := by
  cases cs with
  | nil => rfl
  | cons c cs => simp only [lookFirstQ, lookFirst, lookAtQ_eq hn, lookAllQ_eq hn]; rfl
theorem looksStayQ_eq (c : Core) (mask n : Nat) : ∀ (l : List Rec) (k : Nat), looksStayQ nn P c mask recs n l k = looksStay P c mask recs n l k
  | [], _ => rfl
  | r :: l, k => by simp only [looksStayQ, looksStay, lookAllQ_eq hn, looksStayQ_eq c mask n l]; rfl
end
theorem writesIn_none {mask : Nat} : ∀ {recs : List Rec} {k : Nat}, NoWr recs → writesIn mask recs k = 0
  | [], _, _ => rfl
  | r :: l, k, h => by
    have h1 := h r (by simp)
    have h2 := writesIn_none (mask := mask) (k := k + 1) (fun r' hr => h r' (by simp [hr]) : NoWr l)
    simp only [writesIn]
    exact h2
theorem allWrites_none {mask : Nat} : ∀ {recs : List Rec} {k : Nat}, NoWr recs → allWrites mask recs k = true
  | [], _, _ => rfl
  | r :: l, k, h => by
    have h1 := h r (by simp)
    have h2 := allWrites_none (mask := mask) (k := k + 1) (fun r' hr => h r' (by simp [hr]) : NoWr l)
    simp only [allWrites, h2, Bool.and_true]
structure DInv (k : Nat) (nn nw : Bool) (d : DSt) : Prop where
  len : d.recs.length = k
  news : nn = false → NoNews d.recs
  wr : nw = false → NoWr d.recs ∧ ∃ c, d.cores = [c]
def isCall : Op → Bool
  | .call c => match c.callee with
    | .value _ => true
    | _ => false
  | _ => false
theorem evOper_plain {P : Program} {lo : Nat} {ih : Nat → Job → Option Out} {fr : Tr AV} {s : St} {o : Oper} (h : isCall o.op = false) : evOper P lo ih fr s o = evOp P lo fr s o.op := by
  unfold evOper
  split
  · rename_i c hc
    rw [hc] at h
    simp only [isCall] at h
    split
    · rename_i f hf
      rw [hf] at h
      cases h
    · rw [hc]
  · rfl
theorem evOp_call {P : Program} {lo : Nat} {fr : Tr AV} {s : St} {op : Op} (h : isCall op = true) : evOp P lo fr s op = none := by
  unfold isCall at h
  split at h
  · rename_i c
    split at h
    · rename_i f hf
      simp only [evOp, evCall, hf]
    · cases h
  · cases h
theorem evOp_load_none {P : Program} {lo n : Nat} {fr : Tr AV} {t : TypeId} {a : Operand} : evOp P lo fr ⟨.lf, n⟩ (.load t a) = none := by
  have e : ∀ p : Pth, Tr.get p (Tr.lf : Tr Blk) = none := fun p => by cases p <;> rfl
  simp only [evOp, evLoad]
  split
  · split
    · rfl
    · simp only [loadAt, e]
  · rfl
/-- it writes, or must see the whole memory. -/
noncomputable def writeQ (P : Program) (full : Bool) (o : Oper) (m : Nat) (g : OpF) (p : Tr AV → AV → Option (Tr AV)) (c : CallF) (lo : Nat) (nn nw : Bool) (d : DSt) : Option DSt :=
  bif !(bif nw then allWrites m d.recs 0 else true) then none else
    match g c lo d.fr ⟨memQ nn d.core.h d.core.held m d.recs, d.n⟩ with
    | some (v, s') => bif !Nat.ble d.n s'.n then none else match p d.fr v with
      | some fr' =>
        bif full || looksStayQ nn P ⟨s'.h, Nat.lor (Nat.lor d.core.held m) (2 ^ d.recs.length)⟩ m (d.recs ++ [⟨m, [], .writes⟩]) s'.n d.recs 0 then
          some ⟨d.done ++ [o], d.recs ++ [⟨m, [], .writes⟩], ⟨s'.h, Nat.lor (Nat.lor d.core.held m) (2 ^ d.recs.length)⟩ :: d.cores, fr', forceN s'.n⟩
        else none
      | none => none
    | none => none
noncomputable def lookQ (P : Program) (o : Oper) (m : Nat) (t : TypeId) (r : Ready) (p : Tr AV → AV → Option (Tr AV)) (nn nw : Bool) (d : DSt) : Option DSt :=
  useF r d.fr fun u => match u with
  | .ptr b off => match lookFirstQ nn P m d.recs d.n t b off (bif nw then d.cores.take (d.cores.length - writesIn m d.recs 0) else d.cores) with
    | some v => bif !belowAV d.n v then none else match p d.fr v with
      | some fr' => some ⟨d.done ++ [o], d.recs ++ [⟨m, [], .look ⟨t, b, off, v⟩⟩], d.cores, fr', d.n⟩
      | none => none
    | none => none
  | _ => none
noncomputable def calmQ (P : Program) (full : Bool) (o : Oper) (m : Nat) (g : OpF) (p : Tr AV → AV → Option (Tr AV)) (c : CallF) (lo : Nat) (nn nw : Bool) (d : DSt) : Option DSt :=
  match g c d.n d.fr ⟨.lf, d.n⟩ with
  | some (v, s') => bif !Nat.ble d.n s'.n then none else match p d.fr v with
    | some fr' => some ⟨d.done ++ [o], d.recs ++ [⟨m, newsOf s'.h d.n (s'.n - d.n), .calm⟩], d.cores, fr', forceN s'.n⟩
    | none => none
  | none => writeQ P full o m g p c lo nn nw d
abbrev DrawF := CallF → Nat → Bool → Bool → DSt → Option DSt
noncomputable def bodyQ (P : Program) (full : Bool) (o : Oper) (m : Nat) (g : OpF) (p : Tr AV → AV → Option (Tr AV)) : DrawF :=
  match o.op with
  | .load t a => fun _ _ nn nw d => lookQ P o m t (ready P a) p nn nw d
  | op => bif isCall op then writeQ P full o m g p else calmQ P full o m g p
noncomputable def cDrawOp (P : Program) (nt : Nat) (ops : Array Oper) (k : Nat) (o : Oper) (m : Nat) : Box DrawF :=
  match cOper P o with
  | .mk g => match cPut nt o.dst with
    | .mk p => match wantF ops o with
      | none => .mk (bodyQ P (Nat.beq (m + 1) (2 ^ k)) o m g p)
      | some w => .mk fun c lo nn nw d => bif wantRun w d.fr then bodyQ P (Nat.beq (m + 1) (2 ^ k)) o m g p c lo nn nw d else match p d.fr (.tup []) with
          | some fr' => some ⟨d.done ++ [o], d.recs ++ [⟨m, [], .calm⟩], d.cores, fr', d.n⟩
          | none => none
theorem looksStay_full {P : Program} {c : Core} {mask n : Nat} {all : List Rec} : ∀ (l : List Rec) (k : Nat), (∀ j, j < l.length → Nat.testBit mask (k + j) = true) → looksStay P c mask all n l k = true
  | [], _, _ => rfl
  | r :: l, k, h => by
    have h0 : Nat.testBit mask k = true := h 0 (by simp)
    have h1 := looksStay_full (P := P) (c := c) (mask := mask) (n := n) (all := all) l (k + 1) (fun j hj => by rw [show k + 1 + j = k + (j + 1) by omega]; exact h (j + 1) (by simpa using hj))
    simp only [looksStay, h0, h1, Bool.true_or, Bool.and_true]
    split <;> rfl
section
variable {P : Program} {nt lo : Nat} {c : CallF} {ops : Array Oper}
theorem writeQ_eq {o : Oper} {m : Nat} {d : DSt} {nn nw : Bool} {k : Nat} (hi : DInv k nn nw d) {g : OpF} {p : Tr AV → AV → Option (Tr AV)} (hg : ∀ lo fr s, g c lo fr s = evOper P lo (lift c) fr s o) (hp : ∀ fr v, p fr v = put nt fr o.dst v) :
    writeQ P (Nat.beq (m + 1) (2 ^ k)) o m g p c lo nn nw d = bif !allWrites m d.recs 0 then none else
          match evOper P lo (lift c) d.fr ⟨memOf d.core.h d.core.held m d.recs 0, d.n⟩ o with
          | some (v, s') => bif !Nat.ble d.n s'.n then none else match put nt d.fr o.dst v with
            | some fr' =>
              bif looksStay P ⟨s'.h, Nat.lor (Nat.lor d.core.held m) (2 ^ d.recs.length)⟩ m (d.recs ++ [⟨m, [], .writes⟩]) s'.n d.recs 0 then
                some ⟨d.done ++ [o], d.recs ++ [⟨m, [], .writes⟩], ⟨s'.h, Nat.lor (Nat.lor d.core.held m) (2 ^ d.recs.length)⟩ :: d.cores, fr', forceN s'.n⟩
              else none
            | none => none
          | none => none := by
  have ha : (bif nw then allWrites m d.recs 0 else true) = allWrites m d.recs 0 := by
    cases nw with
    | true => rfl
    | false => rw [allWrites_none (hi.wr rfl).1]; rfl
  have hn2 : nn = false → NoNews (d.recs ++ [⟨m, [], .writes⟩]) := by
    intro h r hr
    rcases List.mem_append.1 hr with h1 | h1
    · exact hi.news h r h1
    · simp only [List.mem_singleton] at h1
      subst h1
      rfl
  have hfull : ∀ (c : Core) (n : Nat), (Nat.beq (m + 1) (2 ^ k) || looksStay P c m (d.recs ++ [⟨m, [], .writes⟩]) n d.recs 0) = looksStay P c m (d.recs ++ [⟨m, [], .writes⟩]) n d.recs 0 := by
    intro c n
    cases hb : Nat.beq (m + 1) (2 ^ k) with
    | false => rfl
    | true =>
      have hm : m = 2 ^ k - 1 := by
        have : m + 1 = 2 ^ k := by simpa [Nat.beq_eq] using hb
        omega
      rw [looksStay_full d.recs 0 (fun j hj => by
        rw [hm, Nat.zero_add, Nat.testBit_two_pow_sub_one]
        rw [hi.len] at hj
        simpa using hj)]
      rfl
  unfold writeQ
  simp only [ha, hg, hp, memQ_eq hi.news, looksStayQ_eq hn2, hfull]
theorem lookQ_eq {o : Oper} {m : Nat} {d : DSt} {nn nw : Bool} {k : Nat} (hi : DInv k nn nw d) {t : TypeId} {a : Operand} {p : Tr AV → AV → Option (Tr AV)} (hp : ∀ fr v, p fr v = put nt fr o.dst v) :
    lookQ P o m t (ready P a) p nn nw d = match opnd P d.fr a with
        | some (.ptr b off) => match lookFirst P m d.recs d.n t b off (d.cores.take (d.cores.length - writesIn m d.recs 0)) with
          | some v => bif !belowAV d.n v then none else match put nt d.fr o.dst v with
            | some fr' => some ⟨d.done ++ [o], d.recs ++ [⟨m, [], .look ⟨t, b, off, v⟩⟩], d.cores, fr', d.n⟩
            | none => none
          | none => none
        | _ => none := by
  have hc : (bif nw then d.cores.take (d.cores.length - writesIn m d.recs 0) else d.cores) = d.cores.take (d.cores.length - writesIn m d.recs 0) := by
    cases nw with
    | true => rfl
    | false =>
      obtain ⟨h1, c0, h2⟩ := hi.wr rfl
      rw [writesIn_none h1, Nat.sub_zero, List.take_length]
      rfl
  unfold lookQ
  simp only [useF_eq, hc, hp, lookFirstQ_eq hi.news]
  cases opnd P d.fr a with
  | none => rfl
  | some v => cases v <;> rfl
theorem cDrawOp_eq {o : Oper} {m : Nat} {d : DSt} {nn nw : Bool} {k : Nat} (hi : DInv k nn nw d) : (cDrawOp P nt ops k o m).run c lo nn nw d = evDrawOp P lo nt (lift c) ops o m d := by
  unfold cDrawOp
  cases hgc : cOper P o with
  | mk g =>
  have hg : ∀ lo fr s, g c lo fr s = evOper P lo (lift c) fr s o := fun lo fr s => by rw [← cOper_eq, hgc]; rfl
  cases hpc : cPut nt o.dst with
  | mk p =>
  have hp : ∀ fr v, p fr v = put nt fr o.dst v := fun fr v => by rw [← cPut_eq, hpc]; rfl
  have body : bodyQ P (Nat.beq (m + 1) (2 ^ k)) o m g p c lo nn nw d = match evOp P d.n d.fr ⟨.lf, d.n⟩ o.op with
    | some (v, s') => bif !Nat.ble d.n s'.n then none else match put nt d.fr o.dst v with
      | some fr' => some ⟨d.done ++ [o], d.recs ++ [⟨m, newsOf s'.h d.n (s'.n - d.n), .calm⟩], d.cores, fr', forceN s'.n⟩
      | none => none
    | none =>
      match o.op with
      | .load t a => match opnd P d.fr a with
        | some (.ptr b off) => match lookFirst P m d.recs d.n t b off (d.cores.take (d.cores.length - writesIn m d.recs 0)) with
          | some v => bif !belowAV d.n v then none else match put nt d.fr o.dst v with
            | some fr' => some ⟨d.done ++ [o], d.recs ++ [⟨m, [], .look ⟨t, b, off, v⟩⟩], d.cores, fr', d.n⟩
            | none => none
          | none => none
        | _ => none
      | _ =>
        bif !allWrites m d.recs 0 then none else
          match evOper P lo (lift c) d.fr ⟨memOf d.core.h d.core.held m d.recs 0, d.n⟩ o with
          | some (v, s') => bif !Nat.ble d.n s'.n then none else match put nt d.fr o.dst v with
            | some fr' =>
              bif looksStay P ⟨s'.h, Nat.lor (Nat.lor d.core.held m) (2 ^ d.recs.length)⟩ m (d.recs ++ [⟨m, [], .writes⟩]) s'.n d.recs 0 then
                some ⟨d.done ++ [o], d.recs ++ [⟨m, [], .writes⟩], ⟨s'.h, Nat.lor (Nat.lor d.core.held m) (2 ^ d.recs.length)⟩ :: d.cores, fr', forceN s'.n⟩
              else none
            | none => none
          | none => none := by
    by_cases hl : ∃ t a, o.op = .load t a
    · obtain ⟨t, a, ho⟩ := hl
      have hb : bodyQ P (Nat.beq (m + 1) (2 ^ k)) o m g p c lo nn nw d = lookQ P o m t (ready P a) p nn nw d := by
        unfold bodyQ
        rw [ho]
      rw [hb, lookQ_eq hi hp, ho, evOp_load_none]
    · have hno : ∀ t a, o.op ≠ .load t a := fun t a e => hl ⟨t, a, e⟩
      have hb : bodyQ P (Nat.beq (m + 1) (2 ^ k)) o m g p c lo nn nw d = (bif isCall o.op then writeQ P (Nat.beq (m + 1) (2 ^ k)) o m g p else calmQ P (Nat.beq (m + 1) (2 ^ k)) o m g p) c lo nn nw d := by
        unfold bodyQ
        generalize o.op = x at hno ⊢
        cases x <;> first | rfl | exact absurd rfl (hno _ _)
      rw [hb]
      cases hcall : isCall o.op with
      | true =>
        rw [evOp_call hcall]
        simp only [cond_true]
        rw [writeQ_eq hi hg hp]
      | false =>
        simp only [cond_false]
        unfold calmQ
        rw [hg, evOper_plain hcall]
        cases evOp P d.n d.fr ⟨.lf, d.n⟩ o.op with
        | some r => simp only [hp]
        | none =>
          simp only
          rw [writeQ_eq hi hg hp]
  unfold evDrawOp
  rw [wanted_eq]
  cases hgd : wantF ops o with
  | none => exact body
  | some jw =>
    simp only [Box.run, hp]
    cases wantRun jw d.fr with
    | true => exact body
    | false => rfl
theorem inv_of {o : Oper} {m : Nat} {d d' : DSt} (h : evDrawOp P lo nt (lift c) ops o m d = some d') : ∃ r : Rec, d'.recs = d.recs ++ [r] ∧ (d'.n = d.n → r.news = []) ∧ ((d'.cores = d.cores ∧ r.kind ≠ .writes) ∨ ∃ x, d'.cores = x :: d.cores) := by
  unfold evDrawOp at h
  split at h
  case h_1 => cases h
  case h_2 hw =>
    split at h
    case h_2 => cases h
    case h_1 fr' hp =>
    cases h
    exact ⟨_, rfl, fun _ => rfl, .inl ⟨rfl, by simp⟩⟩
  case h_3 hw =>
    split at h
    case h_1 v s' he =>
      cases hle : (!Nat.ble d.n s'.n) with
      | true => rw [hle] at h; cases h
      | false =>
      rw [hle] at h
      simp only [cond_false] at h
      split at h
      case h_2 => cases h
      case h_1 fr' hp =>
      cases h
      refine ⟨_, rfl, fun e => ?_, .inl ⟨rfl, by simp⟩⟩
      simp only [forceN_eq] at e
      rw [e, Nat.sub_self]
      rfl
    case h_2 he =>
      split at h
      case h_1 t x ho =>
        split at h
        case h_2 => cases h
        case h_1 b off hx =>
        split at h
        case h_2 => cases h
        case h_1 v hl =>
        cases hb : belowAV d.n v with
        | false => rw [hb] at h; cases h
        | true =>
        rw [hb] at h
        simp only [Bool.not_true, cond_false] at h
        split at h
        case h_2 => cases h
        case h_1 fr' hp =>
        cases h
        exact ⟨_, rfl, fun _ => rfl, .inl ⟨rfl, by simp⟩⟩
      case h_2 ho =>
        cases ha : allWrites m d.recs 0 with
        | false => rw [ha] at h; cases h
        | true =>
        rw [ha] at h
        simp only [Bool.not_true, cond_false] at h
        split at h
        case h_2 => cases h
        case h_1 v s' he =>
        cases hle : (!Nat.ble d.n s'.n) with
        | true => rw [hle] at h; cases h
        | false =>
        rw [hle] at h
        simp only [cond_false] at h
        split at h
        case h_2 => cases h
        case h_1 fr' hp =>
        rw [Bool.cond_eq_ite] at h
        split at h
        case isFalse => cases h
        case isTrue hst =>
        cases h
        exact ⟨_, rfl, fun _ => rfl, .inr ⟨_, rfl⟩⟩
end
def single : List Core → Bool
  | [_] => true
  | _ => false
def forceB {α : Type} (b : Bool) (k : Bool → α) : α := match b with
  | true => k true
  | false => k false
theorem forceB_eq {α : Type} (b : Bool) (k : Bool → α) : forceB b k = k b := by cases b <;> rfl
abbrev DrawsF := CallF → Nat → Bool → Bool → DSt → Option (Tr AV × St)
noncomputable def cDraw (P : Program) (nt : Nat) (ops : Array Oper) : Nat → List (Oper × Nat) → Box DrawsF
  | _, [] => .mk fun _ _ nn _ d => some (d.fr, ⟨memQ nn d.core.h d.core.held (2 ^ d.recs.length - 1) d.recs, d.n⟩)
  | i, (o, m) :: l => match cDrawOp P nt ops i o m with
    | .mk g => match cDraw P nt ops (i + 1) l with
      | .mk k => .mk fun c lo nn nw d => match g c lo nn nw d with
        | some d' => forceB (nn || !Nat.beq d'.n d.n) fun nn' => forceB (nw || !single d'.cores) fun nw' => k c lo nn' nw' d'
        | none => none
theorem cDraw_eq {P : Program} {nt lo : Nat} {c : CallF} {ops : Array Oper} : ∀ (l : List (Oper × Nat)) (i : Nat) (d : DSt) (nn nw : Bool), DInv i nn nw d → evDraw P lo nt (lift c) ops l d = match (cDraw P nt ops i l).run c lo nn nw d with | some (fr', s') => some (.code .nrm fr' s') | none => none
  | [], i, d, nn, nw, hi => by
    simp only [evDraw, cDraw, Box.run, memQ_eq hi.news]
  | (o, m) :: l, i, d, nn, nw, hi => by
    simp only [evDraw, cDraw]
    cases hgc : cDrawOp P nt ops i o m with
    | mk g =>
    have hg : g c lo nn nw d = evDrawOp P lo nt (lift c) ops o m d := by rw [← cDrawOp_eq hi, hgc]; rfl
    cases hk : cDraw P nt ops (i + 1) l with
    | mk k =>
    simp only [Box.run, hg, forceB_eq]
    cases he : evDrawOp P lo nt (lift c) ops o m d with
    | none => rfl
    | some d' =>
      obtain ⟨r, h1, h2, h3⟩ := inv_of he
      have hi' : DInv (i + 1) (nn || !Nat.beq d'.n d.n) (nw || !single d'.cores) d' := by
        refine ⟨by rw [h1, List.length_append, hi.len]; rfl, fun e => ?_, fun e => ?_⟩
        · rw [Bool.or_eq_false_iff] at e
          have hnn : d'.n = d.n := by simpa [Nat.beq_eq] using e.2
          rw [h1]
          intro x hx
          rcases List.mem_append.1 hx with g1 | g1
          · exact hi.news e.1 x g1
          · simp only [List.mem_singleton] at g1
            subst g1
            exact h2 hnn
        · rw [Bool.or_eq_false_iff] at e
          obtain ⟨w1, c0, w2⟩ := hi.wr e.1
          rcases h3 with ⟨g1, g2⟩ | ⟨x, g1⟩
          · refine ⟨?_, c0, by rw [g1, w2]⟩
            rw [h1]
            intro x hx
            rcases List.mem_append.1 hx with g3 | g3
            · exact w1 x g3
            · simp only [List.mem_singleton] at g3
              subst g3
              exact g2
          · have := e.2
            rw [g1, w2] at this
            cases this
      have ih := cDraw_eq (P := P) (nt := nt) (lo := lo) (c := c) (ops := ops) l (i + 1) d' _ _ hi'
      rw [hk] at ih
      exact ih
/-! The plan, with what is latest ahead. -/
def maskR (k : Nat) (rms : List Nat) : List Edge → Nat
  | [] => 0
  | e :: l => bif Region.binds .any e then Nat.lor (Nat.lor (2 ^ e.on) (bif Nat.blt e.on k then recMask rms (Nat.sub (Nat.sub k 1) e.on) else 0)) (maskR k rms l) else maskR k rms l
def planR (ops : Array Oper) (k : Nat) (rdone : List Oper) (rms : List Nat) : List Oper → Option (List (Oper × Nat))
  | [] => some []
  | o :: l => (fun m => bif !(Nat.beq (m + 1) (2 ^ k) || (allApart ops o m rdone.reverse 0 && Nat.blt m (2 ^ k))) then none else
    match planR ops (k + 1) (o :: rdone) (m :: rms) l with
    | some r => some ((o, m) :: r)
    | none => none) (forceN (maskR k rms o.after.toList))
theorem recMask_rev {rms : List Nat} {k i : Nat} (hk : rms.length = k) : (bif Nat.blt i k then recMask rms (Nat.sub (Nat.sub k 1) i) else 0) = recMask rms.reverse i := by
  rw [recMask_eq, recMask_eq]
  by_cases hi : i < k
  · rw [blt_of hi]
    simp only [cond_true]
    rw [List.getElem?_reverse (by omega)]
    have : Nat.sub (Nat.sub k 1) i = rms.length - 1 - i := by rw [hk]; rfl
    rw [this]
  · have hb : Nat.blt i k = false := by
      cases e : Nat.blt i k with
      | false => rfl
      | true =>
        exfalso
        have q := e
        simp [Nat.blt, Nat.ble_eq] at q
        omega
    rw [hb]
    have : rms.reverse[i]? = none := by rw [List.getElem?_eq_none_iff, List.length_reverse]; omega
    rw [this]
    rfl
theorem maskR_eq {rms : List Nat} {k : Nat} (hk : rms.length = k) : ∀ l : List Edge, maskR k rms l = maskOf rms.reverse l
  | [] => rfl
  | e :: l => by simp only [maskR, maskOf, recMask_rev hk, maskR_eq hk l]
theorem allApart_full {ops : Array Oper} {o : Oper} {mask : Nat} : ∀ (l : List Oper) (k : Nat), (∀ j, j < l.length → Nat.testBit mask (k + j) = true) → allApart ops o mask l k = true
  | [], _, _ => rfl
  | p :: l, k, h => by
    have h0 : Nat.testBit mask k = true := h 0 (by simp)
    have h1 := allApart_full (ops := ops) (o := o) (mask := mask) l (k + 1) (fun j hj => by rw [show k + 1 + j = k + (j + 1) by omega]; exact h (j + 1) (by simpa using hj))
    simp only [allApart, h0, h1, Bool.true_or, Bool.and_true]
theorem planR_eq {ops : Array Oper} : ∀ (l : List Oper) (k : Nat) (rdone : List Oper) (rms : List Nat), rdone.length = k → rms.length = k → planR ops k rdone rms l = planGo ops rdone.reverse rms.reverse l
  | [], _, _, _, _, _ => rfl
  | o :: l, k, rdone, rms, h1, h2 => by
    simp only [planR, planGo, forceN_eq, maskR_eq h2]
    have ih := planR_eq (ops := ops) l (k + 1) (o :: rdone) (maskOf rms.reverse o.after.toList :: rms) (by simp [h1]) (by simp [h2])
    rw [ih, List.reverse_cons, List.reverse_cons]
    generalize maskOf rms.reverse o.after.toList = m
    have hc : (Nat.beq (m + 1) (2 ^ k) || (allApart ops o m rdone.reverse 0 && Nat.blt m (2 ^ k))) = (allApart ops o m rdone.reverse 0 && Nat.blt m (2 ^ rms.reverse.length)) := by
      rw [List.length_reverse, h2]
      cases hb : Nat.beq (m + 1) (2 ^ k) with
      | false => rfl
      | true =>
        have hm : m + 1 = 2 ^ k := by simpa [Nat.beq_eq] using hb
        have hm2 : m = 2 ^ k - 1 := by omega
        have g1 : allApart ops o m rdone.reverse 0 = true := allApart_full _ 0 (fun j hj => by
          rw [hm2, Nat.zero_add, Nat.testBit_two_pow_sub_one]
          rw [List.length_reverse, h1] at hj
          simpa using hj)
        rw [g1, blt_of (by omega)]
        rfl
    rw [hc, Bool.not_and]
    rfl
noncomputable def openF (k : DrawsF) : CallF → Nat → Nat → Tr AV → St → Option (Ex × Tr AV × St) := fun c _ lo fr s => match k c lo false false ⟨[], [], [⟨s.h, 0⟩], fr, forceN s.n⟩ with
  | some (fr', s') => some (.nrm, fr', s')
  | none => none
noncomputable def cOpen (P : Program) (nt : Nat) (ops : Array Oper) : Box (CallF → Nat → Nat → Tr AV → St → Option (Ex × Tr AV × St)) :=
  match planR ops 0 [] [] ops.toList with
  | some l => match cDraw P nt ops 0 l with
    | .mk k => .mk (openF k)
  | none => .mk fun _ _ _ _ _ => none
theorem cOpen_eq (P : Program) (nt lo n : Nat) (c : CallF) (ops : Array Oper) (fr : Tr AV) (s : St) : evOpen P lo nt (lift c) ops fr s = match (cOpen P nt ops).run c n lo fr s with | some (e, fr', s') => some (.code e fr' s') | none => none := by
  unfold evOpen cOpen
  rw [planR_eq ops.toList 0 [] [] rfl rfl, List.reverse_nil, List.reverse_nil]
  cases planGo ops [] [] ops.toList with
  | none => rfl
  | some l =>
    have h := cDraw_eq (P := P) (nt := nt) (lo := lo) (c := c) (ops := ops) l 0 ⟨[], [], [⟨s.h, 0⟩], fr, forceN s.n⟩ false false ⟨rfl, fun _ r hr => by simp at hr, fun _ => ⟨fun r hr => by simp at hr, _, rfl⟩⟩
    simp only [h]
    cases hk : cDraw P nt ops 0 l with
    | mk k =>
    simp only [Box.run, openF]
    cases k c lo false false ⟨[], [], [⟨s.h, 0⟩], fr, forceN s.n⟩ with
    | none => rfl
    | some r => rfl
/-! Code. -/
abbrev CodeF := CallF → Nat → Nat → Tr AV → St → Option (Ex × Tr AV × St)
noncomputable def loopF (b : Tr AV → St → Option (Ex × Tr AV × St)) (n : Nat) : Tr AV → St → Option (Ex × Tr AV × St) :=
  Nat.rec (motive := fun _ => Tr AV → St → Option (Ex × Tr AV × St)) (fun _ _ => none) (fun _ ih fr s => match b fr s with
    | some (.nrm, fr', s') => ih fr' s'
    | r => r) n
theorem loopF_succ (b : Tr AV → St → Option (Ex × Tr AV × St)) (n : Nat) (fr : Tr AV) (s : St) : loopF b (n + 1) fr s = match b fr s with
    | some (.nrm, fr', s') => loopF b n fr' s'
    | r => r := rfl
noncomputable def seqF (f g : CodeF) : CodeF := fun c n lo fr s => match f c n lo fr s with
  | some (.nrm, fr', s') => g c n lo fr' s'
  | r => r
noncomputable def condF (r : Ready) (f g : CodeF) : CodeF := fun c n lo fr s => useF r fr fun v => match v with
  | .bool t => bif t then f c n lo fr s else g c n lo fr s
  | _ => none
noncomputable def blockF (id : Nat) (f : CodeF) : CodeF := fun c n lo fr s => match f c n lo fr s with
  | some (.exit k, fr', s') => bif k == id then some (.nrm, fr', s') else some (.exit k, fr', s')
  | r => r
noncomputable def opsF (k : OpsF) : CodeF := fun c _ lo fr s => match k c lo fr s with
  | some (fr', s') => some (.nrm, fr', s')
  | none => none
noncomputable def cCode (P : Program) (nt : Nat) : Code → Box CodeF
  | .skip => .mk fun _ _ _ fr s => some (.nrm, fr, s)
  | .label _ => .mk fun _ _ _ fr s => some (.nrm, fr, s)
  | .region _ ops draw => bif draw then (bif P.follows .mixedOrders then cOpen P nt ops else .mk fun _ _ _ _ _ => none) else match cOps P nt ops ops.toList with
    | .mk k => .mk (opsF k)
  | .seq a b => match cCode P nt a with
    | .mk f => match cCode P nt b with
      | .mk g => .mk (seqF f g)
  | .cond x a b => match cCode P nt a with
    | .mk f => match cCode P nt b with
      | .mk g => .mk (condF (ready P x) f g)
  | .block id a => match cCode P nt a with
    | .mk f => .mk (blockF id f)
  | .loop a => match cCode P nt a with
    | .mk f => .mk fun c n lo fr s => loopF (f c n lo) n fr s
  | .exit id => .mk fun _ _ _ fr s => some (.exit id, fr, s)
  | .scope a => cCode P nt a
  | .ret => .mk fun _ _ _ fr s => some (.ret, fr, s)
  | _ => .mk fun _ _ _ _ _ => none
def FCallOk (P : Program) (c : CallF) : Prop :=
  ∀ lo f args s v s', c lo f args s = some (v, s') → ∀ (β : Beta) (w : World) (vs : Array Value), Sit β s w → Globs P β → Reps β args vs.toList →
    Calls P f vs w fun e w' => ∃ u β', e = .returned u ∧ Ext lo β s w β' s' w' ∧ Rep β' v u
theorem FCallOk.lift {P : Program} {c : CallF} (h : FCallOk P c) : CallOk P (lift c) := by
  intro lo f args s v s' e
  simp only [Ev.lift] at e
  split at e
  · rename_i v1 s1 hc
    cases e
    exact h lo f args s v s' hc
  · cases e
theorem cCode_ok {P : Program} {nt : Nat} {c : CallF} (hc : FCallOk P c) (n lo : Nat) : ∀ (code : Code) (fr : Tr AV) (s : St) (e : Ex) (fr' : Tr AV) (s' : St), (cCode P nt code).run c n lo fr s = some (e, fr', s') → ∀ (β : Beta) (w : World) (a : Act), Sit β s w → Globs P β → FRep β nt fr a →
    ∀ Q : Exit → Act → World → Prop, (∀ a' w' β', Ext lo β s w β' s' w' → FRep β' nt fr' a' → Q (exOf e) a' w') → code.wp P Q a w := by
  intro code
  induction code with
  | skip => intro fr s e fr' s' h β w a hs hg hf Q hQ; cases h; exact wp_skip (hQ a w β (Ext.refl hs) hf)
  | label l => intro fr s e fr' s' h β w a hs hg hf Q hQ; cases h; exact wp_label (hQ a w β (Ext.refl hs) hf)
  | exit k => intro fr s e fr' s' h β w a hs hg hf Q hQ; cases h; exact wp_exit (hQ a w β (Ext.refl hs) hf)
  | ret => intro fr s e fr' s' h β w a hs hg hf Q hQ; cases h; exact wp_ret (hQ a w β (Ext.refl hs) hf)
  | rangeFunc _ _ _ _ _ _ => intro fr s e fr' s' h; cases h
  | goto _ => intro fr s e fr' s' h; cases h
  | refuse _ => intro fr s e fr' s' h; cases h
  | region id ops draw =>
    intro fr s e fr' s' h β w a hs hg hf Q hQ
    cases draw with
    | true =>
      simp only [cCode, cond_true] at h
      cases hm : P.follows .mixedOrders with
      | false => rw [hm] at h; cases h
      | true =>
        rw [hm] at h
        simp only [cond_true] at h
        refine draw_ok (e := e) (fr' := fr') (s' := s') hc.lift hm ?_ hs hg hf hQ
        rw [cOpen_eq P nt lo n c ops fr s, h]
    | false =>
      simp only [cCode, cond_false] at h
      cases hk : cOps P nt ops ops.toList with
      | mk k =>
      rw [hk] at h
      simp only [Box.run, opsF] at h
      split at h
      case h_2 => cases h
      case h_1 fr1 s1 hr =>
      cases h
      refine region_ok hc.lift (e := .nrm) ?_ hs hg hf hQ
      rw [cOps_eq, run_mk hk, hr]
  | seq x y ihx ihy =>
    intro fr s e fr' s' h β w a hs hg hf Q hQ
    simp only [cCode] at h
    cases hx : cCode P nt x with
    | mk f =>
    cases hy : cCode P nt y with
    | mk g =>
    rw [hx, hy] at h
    simp only [Box.run, seqF] at h
    rw [hx] at ihx
    rw [hy] at ihy
    refine wp_seq ?_
    split at h
    case h_1 fr1 s1 h1 =>
      refine ihx fr s _ fr1 s1 h1 β w a hs hg hf _ ?_
      intro a1 w1 β1 hx1 hf1
      have hle := hx1.beta hs
      refine ihy fr1 s1 e fr' s' h β1 w1 a1 hx1.sit (hg.mono hle) hf1 Q ?_
      intro a2 w2 β2 hx2 hf2
      exact hQ a2 w2 β2 (hx1.trans hs hx2) hf2
    case h_2 hne =>
      refine ihx fr s e fr' s' h β w a hs hg hf _ ?_
      intro a1 w1 β1 hx1 hf1
      have := hQ a1 w1 β1 hx1 hf1
      cases e with
      | nrm => exact absurd h (hne _ _)
      | exit k => exact this
      | ret => exact this
  | cond x thn els iht ihe =>
    intro fr s e fr' s' h β w a hs hg hf Q hQ
    simp only [cCode] at h
    cases hx : cCode P nt thn with
    | mk f =>
    cases hy : cCode P nt els with
    | mk g =>
    rw [hx, hy] at h
    simp only [Box.run, condF, useF_eq] at h
    rw [hx] at iht
    rw [hy] at ihe
    split at h
    case h_2 => cases h
    case h_1 v hv =>
    split at h
    case h_2 => cases h
    case h_1 t =>
    refine wp_cond (opnd_ok hf hg hv) ?_
    cases t with
    | true => exact iht fr s e fr' s' h β w a hs hg hf Q hQ
    | false => exact ihe fr s e fr' s' h β w a hs hg hf Q hQ
  | block id x ihx =>
    intro fr s e fr' s' h β w a hs hg hf Q hQ
    simp only [cCode] at h
    cases hx : cCode P nt x with
    | mk f =>
    rw [hx] at h ihx
    simp only [Box.run, blockF] at h
    refine wp_block ?_
    split at h
    case h_1 k fr1 s1 h1 =>
      refine ihx fr s _ fr1 s1 h1 β w a hs hg hf _ ?_
      intro a1 w1 β1 hx1 hf1
      cases hk : (k == id) with
      | true =>
        rw [hk] at h
        cases h
        have := eq_of_beq hk
        simp only [exOf, Exit.inBlock, this, if_true]
        exact hQ a1 w1 β1 hx1 hf1
      | false =>
        rw [hk] at h
        cases h
        have : ¬ k = id := by simpa using hk
        simp only [exOf, Exit.inBlock, this, if_false]
        exact hQ a1 w1 β1 hx1 hf1
    case h_2 hne =>
      refine ihx fr s e fr' s' h β w a hs hg hf _ ?_
      intro a1 w1 β1 hx1 hf1
      have := hQ a1 w1 β1 hx1 hf1
      cases e with
      | nrm => exact this
      | exit k => exact absurd h (hne _ _ _)
      | ret => exact this
  | loop x ihx =>
    intro fr s e fr' s' h β w a hs hg hf Q hQ
    simp only [cCode] at h
    cases hx : cCode P nt x with
    | mk f =>
    rw [hx] at h ihx
    simp only [Box.run] at h
    have key : ∀ (m : Nat) (fr : Tr AV) (s : St) (β : Beta) (w : World) (a : Act), loopF (f c n lo) m fr s = some (e, fr', s') → Sit β s w → Globs P β → FRep β nt fr a → (∀ a' w' β', Ext lo β s w β' s' w' → FRep β' nt fr' a' → Q (exOf e) a' w') → Code.rounds P x Q m a w := by
      intro m
      induction m with
      | zero => intro fr s β w a h; cases h
      | succ m ihm =>
        intro fr s β w a h hs hg hf hQ
        rw [loopF_succ] at h
        rw [rounds_succ]
        split at h
        case h_1 fr1 s1 h1 =>
          refine ihx fr s _ fr1 s1 h1 β w a hs hg hf _ ?_
          intro a1 w1 β1 hx1 hf1
          have hle := hx1.beta hs
          refine ihm fr1 s1 β1 w1 a1 h hx1.sit (hg.mono hle) hf1 ?_
          intro a2 w2 β2 hx2 hf2
          exact hQ a2 w2 β2 (hx1.trans hs hx2) hf2
        case h_2 hne =>
          refine ihx fr s e fr' s' h β w a hs hg hf _ ?_
          intro a1 w1 β1 hx1 hf1
          have := hQ a1 w1 β1 hx1 hf1
          cases e with
          | nrm => exact absurd h (hne _ _)
          | exit k => exact this
          | ret => exact this
    exact wp_loop_rounds n (key n fr s β w a h hs hg hf hQ)
  | scope x ihx =>
    intro fr s e fr' s' h β w a hs hg hf Q hQ
    simp only [cCode] at h
    refine wp_scope_straight ?_
    refine ihx fr s e fr' s' h β w a hs hg hf _ ?_
    intro a1 w1 β1 hx1 hf1
    have := hQ a1 w1 β1 hx1 hf1
    cases e <;> exact this
/-! Calls. -/
noncomputable def funF (P : Program) (nt : Nat) (rs : List ResultVar) (g : CodeF) (c : CallF) (n lo : Nat) (args : List AV) (s : St) : Option (AV × St) :=
  bif !Nat.ble args.length nt then none else
  match g c n lo (startFr args) s with
  | some (e, fr', s') => bif exNrm e then
      match ress P s' fr' rs with
      | some l => some (oneOf l, s')
      | none => none
    else none
  | none => none
noncomputable def cFun (P : Program) (f : FuncId) : Option (Box (CallF → Nat → Nat → List AV → St → Option (AV × St))) :=
  match P.funcs[f]? with
  | some fn => match fn.body with
    | some body => match cCode P fn.ntmps body with
      | .mk g => some (.mk (funF P fn.ntmps fn.results.toList g))
    | none => none
  | none => none
noncomputable def runF (P : Program) (loops : Nat) (n : Nat) : CallF :=
  Nat.rec (motive := fun _ => CallF) (fun _ _ _ _ => none) (fun _ ih lo f args s => match cFun P f with
    | some (.mk g) => g ih loops lo args s
    | none => none) n
theorem runF_ok (P : Program) (loops : Nat) : ∀ n, FCallOk P (runF P loops n)
  | 0 => fun _ _ _ _ _ _ h => by cases h
  | n + 1 => by
    intro lo f args s v s' h β w vs hs hg ha
    have hih := runF_ok P loops n
    have h' : (match cFun P f with
      | some (.mk g) => g (runF P loops n) loops lo args s
      | none => none) = some (v, s') := h
    unfold cFun at h'
    cases hfn : P.funcs[f]? with
    | none => rw [hfn] at h'; cases h'
    | some fn =>
    rw [hfn] at h'
    simp only at h'
    cases hb : fn.body with
    | none => rw [hb] at h'; cases h'
    | some body =>
    rw [hb] at h'
    simp only at h'
    cases hcode : cCode P fn.ntmps body with
    | mk g =>
    rw [hcode] at h'
    simp only [funF] at h'
    cases hn : (!Nat.ble args.length fn.ntmps) with
    | true => rw [hn] at h'; cases h'
    | false =>
    rw [hn] at h'
    simp only [cond_false] at h'
    have hn' : args.length ≤ fn.ntmps := by simpa [Nat.ble_eq] using hn
    split at h'
    case h_2 => cases h'
    case h_1 e fr' s1 hrun =>
    cases he : exNrm e with
    | false => rw [he] at h'; cases h'
    | true =>
    rw [he] at h'
    simp only [cond_true] at h'
    split at h'
    case h_2 => cases h'
    case h_1 as has =>
    cases h'
    refine calls_of_wp hfn hb (cCode_ok hih loops lo body (startFr args) s e fr' s' (by rw [hcode]; exact hrun) β w _ hs hg (start_ok ha hn') _ ?_)
    intro a' w' β' hx hf'
    obtain ⟨u, h1, h2⟩ := results_ok hx.sit hf' has
    have fin : a'.defers = [] ∧ ∃ v, (results fn a'.tmps).run P w' = .ok v w' ∧ ∃ u β', Ending.returned v = .returned u ∧ Ext lo β s w β' s' w' ∧ Rep β' (oneOf as) u := ⟨hf'.defers, u, h1, u, β', rfl, hx, h2⟩
    cases e with
    | nrm => exact fin
    | ret => exact fin
    | exit k => cases he
def trueF : Option (AV × St) → Bool
  | some (.bool b, _) => b
  | _ => false
theorem closed_fast {P : Program} {W : World} (hsh : W.ShapedOpen P) {tabs : List (Nat × List Int)} (ht : ∀ x ∈ tabs, HoldsAt W x.1 x.2 ∧ x.1 < P.globals.size) {m n : Nat} {f : FuncId} (h : trueF (runF P m n P.globals.size f [] ⟨heapOf tabs, P.globals.size⟩) = true) :
    Calls P f #[] W fun e w' => e = .returned (.bool true) ∧ Below W.heap.size W w' := by
  obtain ⟨hs, hg⟩ := sit_start hsh ht
  unfold trueF at h
  split at h
  case h_2 => cases h
  case h_1 b s' he =>
  subst h
  refine (runF_ok P m n _ f [] _ _ s' he _ W #[] hs hg rfl).mono ?_
  rintro e w' ⟨u, β', rfl, hx, hr⟩
  refine ⟨by rw [show u = .bool true from hr], hx.os, hx.tape, hx.output, hx.size, fun k hk => hx.keep k hk ?_⟩
  intro i p hi hl hp
  obtain ⟨c, hc⟩ := hl
  obtain ⟨q, hq, _⟩ := hs.blk i c hc
  have := (hs.low i q hq).1
  simp only at this
  omega
end Ev
end Go.Proofs.Ytnajbogmhhlpcaa
namespace Go.Proofs.Ytnajbogmhhlpcaa
open Go.RowKit
namespace Ev
set_option linter.unusedSectionVars false
variable [Env]
/-! Other names. -/
mutual
def ren (r : Nat → Nat) : AV → AV
  | .sym s => .sym s
  | .ptr b off => .ptr (r b) off
  | .slc b off len cap => .slc (r b) off len cap
  | .map b => .map (r b)
  | .fn f cap => .fn f (rens r cap)
  | .ifc t a => .ifc t (ren r a)
  | .agg l => .agg (rens r l)
  | .tup l => .tup (rens r l)
  | .int k n => .int k n
  | .bool b => .bool b
  | .str s => .str s
  | .flt k b => .flt k b
  | .nilp => .nilp
  | .nils => .nils
  | .emp => .emp
  | .nilm => .nilm
  | .nilf => .nilf
  | .nili => .nili
def rens (r : Nat → Nat) : List AV → List AV
  | [] => []
  | a :: l => ren r a :: rens r l
end
def mapT {α β : Type} (f : α → β) : Tr α → Tr β
  | .lf => .lf
  | .nd l v r => .nd (mapT f l) (match v with | some x => some (f x) | none => none) (mapT f r)
def renM (r : Nat → Nat) : List (AV × AV) → List (AV × AV)
  | [] => []
  | (a, b) :: l => (ren r a, ren r b) :: renM r l
def renB (r : Nat → Nat) : Blk → Blk
  | .cells T n zs t opn rw => .cells T n (rens r zs) (mapT (ren r) t) opn rw
  | .map l => .map (renM r l)
  | .iter s pos => .iter s pos
theorem get_mapT {α β : Type} (f : α → β) (k : Pth) : ∀ t : Tr α, Tr.get k (mapT f t) = (Tr.get k t).map f := by
  induction k with
  | h => intro t; cases t with
    | lf => rfl
    | nd l v r => cases v <;> rfl
  | o p ih => intro t; cases t with
    | lf => rfl
    | nd l v r => exact ih l
  | i p ih => intro t; cases t with
    | lf => rfl
    | nd l v r => exact ih r
theorem rens_length (r : Nat → Nat) : ∀ l : List AV, (rens r l).length = l.length
  | [] => rfl
  | _ :: l => by rw [rens, List.length_cons, List.length_cons, rens_length r l]
theorem nthA_rens (r : Nat → Nat) : ∀ (l : List AV) (i : Nat), nthA (rens r l) i = (nthA l i).map (ren r)
  | [], _ => by simp [rens, nthA]
  | _ :: _, 0 => rfl
  | _ :: l, i + 1 => by simpa [rens, nthA] using nthA_rens r l i
theorem cellAt_ren (r : Nat → Nat) (n : Nat) (zs : List AV) (t : Tr AV) (i : Nat) : cellAt n (rens r zs) (mapT (ren r) t) i = (cellAt n zs t i).map (ren r) := by
  unfold cellAt
  cases Nat.blt i n with
  | false => rfl
  | true =>
    simp only [cond_true, get_mapT, rens_length, nthA_rens]
    cases Tr.get (path i) t <;> rfl
section
variable {β β' : Beta} {r : Nat → Nat}
mutual
theorem Rep.ren (hr : ∀ i p, β i = some p → β' (r i) = some p) : ∀ (a : AV) (v : Value), Rep β a v → Rep β' (ren r a) v
  | .sym _, _, e => e
  | .int .., _, e => e
  | .bool _, _, e => e
  | .str _, _, e => e
  | .flt .., _, e => e
  | .ptr .., _, ⟨n, t, e, q⟩ => ⟨n, t, hr _ _ e, q⟩
  | .nilp, _, e => e
  | .slc .., _, ⟨n, t, c, e, q⟩ => ⟨n, t, c, hr _ _ e, q⟩
  | .nils, _, e => e
  | .emp, _, e => e
  | .map _, _, ⟨n, t, e, q⟩ => ⟨n, t, hr _ _ e, q⟩
  | .nilm, _, e => e
  | .fn _ cap, _, ⟨vs, e, q⟩ => ⟨vs, e, Reps.ren hr cap _ q⟩
  | .nilf, _, e => e
  | .ifc _ a, _, ⟨u, e, q⟩ => ⟨u, e, Rep.ren hr a u q⟩
  | .nili, _, e => e
  | .agg l, _, ⟨vs, e, q⟩ => ⟨vs, e, Reps.ren hr l _ q⟩
  | .tup l, _, ⟨vs, e, q⟩ => ⟨vs, e, Reps.ren hr l _ q⟩
theorem Reps.ren (hr : ∀ i p, β i = some p → β' (r i) = some p) : ∀ (l : List AV) (vs : List Value), Reps β l vs → Reps β' (rens r l) vs
  | [], _, e => e
  | a :: l, _, ⟨u, q, e, ha, hl⟩ => ⟨u, q, e, Rep.ren hr a u ha, Reps.ren hr l q hl⟩
end
theorem MapRep.ren (hr : ∀ i p, β i = some p → β' (r i) = some p) : ∀ (l : List (AV × AV)) (es : List MapEntry), MapRep β l es → MapRep β' (renM r l) es
  | [], _, e => e
  | (_, _) :: l, _, ⟨e, q, he, hk, hv, hl⟩ => ⟨e, q, he, Rep.ren hr _ _ hk, Rep.ren hr _ _ hv, MapRep.ren hr l q hl⟩
theorem BRep.ren (hr : ∀ i p, β i = some p → β' (r i) = some p) : ∀ {b : Blk} {o : Option Obj} {t : Nat}, BRep β b o t → BRep β' (renB r b) o t
  | .cells .., _, _, ⟨cs, T', fr, a, b, c, d, e, f⟩ => ⟨cs, T', fr, a, b, c, d, e, fun i v hv => by
      rw [cellAt_ren] at hv
      obtain ⟨v0, h0, rfl⟩ := Option.map_eq_some_iff.1 hv
      obtain ⟨u, h1, h2⟩ := f i v0 h0
      exact ⟨u, h1, Rep.ren hr _ _ h2⟩⟩
  | .map _, _, _, ⟨es, cl, a, b⟩ => ⟨es, cl, a, MapRep.ren hr _ _ b⟩
  | .iter .., _, _, h => h
end
/-! What a call made, told in full. -/
structure Sum where
  v : AV
  blks : List (Nat × Blk)
  n : Nat
def sameM : List (AV × AV) → List (AV × AV) → Bool
  | [], [] => true
  | (a, b) :: l, (c, d) :: r => sameAV a c && sameAV b d && sameM l r
  | _, _ => false
theorem sameM_eq : ∀ {l r : List (AV × AV)}, sameM l r = true → l = r
  | [], [], _ => rfl
  | (a, b) :: l, (c, d) :: r, h => by
    simp only [sameM, Bool.and_eq_true] at h
    rw [sameAV_eq h.1.1, sameAV_eq h.1.2, sameM_eq h.2]
  | [], _ :: _, h => by simp [sameM] at h
  | _ :: _, [], h => by simp [sameM] at h
def sameO (a b : Option AV) : Bool := match a, b with
  | none, none => true
  | some a, some b => sameAV a b
  | _, _ => false
theorem sameO_eq {a b : Option AV} (h : sameO a b = true) : a = b := by
  cases a <;> cases b <;> simp only [sameO, reduceCtorEq] at h ⊢
  · rw [sameAV_eq h]
/-- the first k cells are the same. -/
noncomputable def sameCells (n : Nat) (zs : List AV) (t : Tr AV) (zs' : List AV) (t' : Tr AV) : Nat → Bool
  | 0 => true
  | k + 1 => sameO (cellF n zs t k) (cellF n zs' t' k) && sameCells n zs t zs' t' k
theorem sameCells_at {n : Nat} {zs : List AV} {t : Tr AV} {zs' : List AV} {t' : Tr AV} : ∀ {k : Nat}, sameCells n zs t zs' t' k = true → ∀ i, i < k → cellAt n zs t i = cellAt n zs' t' i
  | 0, _, i, hi => by omega
  | k + 1, h, i, hi => by
    simp only [sameCells, Bool.and_eq_true, cellF_eq] at h
    by_cases e : i = k
    · rw [e]; exact sameO_eq h.1
    · exact sameCells_at h.2 i (by omega)
noncomputable def sameBlk : Blk → Blk → Bool
  | .cells T n zs t o w, .cells T' n' zs' t' o' w' => Nat.beq T T' && Nat.beq n n' && (o == o') && (w == w') && sameCells n zs t zs' t' n
  | .map l, .map l' => sameM l l'
  | _, _ => false
theorem sameBlk_rep {β : Beta} {a b : Blk} {o : Option Obj} {t : Nat} (h : sameBlk a b = true) (hr : BRep β a o t) : BRep β b o t := by
  cases a with
  | iter s p => cases b <;> simp [sameBlk] at h
  | map l => cases b with
    | map l' => rw [← sameM_eq (by simpa [sameBlk] using h : sameM l l' = true)]; exact hr
    | _ => simp [sameBlk] at h
  | cells T n zs tr op w => cases b with
    | cells T' n' zs' tr' op' w' =>
      simp only [sameBlk, Bool.and_eq_true, Nat.beq_eq, beq_iff_eq] at h
      obtain ⟨⟨⟨⟨h1, h2⟩, h3⟩, h4⟩, h5⟩ := h
      subst h1 h2 h3 h4
      obtain ⟨cs, T1, fr, a, b, c, d, e, f⟩ := hr
      refine ⟨cs, T1, fr, a, b, c, d, e, fun i v hv => f i v ?_⟩
      rw [sameCells_at h5 i (cellAt_lt hv)]
      exact hv
    | _ => simp [sameBlk] at h
noncomputable def blksIn (g : Nat) (h : Tr Blk) : List (Nat × Blk) → Bool
  | [] => true
  | (i, b) :: l => Nat.ble g i && (match getF (path i) h with
    | some a => sameBlk a b
    | none => false) && blksIn g h l
theorem blksIn_at {g : Nat} {h : Tr Blk} : ∀ {l : List (Nat × Blk)}, blksIn g h l = true → ∀ i b, (i, b) ∈ l → g ≤ i ∧ ∃ a, h.get (path i) = some a ∧ sameBlk a b = true
  | [], _, _, _, hm => by cases hm
  | (j, c) :: l, hb, i, b, hm => by
    simp only [blksIn, Bool.and_eq_true, getF_eq, Nat.ble_eq] at hb
    obtain ⟨⟨h1, h2⟩, h3⟩ := hb
    rcases List.mem_cons.1 hm with e | e
    · cases e
      refine ⟨h1, ?_⟩
      split at h2
      · rename_i a ha
        exact ⟨a, ha, h2⟩
      · cases h2
    · exact blksIn_at h3 i b e
noncomputable def fits (S : Sum) (g : Nat) : Option (AV × St) → Bool
  | some (v, s) => sameAV v S.v && Nat.ble s.n S.n && blksIn g s.h S.blks
  | none => false
def intsFrom (t : Nat → Option AV) : List Int → Nat → Bool
  | [], _ => true
  | x :: l, i => sameO (t i) (some (.int .i64 x)) && intsFrom t l (i + 1)
theorem intsFrom_at {t : Nat → Option AV} : ∀ {l : List Int} {i : Nat}, intsFrom t l i = true → ∀ j x, l[j]? = some x → t (i + j) = some (.int .i64 x)
  | [], _, _, _, _, hx => by simp at hx
  | y :: l, i, h, 0, x, hx => by
    simp only [intsFrom, Bool.and_eq_true] at h
    simp at hx
    subst hx
    exact sameO_eq h.1
  | y :: l, i, h, j + 1, x, hx => by
    simp only [intsFrom, Bool.and_eq_true] at h
    have := intsFrom_at h.2 j x (by simpa using hx)
    rw [show i + (j + 1) = i + 1 + j by omega]
    exact this
/-- the tables stand. -/
noncomputable def tabsIn (h : Tr Blk) : List (Nat × List Int) → Bool
  | [] => true
  | (g, L) :: l => (match getF (path g) h with
    | some (.cells _ n zs t false _) => Nat.beq n L.length && intsFrom (cellF n zs t) L 0
    | _ => false) && tabsIn h l
theorem tabsIn_at {P : Program} {β : Beta} {s : St} {w : World} (hs : Sit β s w) (hg : Globs P β) : ∀ {l : List (Nat × List Int)}, tabsIn s.h l = true → (∀ x ∈ l, x.1 < P.globals.size) → ∀ x ∈ l, HoldsAt w x.1 x.2 ∧ β x.1 = some (x.1, x.2.length)
  | [], _, _, _, hx => by cases hx
  | (g, L) :: l, h, hlt, x, hx => by
    simp only [tabsIn, Bool.and_eq_true, getF_eq] at h
    rcases List.mem_cons.1 hx with e | e
    · cases e
      have h1 := h.1
      split at h1
      case h_2 => cases h1
      case h_1 T n zs t rw he =>
      simp only [Bool.and_eq_true, Nat.beq_eq] at h1
      obtain ⟨hn, hi⟩ := h1
      obtain ⟨p, hp, cs, T', fr, ho, hsz, _, hop, _, hat⟩ := hs.blk _ _ he
      obtain ⟨t0, ht0⟩ := hg g (hlt (g, L) (by simp))
      rw [hp] at ht0
      cases ht0
      have h3 : t0 = n := hop rfl
      refine ⟨⟨T', fr, ?_⟩, by rw [hp, h3, hn]⟩
      simp only at ho hsz
      rw [ho]
      have hlen : cs.size = L.length := by rw [hsz, h3, hn]
      have : cs = (L.map (Value.int .i64)).toArray := by
        apply Array.ext
        · simp [hlen]
        · intro i h1 h2
          have hiL : i < L.length := by omega
          have := intsFrom_at hi i L[i] (List.getElem?_eq_getElem hiL)
          rw [cellF_eq, Nat.zero_add] at this
          obtain ⟨u, hu, hr⟩ := hat i _ this
          rw [Array.getElem?_eq_getElem h1] at hu
          have hr' : u = .int .i64 L[i] := hr
          simp only [Option.some.injEq] at hu
          rw [hu, hr']
          simp
      rw [this]
    · exact tabsIn_at hs hg h.2 (fun y hy => hlt y (by simp [hy])) x e
noncomputable def addBlks (k : Nat) (g : Nat) (h : Tr Blk) : List (Nat × Blk) → Tr Blk
  | [] => h
  | (i, b) :: l => setF (some (renB (fun j => bif Nat.blt j g then j else Nat.add j k) b)) (path (Nat.add i k)) (addBlks k g h l)
theorem addBlks_get {k g : Nat} {h : Tr Blk} : ∀ {l : List (Nat × Blk)} {i : Nat} {b : Blk}, (addBlks k g h l).get (path i) = some b → (∃ j c, (j, c) ∈ l ∧ i = j + k ∧ b = renB (fun j => bif Nat.blt j g then j else Nat.add j k) c) ∨ h.get (path i) = some b
  | [], _, _, e => .inr e
  | (j, c) :: l, i, b, e => by
    simp only [addBlks, setF_eq, get_put] at e
    split at e
    · rename_i hi
      cases e
      exact .inl ⟨j, c, by simp, hi, rfl⟩
    · rcases addBlks_get e with ⟨j', c', h1, h2, h3⟩ | h1
      · exact .inl ⟨j', c', by simp [h1], h2, h3⟩
      · exact .inr h1
def noArgs : List AV → Bool
  | [] => true
  | _ => false
noncomputable def sumF (P : Program) (tabs : List (Nat × List Int)) (f0 : FuncId) (S : Sum) (c : CallF) : CallF := fun lo f args s =>
  bif Nat.beq f f0 && noArgs args && Nat.beq lo P.globals.size && Nat.ble P.globals.size s.n && tabsIn s.h tabs then
    some (ren (fun j => bif Nat.blt j P.globals.size then j else Nat.add j (s.n - P.globals.size)) S.v, ⟨addBlks (s.n - P.globals.size) P.globals.size s.h S.blks, forceN (s.n + (S.n - P.globals.size))⟩)
  else c lo f args s
theorem sh_lt {g k j : Nat} (h : j < g) : (bif Nat.blt j g then j else Nat.add j k) = j := by
  have : Nat.blt j g = true := blt_of h
  rw [this]; rfl
theorem sh_ge {g k j : Nat} (h : g ≤ j) : (bif Nat.blt j g then j else Nat.add j k) = j + k := by
  have : Nat.blt j g = false := by
    cases e : Nat.blt j g with
    | false => rfl
    | true =>
      have : j < g := by
        have q := e
        simp [Nat.blt, Nat.ble_eq] at q
        omega
      omega
  rw [this]; rfl
/-- At any place where the tables stand, what the call made lies behind all that is there. -/
theorem sum_ext {β β1 : Beta} {s s1 : St} {w w' : World} {g k : Nat} {tabs : List (Nat × List Int)} {L : List (Nat × Blk)} {n1 : Nat}
    (hs : Sit β s w) (hgn : g + k = s.n) (htg : ∀ x ∈ tabs, x.1 < g) (hx : Ext g (fun i => if i < g then β i else none) ⟨heapOf tabs, g⟩ w β1 s1 w') (hL : blksIn g s1.h L = true) (hn : s1.n ≤ n1) :
    ∃ β', Ext g β s w β' ⟨addBlks k g s.h L, n1 + k⟩ w' ∧ (∀ i p, β1 i = some p → β' (bif Nat.blt i g then i else Nat.add i k) = some p) := by
  have live0 : ∀ i, Live (heapOf tabs) i → i < g := by
    rintro i ⟨b, hb⟩
    obtain ⟨M, h1, _⟩ := heapOf_get hb
    exact htg _ h1
  have hfresh : ∀ i p, g ≤ i → β1 i = some p → w.heap.size ≤ p.1 := by
    intro i p hi hp
    rcases hx.new i p hi hp with h | ⟨j, q, h1, h2, _⟩
    · exact h
    · have := live0 j h2; omega
  have hkeep : ∀ b, b < w.heap.size → w'.heap[b]? = w.heap[b]? := by
    intro b hb
    refine hx.keep b hb ?_
    intro i p hi hl
    have := live0 i hl
    omega
  refine ⟨fun i => if i < s.n then β i else β1 (i - k), ?_, ?_⟩
  · have new_of : ∀ j c, (j, c) ∈ L → g ≤ j ∧ ∃ p, β1 j = some p ∧ BRep β1 c w'.heap[p.1]? p.2 ∧ Live s1.h j := by
      intro j c hm
      obtain ⟨h1, a, h2, h3⟩ := blksIn_at hL j c hm
      obtain ⟨p, h4, h5⟩ := hx.sit.blk j a h2
      exact ⟨h1, p, h4, sameBlk_rep h3 h5, a, h2⟩
    have live_of : ∀ i, Live (addBlks k g s.h L) i → (∃ j, i = j + k ∧ g ≤ j ∧ Live s1.h j) ∨ (Live s.h i ∧ i < s.n) := by
      rintro i ⟨b, hb⟩
      rcases addBlks_get hb with ⟨j, c, h1, h2, _⟩ | h1
      · obtain ⟨h3, p, _, _, h4⟩ := new_of j c h1
        exact .inl ⟨j, h2, h3, h4⟩
      · obtain ⟨p, h2, _⟩ := hs.blk i b h1
        exact .inr ⟨⟨b, h1⟩, (hs.low i p h2).1⟩
    have hren : ∀ i p, β1 i = some p → (fun i => if i < s.n then β i else β1 (i - k)) (bif Nat.blt i g then i else Nat.add i k) = some p := by
      intro i p hp
      by_cases hi : i < g
      · rw [sh_lt hi]
        have := hx.same i hi
        try simp only at this
        rw [if_pos hi] at this
        try simp only
        rw [if_pos (by omega), ← this]
        exact hp
      · rw [sh_ge (by omega)]
        try simp only
        rw [if_neg (by omega), Nat.add_sub_cancel]
        exact hp
    have bt : ∀ i p, (if i < s.n then β i else β1 (i - k)) = some p → (i < s.n ∧ β i = some p ∧ p.1 < w.heap.size) ∨ (s.n ≤ i ∧ β1 (i - k) = some p ∧ w.heap.size ≤ p.1) := by
      intro i p hp
      by_cases hi : i < s.n
      · rw [if_pos hi] at hp
        exact .inl ⟨hi, hp, (hs.low i p hp).2⟩
      · rw [if_neg hi] at hp
        exact .inr ⟨by omega, hp, hfresh (i - k) p (by omega) hp⟩
    refine ⟨⟨?_, ?_, ?_⟩, hx.os, hx.tape, hx.output, hx.size, fun i hi => if_pos hi, ?_, fun b hb _ => hkeep b hb, ?_, ?_⟩
    · intro i b hb
      rcases addBlks_get hb with ⟨j, c, h1, h2, h3⟩ | h1
      · obtain ⟨h4, p, h5, h6, _⟩ := new_of j c h1
        subst h2 h3
        refine ⟨p, ?_, BRep.ren hren h6⟩
        rw [if_neg (by omega), Nat.add_sub_cancel]
        exact h5
      · obtain ⟨p, h2, h3⟩ := hs.blk i b h1
        have hlow := hs.low i p h2
        refine ⟨p, ?_, ?_⟩
        · try simp only
          rw [if_pos hlow.1]; exact h2
        · rw [hkeep p.1 hlow.2]
          refine BRep.mono ?_ h3
          intro j q hq
          try simp only
          rw [if_pos (hs.low j q hq).1]; exact hq
    · intro i j p q hi hj hp hq hpq
      try simp only at hp hq
      rcases bt i p hp with ⟨a1, a2, a3⟩ | ⟨a1, a2, a3⟩ <;> rcases bt j q hq with ⟨b1, b2, b3⟩ | ⟨b1, b2, b3⟩
      · rcases live_of i hi with ⟨i', e, hi', _⟩ | ⟨hi', _⟩
        · omega
        · rcases live_of j hj with ⟨j', e, hj', _⟩ | ⟨hj', _⟩
          · omega
          · exact hs.inj i j p q hi' hj' a2 b2 hpq
      · omega
      · omega
      · rcases live_of i hi with ⟨i', e, _, hi'⟩ | ⟨_, hi'⟩
        · rcases live_of j hj with ⟨j', e2, _, hj'⟩ | ⟨_, hj'⟩
          · subst e e2
            rw [Nat.add_sub_cancel] at a2 b2
            have := hx.sit.inj i' j' p q hi' hj' a2 b2 hpq
            omega
          · omega
        · omega
    · intro i p hp
      try simp only at hp
      rcases bt i p hp with ⟨a1, a2, a3⟩ | ⟨a1, a2, a3⟩
      · have := hx.size
        have := hx.le
        try simp only at this
        exact ⟨by show i < n1 + k; omega, by omega⟩
      · have := hx.sit.low (i - k) p a2
        exact ⟨by show i < n1 + k; omega, this.2⟩
    · have := hx.le
      try simp only at this
      show s.n ≤ n1 + k
      omega
    · intro i p hi hp
      try simp only at hp
      rw [if_neg (by omega)] at hp
      exact .inl (hfresh (i - k) p (by omega) hp)
    · intro i hi hl
      rcases live_of i hl with ⟨j, e, h1, _⟩ | ⟨h1, _⟩
      · omega
      · exact h1
  · intro i p hp
    by_cases hi : i < g
    · rw [sh_lt hi]
      have := hx.same i hi
      try simp only at this
      rw [if_pos hi] at this
      try simp only
      rw [if_pos (by omega), ← this]
      exact hp
    · rw [sh_ge (by omega)]
      try simp only
      rw [if_neg (by omega), Nat.add_sub_cancel]
      exact hp
theorem sit_tabs {P : Program} {β : Beta} {s : St} {w : World} (hs : Sit β s w) (hg : Globs P β) {tabs : List (Nat × List Int)} (ht : tabsIn s.h tabs = true) (htg : ∀ x ∈ tabs, x.1 < P.globals.size) :
    Sit (fun i => if i < P.globals.size then β i else none) ⟨heapOf tabs, P.globals.size⟩ w := by
  have at_ : ∀ i p, (if i < P.globals.size then β i else none) = some p → i < P.globals.size ∧ β i = some p ∧ p.1 = i := by
    intro i p hp
    by_cases hi : i < P.globals.size
    · rw [if_pos hi] at hp
      obtain ⟨t, ht⟩ := hg i hi
      rw [hp] at ht
      cases ht
      exact ⟨hi, hp, rfl⟩
    · rw [if_neg hi] at hp; cases hp
  refine ⟨?_, ?_, ?_⟩
  · intro i b hb
    obtain ⟨L, h1, rfl⟩ := heapOf_get hb
    obtain ⟨⟨t, fr, hw⟩, hb2⟩ := tabsIn_at hs hg ht htg _ h1
    have hi : i < P.globals.size := htg _ h1
    refine ⟨(i, L.length), ?_, ?_⟩
    · try simp only
      rw [if_pos hi]
      exact hb2
    · simp only at hw
      refine ⟨_, t, fr, hw, by simp, Nat.le_refl _, fun _ => rfl, fun e => (by cases e), ?_⟩
      intro k v hk
      have hk' : (L.map (AV.int .i64))[k]? = some v := by
        have hlen : (L.map (AV.int .i64)).length = L.length := by simp
        have := hk
        rw [← hlen] at this
        exact cellAt_rowOf this
      obtain ⟨u, hu, hr⟩ := (ints_reps _ L).at k v hk'
      exact ⟨u, by rw [List.getElem?_toArray]; exact hu, hr⟩
  · intro i j p q _ _ hp hq hpq
    obtain ⟨_, _, h1⟩ := at_ i p hp
    obtain ⟨_, _, h2⟩ := at_ j q hq
    omega
  · intro i p hp
    obtain ⟨h1, h2, _⟩ := at_ i p hp
    exact ⟨h1, (hs.low i p h2).2⟩
theorem sumF_ok {P : Program} {tabs : List (Nat × List Int)} (htg : ∀ x ∈ tabs, x.1 < P.globals.size) {f0 : FuncId} {S : Sum} {c0 : CallF} (h0 : FCallOk P c0)
    (hfit : fits S P.globals.size (c0 P.globals.size f0 [] ⟨heapOf tabs, P.globals.size⟩) = true) {c : CallF} (hc : FCallOk P c) : FCallOk P (sumF P tabs f0 S c) := by
  intro lo f args s v s' e β w vs hs hg ha
  unfold sumF at e
  rw [Bool.cond_eq_ite] at e
  split at e
  case isFalse => exact hc lo f args s v s' e β w vs hs hg ha
  case isTrue hcond =>
  simp only [Bool.and_eq_true, Nat.beq_eq, Nat.ble_eq] at hcond
  obtain ⟨⟨⟨⟨hf, hna⟩, hlo⟩, hgn⟩, ht⟩ := hcond
  cases args with
  | cons _ _ => cases hna
  | nil =>
  have hvs : vs = #[] := by
    have : vs.toList = [] := ha
    simpa using this
  subst hf hlo hvs
  unfold fits at hfit
  split at hfit
  case h_2 => cases hfit
  case h_1 v0 s1 hrun =>
  simp only [Bool.and_eq_true, Nat.ble_eq] at hfit
  obtain ⟨⟨hv, hn⟩, hL⟩ := hfit
  have hg0 : Globs P (fun i => if i < P.globals.size then β i else none) := fun g hlt => let ⟨t, e⟩ := hg g hlt; ⟨t, by simp only [if_pos hlt, e]⟩
  refine (h0 _ f [] _ v0 s1 hrun _ w #[] (sit_tabs hs hg ht htg) hg0 rfl).mono ?_
  rintro e' w' ⟨u, β1, rfl, hx, hr⟩
  have hle : P.globals.size ≤ s1.n := hx.le
  obtain ⟨β', h1, h2⟩ := sum_ext hs (k := s.n - P.globals.size) (by omega) htg hx hL hn
  have hnn : forceN (s.n + (S.n - P.globals.size)) = S.n + (s.n - P.globals.size) := by rw [forceN_eq]; omega
  rw [hnn] at e
  cases e
  refine ⟨u, β', rfl, h1, ?_⟩
  rw [← sameAV_eq hv]
  exact Rep.ren h2 v0 u hr
/-! The runner, with what is known of calls. -/
noncomputable def stepW (P : Program) (loops : Nat) (c : CallF) : CallF := fun lo f args s => match cFun P f with
  | some (.mk g) => g c loops lo args s
  | none => none
theorem stepW_ok {P : Program} {loops : Nat} {c : CallF} (hih : FCallOk P c) : FCallOk P (stepW P loops c) := by
  intro lo f args s v s' h β w vs hs hg ha
  have h' : (match cFun P f with
    | some (.mk g) => g c loops lo args s
    | none => none) = some (v, s') := h
  unfold cFun at h'
  cases hfn : P.funcs[f]? with
  | none => rw [hfn] at h'; cases h'
  | some fn =>
  rw [hfn] at h'
  simp only at h'
  cases hb : fn.body with
  | none => rw [hb] at h'; cases h'
  | some body =>
  rw [hb] at h'
  simp only at h'
  cases hcode : cCode P fn.ntmps body with
  | mk g =>
  rw [hcode] at h'
  simp only [funF] at h'
  cases hn : (!Nat.ble args.length fn.ntmps) with
  | true => rw [hn] at h'; cases h'
  | false =>
  rw [hn] at h'
  simp only [cond_false] at h'
  have hn' : args.length ≤ fn.ntmps := by simpa [Nat.ble_eq] using hn
  split at h'
  case h_2 => cases h'
  case h_1 e fr' s1 hrun =>
  cases he : exNrm e with
  | false => rw [he] at h'; cases h'
  | true =>
  rw [he] at h'
  simp only [cond_true] at h'
  split at h'
  case h_2 => cases h'
  case h_1 as has =>
  cases h'
  refine calls_of_wp hfn hb (cCode_ok hih loops lo body (startFr args) s e fr' s' (by rw [hcode]; exact hrun) β w _ hs hg (start_ok ha hn') _ ?_)
  intro a' w' β' hx hf'
  obtain ⟨u, h1, h2⟩ := results_ok hx.sit hf' has
  have fin : a'.defers = [] ∧ ∃ v, (results fn a'.tmps).run P w' = .ok v w' ∧ ∃ u β', Ending.returned v = .returned u ∧ Ext lo β s w β' s' w' ∧ Rep β' (oneOf as) u := ⟨hf'.defers, u, h1, u, β', rfl, hx, h2⟩
  cases e with
  | nrm => exact fin
  | ret => exact fin
  | exit k => cases he
noncomputable def runW (P : Program) (loops : Nat) (k : CallF → CallF) (n : Nat) : CallF :=
  Nat.rec (motive := fun _ => CallF) (fun _ _ _ _ => none) (fun _ ih => k (stepW P loops ih)) n
theorem runW_ok {P : Program} {loops : Nat} {k : CallF → CallF} (hk : ∀ c, FCallOk P c → FCallOk P (k c)) : ∀ n, FCallOk P (runW P loops k n)
  | 0 => fun _ _ _ _ _ _ h => by cases h
  | n + 1 => hk _ (stepW_ok (runW_ok hk n))
theorem run_with {P : Program} {W : World} (hsh : W.ShapedOpen P) {tabs : List (Nat × List Int)} (ht : ∀ x ∈ tabs, HoldsAt W x.1 x.2 ∧ x.1 < P.globals.size) {c : CallF} (hc : FCallOk P c) {f : FuncId} {as : List AV} {vs : Array Value} (ha : ∀ β, Reps β as vs.toList) (h : trueF (c P.globals.size f as ⟨heapOf tabs, P.globals.size⟩) = true) :
    Calls P f vs W fun e w' => e = .returned (.bool true) ∧ Below W.heap.size W w' := by
  obtain ⟨hs, hg⟩ := sit_start hsh ht
  unfold trueF at h
  split at h
  case h_2 => cases h
  case h_1 b s' he =>
  subst h
  refine (hc _ f as _ _ s' he _ W vs hs hg (ha _)).mono ?_
  rintro e w' ⟨u, β', rfl, hx, hr⟩
  refine ⟨by rw [show u = .bool true from hr], hx.os, hx.tape, hx.output, hx.size, fun k hk => hx.keep k hk ?_⟩
  intro i p hi hl hp
  obtain ⟨c, hc⟩ := hl
  obtain ⟨q, hq, _⟩ := hs.blk i c hc
  have := (hs.low i q hq).1
  simp only at this
  omega
theorem rep_text {β : Beta} {x : ByteArray} {s : List UInt8} (h : x.data.toList = s) : Rep β (.str s) (.string x) := by
  show Value.string x = Value.string ⟨s.toArray⟩
  rw [← h]
theorem rep_none {β : Beta} {i : Nat} {x : ByteArray} {l : List (List UInt8)} (h : ¬ Env.txt i ∈ l) (e : Env.txt i = x.data.toList := by rfl) : Rep β (.sym (.txt i l)) (.string x) := by
  refine ⟨?_, fun y hy e' => h (e' ▸ hy)⟩
  rw [e]
theorem rep_num {β : Beta} {x : Int} (h : (Lit.int .i64 x).wf = true) (e : Env.num = x := by rfl) : Rep β (.sym (.lin false 0 1)) (.int .i64 x) := by
  show Value.int .i64 x = Value.int .i64 (IntKind.i64.wrap (0 + 1 * Env.num))
  have h' : IntKind.i64.min ≤ x ∧ x ≤ IntKind.i64.max := by simpa [Lit.wf] using h
  have e1 : IntKind.i64.min = -9223372036854775808 := by decide
  have e2 : IntKind.i64.max = 9223372036854775807 := by decide
  have h1 : IntKind.i64.wrap x = x := by rw [IntKind.wrap_i64]; omega
  rw [e, Int.one_mul, Int.zero_add, h1]
omit [Env] in
theorem tmod_cases (x m : Int) (hm : 0 < m) : -m < x.tmod m ∧ x.tmod m < m := by
  refine ⟨?_, Int.tmod_lt_of_pos x hm⟩
  have := Int.tmod_lt_of_pos (-x) hm
  rw [Int.neg_tmod] at this
  omega
theorem closed_with {P : Program} {W : World} (hsh : W.ShapedOpen P) {tabs : List (Nat × List Int)} (ht : ∀ x ∈ tabs, HoldsAt W x.1 x.2 ∧ x.1 < P.globals.size) {c : CallF} (hc : FCallOk P c) {f : FuncId} (h : trueF (c P.globals.size f [] ⟨heapOf tabs, P.globals.size⟩) = true) :
    Calls P f #[] W fun e w' => e = .returned (.bool true) ∧ Below W.heap.size W w' := by
  obtain ⟨hs, hg⟩ := sit_start hsh ht
  unfold trueF at h
  split at h
  case h_2 => cases h
  case h_1 b s' he =>
  subst h
  refine (hc _ f [] _ _ s' he _ W #[] hs hg rfl).mono ?_
  rintro e w' ⟨u, β', rfl, hx, hr⟩
  refine ⟨by rw [show u = .bool true from hr], hx.os, hx.tape, hx.output, hx.size, fun k hk => hx.keep k hk ?_⟩
  intro i p hi hl hp
  obtain ⟨c, hc⟩ := hl
  obtain ⟨q, hq, _⟩ := hs.blk i c hc
  have := (hs.low i q hq).1
  simp only at this
  omega
end Ev
end Go.Proofs.Ytnajbogmhhlpcaa
namespace Go.Proofs.Ytnajbogmhhlpcaa
open Go.RowKit
namespace Ev
set_option linter.unusedSectionVars false
variable [Env]
/-! A body's parts. -/
inductive Dir where
  | l | r | i
def codeAt : List Dir → Code → Code
  | [], c => c
  | .l :: p, .seq a _ => codeAt p a
  | .r :: p, .seq _ b => codeAt p b
  | .l :: p, .cond _ a _ => codeAt p a
  | .r :: p, .cond _ _ b => codeAt p b
  | .i :: p, .block _ c => codeAt p c
  | .i :: p, .loop c => codeAt p c
  | .i :: p, .scope c => codeAt p c
  | _ :: _, _ => .skip
def bodyOf (P : Program) (f : FuncId) : Code := match P.funcs[f]? with
  | some fn => match fn.body with
    | some c => c
    | none => .skip
  | none => .skip
/-! Values that are the same, parts of parts too. -/
mutual
def sameD : AV → AV → Bool
  | .agg l, .agg r => sameDs l r
  | .tup l, .tup r => sameDs l r
  | .fn f l, .fn g r => f == g && sameDs l r
  | .ifc t a, .ifc u b => t == u && sameD a b
  | a, b => sameSc a b
def sameDs : List AV → List AV → Bool
  | [], [] => true
  | a :: l, b :: r => sameD a b && sameDs l r
  | _, _ => false
end
mutual
theorem sameD_eq : ∀ (a b : AV), sameD a b = true → a = b
  | .agg l, b, h => by
    cases b <;> simp only [sameD, sameSc, Bool.false_eq_true] at h
    rw [sameDs_eq _ _ h]
  | .tup l, b, h => by
    cases b <;> simp only [sameD, sameSc, Bool.false_eq_true] at h
    rw [sameDs_eq _ _ h]
  | .fn f l, b, h => by
    cases b <;> simp only [sameD, sameSc, Bool.false_eq_true, Bool.and_eq_true, beq_iff_eq] at h
    rw [h.1, sameDs_eq _ _ h.2]
  | .ifc t a, b, h => by
    cases b <;> simp only [sameD, sameSc, Bool.false_eq_true, Bool.and_eq_true, beq_iff_eq] at h
    rw [h.1, sameD_eq _ _ h.2]
  | .sym .., b, h => sameSc_eq (by cases b <;> first | exact h | (simp only [sameD, sameSc] at h; cases h))
  | .int .., b, h => sameSc_eq (by cases b <;> first | exact h | (simp only [sameD, sameSc] at h; cases h))
  | .bool .., b, h => sameSc_eq (by cases b <;> first | exact h | (simp only [sameD, sameSc] at h; cases h))
  | .str .., b, h => sameSc_eq (by cases b <;> first | exact h | (simp only [sameD, sameSc] at h; cases h))
  | .flt .., b, h => sameSc_eq (by cases b <;> first | exact h | (simp only [sameD, sameSc] at h; cases h))
  | .ptr .., b, h => sameSc_eq (by cases b <;> first | exact h | (simp only [sameD, sameSc] at h; cases h))
  | .nilp, b, h => sameSc_eq (by cases b <;> first | exact h | (simp only [sameD, sameSc] at h; cases h))
  | .slc .., b, h => sameSc_eq (by cases b <;> first | exact h | (simp only [sameD, sameSc] at h; cases h))
  | .nils, b, h => sameSc_eq (by cases b <;> first | exact h | (simp only [sameD, sameSc] at h; cases h))
  | .emp, b, h => sameSc_eq (by cases b <;> first | exact h | (simp only [sameD, sameSc] at h; cases h))
  | .map .., b, h => sameSc_eq (by cases b <;> first | exact h | (simp only [sameD, sameSc] at h; cases h))
  | .nilm, b, h => sameSc_eq (by cases b <;> first | exact h | (simp only [sameD, sameSc] at h; cases h))
  | .nilf, b, h => sameSc_eq (by cases b <;> first | exact h | (simp only [sameD, sameSc] at h; cases h))
  | .nili, b, h => sameSc_eq (by cases b <;> first | exact h | (simp only [sameD, sameSc] at h; cases h))
theorem sameDs_eq : ∀ (l r : List AV), sameDs l r = true → l = r
  | [], [], _ => rfl
  | a :: l, b :: r, h => by
    simp only [sameDs, Bool.and_eq_true] at h
    rw [sameD_eq _ _ h.1, sameDs_eq _ _ h.2]
  | [], _ :: _, h => by simp [sameDs] at h
  | _ :: _, [], h => by simp [sameDs] at h
end
/-! A state, told in full: what the frame holds, the blocks, how many names there are. -/
structure Told where
  fr : List (Nat × AV)
  bl : List (Nat × Blk)
  n : Nat
noncomputable def frameOf : List (Nat × AV) → Tr AV
  | [] => .lf
  | (i, v) :: l => setF (some v) (path i) (frameOf l)
noncomputable def blocksOf : List (Nat × Blk) → Tr Blk
  | [] => .lf
  | (i, b) :: l => setF (some b) (path i) (blocksOf l)
noncomputable def Told.st (L : Told) : St := ⟨blocksOf L.bl, L.n⟩
noncomputable def Told.frame (L : Told) : Tr AV := frameOf L.fr
theorem blocksOf_get {i : Nat} {b : Blk} : ∀ {l : List (Nat × Blk)}, (blocksOf l).get (path i) = some b → (i, b) ∈ l
  | [], h => by rw [blocksOf, get_lf] at h; cases h
  | (j, c) :: l, h => by
    simp only [blocksOf, setF_eq, get_put] at h
    split at h
    · rename_i e
      cases h
      rw [e]
      simp
    · exact List.mem_cons_of_mem _ (blocksOf_get h)
def keysBelow (n : Nat) : List (Nat × AV) → Bool
  | [] => true
  | (i, _) :: l => Nat.blt i n && keysBelow n l
theorem frameOf_above {n i : Nat} (hi : n ≤ i) : ∀ {l : List (Nat × AV)}, keysBelow n l = true → (frameOf l).get (path i) = none
  | [], _ => get_lf _
  | (j, v) :: l, h => by
    simp only [keysBelow, Bool.and_eq_true, Nat.blt, Nat.ble_eq] at h
    simp only [frameOf, setF_eq, get_put]
    rw [if_neg (by have := h.1; simp at this; omega)]
    exact frameOf_above hi h.2
def sameOD (a b : Option AV) : Bool := match a, b with
  | none, none => true
  | some a, some b => sameD a b
  | _, _ => false
theorem sameOD_eq {a b : Option AV} (h : sameOD a b = true) : a = b := by
  cases a <;> cases b <;> simp only [sameOD, reduceCtorEq] at h ⊢
  · rw [sameD_eq _ _ h]
noncomputable def sameFr (a b : Tr AV) : Nat → Bool
  | 0 => true
  | k + 1 => sameOD (getF (path k) a) (getF (path k) b) && sameFr a b k
theorem sameFr_at {a b : Tr AV} : ∀ {k : Nat}, sameFr a b k = true → ∀ i, i < k → a.get (path i) = b.get (path i)
  | 0, _, i, hi => by omega
  | k + 1, h, i, hi => by
    simp only [sameFr, Bool.and_eq_true, getF_eq] at h
    by_cases e : i = k
    · rw [e]; exact sameOD_eq h.1
    · exact sameFr_at h.2 i (by omega)
def sameEx : Ex → Ex → Bool
  | .nrm, .nrm => true
  | .ret, .ret => true
  | .exit a, .exit b => Nat.beq a b
  | _, _ => false
theorem sameEx_eq {a b : Ex} (h : sameEx a b = true) : a = b := by
  cases a <;> cases b <;> simp only [sameEx, Bool.false_eq_true, Nat.beq_eq] at h <;> first | rfl | rw [h]
/-- what a run came to holds what is told. -/
noncomputable def fitsT (nt : Nat) (e : Ex) (L : Told) : Option (Ex × Tr AV × St) → Bool
  | some (e', fr, s) => sameEx e' e && sameFr fr L.frame nt && keysBelow nt L.fr && Nat.ble s.n L.n && blksIn 0 s.h L.bl
  | none => false
/-! What a body does, from a state to a state. -/
def CutOk (P : Program) (nt lo : Nat) (code : Code) (fr : Tr AV) (s : St) (e : Ex) (fr' : Tr AV) (s' : St) : Prop :=
  ∀ (β : Beta) (w : World) (a : Act), Sit β s w → Globs P β → FRep β nt fr a →
    ∀ Q : Exit → Act → World → Prop, (∀ a' w' β', Ext lo β s w β' s' w' → FRep β' nt fr' a' → Q (exOf e) a' w') → code.wp P Q a w
def RndsOk (P : Program) (nt lo : Nat) (code : Code) (fr : Tr AV) (s : St) (e : Ex) (fr' : Tr AV) (s' : St) : Prop :=
  ∃ m, ∀ (β : Beta) (w : World) (a : Act), Sit β s w → Globs P β → FRep β nt fr a →
    ∀ Q : Exit → Act → World → Prop, (∀ a' w' β', Ext lo β s w β' s' w' → FRep β' nt fr' a' → Q (exOf e) a' w') → Code.rounds P code Q m a w
section
variable {P : Program} {nt lo n : Nat} {c : CallF} {fr fr1 fr2 : Tr AV} {s s1 s2 : St} {e : Ex}
theorem told_sit {β : Beta} {w : World} {L : Told} (hs : Sit β s1 w) (hb : blksIn 0 s1.h L.bl = true) (hn : s1.n ≤ L.n) : Sit β L.st w ∧ ∀ i, Live L.st.h i → Live s1.h i := by
  have at_ : ∀ i b, L.st.h.get (path i) = some b → ∃ a, s1.h.get (path i) = some a ∧ sameBlk a b = true := fun i b h => (blksIn_at hb i b (blocksOf_get h)).2
  have live : ∀ i, Live L.st.h i → Live s1.h i := fun i ⟨b, h⟩ => let ⟨a, h1, _⟩ := at_ i b h; ⟨a, h1⟩
  refine ⟨⟨?_, ?_, ?_⟩, live⟩
  · intro i b h
    obtain ⟨a, h1, h2⟩ := at_ i b h
    obtain ⟨p, h3, h4⟩ := hs.blk i a h1
    exact ⟨p, h3, sameBlk_rep h2 h4⟩
  · intro i j p q hi hj hp hq
    exact hs.inj i j p q (live i hi) (live j hj) hp hq
  · intro i p hp
    have := hs.low i p hp
    exact ⟨by show i < L.n; omega, this.2⟩
theorem told_ext {β β1 : Beta} {w w1 : World} {L : Told} (hx : Ext lo β s w β1 s1 w1) (hb : blksIn 0 s1.h L.bl = true) (hn : s1.n ≤ L.n) : Ext lo β s w β1 L.st w1 := by
  obtain ⟨h1, h2⟩ := told_sit hx.sit hb hn
  exact ⟨h1, hx.os, hx.tape, hx.output, hx.size, hx.same, Nat.le_trans hx.le hn, hx.keep, hx.new, fun i hi hl => hx.old i hi (h2 i hl)⟩
theorem told_frame {β : Beta} {a : Act} {L : Told} (hf : FRep β nt fr1 a) (hs : sameFr fr1 L.frame nt = true) (hk : keysBelow nt L.fr = true) : FRep β nt L.frame a := by
  refine ⟨hf.size, hf.defers, fun t => ?_⟩
  by_cases ht : t < nt
  · rw [← sameFr_at hs t ht]
    exact hf.at_ t
  · have h1 : L.frame.get (path t) = none := frameOf_above (by omega) hk
    rw [h1]
    have h2 : a.tmps.getD t undef = undef := by
      rw [Array.getD_eq_getD_getElem?, Array.getElem?_eq_none (by rw [hf.size]; omega)]
      rfl
    rw [h2]
    exact ⟨#[], rfl, rfl⟩
/-- what fits what is told may be taken for it. -/
theorem CutOk.told {code : Code} {L : Told} (h : CutOk P nt lo code fr s e fr1 s1) {e1 : Ex} (hf : fitsT nt e1 L (some (e, fr1, s1)) = true) : CutOk P nt lo code fr s e1 L.frame L.st := by
  simp only [fitsT, Bool.and_eq_true, Nat.ble_eq] at hf
  obtain ⟨⟨⟨⟨h1, h2⟩, h3⟩, h4⟩, h5⟩ := hf
  obtain rfl := sameEx_eq h1
  intro β w a hs hg hfr Q hQ
  exact h β w a hs hg hfr Q fun a' w' β' hx hf' => hQ a' w' β' (told_ext hx h5 h4) (told_frame hf' h2 h3)
theorem cut_run {code : Code} {L : Told} (hc : FCallOk P c) (h : fitsT nt e L ((cCode P nt code).run c n lo fr s) = true) : CutOk P nt lo code fr s e L.frame L.st := by
  cases hr : (cCode P nt code).run c n lo fr s with
  | none => rw [hr] at h; cases h
  | some r =>
    obtain ⟨e', fr', s'⟩ := r
    rw [hr] at h
    exact CutOk.told (fun β w a hs hg hf Q hQ => cCode_ok hc n lo code fr s e' fr' s' hr β w a hs hg hf Q hQ) h
theorem cut_seq {code x y : Code} (hcode : code = .seq x y) (hx : CutOk P nt lo x fr s .nrm fr1 s1) (hy : CutOk P nt lo y fr1 s1 e fr2 s2) : CutOk P nt lo code fr s e fr2 s2 := by
  subst hcode
  intro β w a hs hg hf Q hQ
  refine wp_seq (hx β w a hs hg hf _ ?_)
  intro a1 w1 β1 hx1 hf1
  have hle := hx1.beta hs
  exact hy β1 w1 a1 hx1.sit (hg.mono hle) hf1 Q fun a2 w2 β2 hx2 hf2 => hQ a2 w2 β2 (hx1.trans hs hx2) hf2
theorem cut_seq_out {code x y : Code} (hcode : code = .seq x y) (he : sameEx e .nrm = false) (hx : CutOk P nt lo x fr s e fr1 s1) : CutOk P nt lo code fr s e fr1 s1 := by
  subst hcode
  intro β w a hs hg hf Q hQ
  refine wp_seq (hx β w a hs hg hf _ ?_)
  intro a1 w1 β1 hx1 hf1
  have := hQ a1 w1 β1 hx1 hf1
  cases e with
  | nrm => cases he
  | exit k => exact this
  | ret => exact this
theorem cut_block {code x : Code} {id : Nat} (hcode : code = .block id x) (hx : CutOk P nt lo x fr s (.exit id) fr1 s1) : CutOk P nt lo code fr s .nrm fr1 s1 := by
  subst hcode
  intro β w a hs hg hf Q hQ
  refine wp_block (hx β w a hs hg hf _ ?_)
  intro a1 w1 β1 hx1 hf1
  simp only [exOf, Exit.inBlock, if_true]
  exact hQ a1 w1 β1 hx1 hf1
theorem cut_block_out {code x : Code} {id : Nat} (hcode : code = .block id x) (he : sameEx e (.exit id) = false) (hx : CutOk P nt lo x fr s e fr1 s1) : CutOk P nt lo code fr s e fr1 s1 := by
  subst hcode
  intro β w a hs hg hf Q hQ
  refine wp_block (hx β w a hs hg hf _ ?_)
  intro a1 w1 β1 hx1 hf1
  have := hQ a1 w1 β1 hx1 hf1
  cases e with
  | nrm => exact this
  | ret => exact this
  | exit k =>
    have : ¬ k = id := by
      intro h
      subst h
      simp only [sameEx] at he
      rw [Nat.beq_refl] at he
      cases he
    simp only [exOf, Exit.inBlock, this, if_false]
    assumption
theorem cut_scope {code x : Code} (hcode : code = .scope x) (hx : CutOk P nt lo x fr s e fr1 s1) : CutOk P nt lo code fr s e fr1 s1 := by
  subst hcode
  intro β w a hs hg hf Q hQ
  refine wp_scope_straight (hx β w a hs hg hf _ ?_)
  intro a1 w1 β1 hx1 hf1
  have := hQ a1 w1 β1 hx1 hf1
  cases e <;> exact this
theorem cut_loop {code x : Code} (hcode : code = .loop x) (hx : RndsOk P nt lo x fr s e fr1 s1) : CutOk P nt lo code fr s e fr1 s1 := by
  subst hcode
  intro β w a hs hg hf Q hQ
  obtain ⟨m, h⟩ := hx
  exact wp_loop_rounds m (h β w a hs hg hf Q hQ)
theorem loop_out {x : Code} (he : sameEx e .nrm = false) (hx : CutOk P nt lo x fr s e fr1 s1) : RndsOk P nt lo x fr s e fr1 s1 := by
  refine ⟨1, fun β w a hs hg hf Q hQ => ?_⟩
  rw [rounds_succ]
  refine hx β w a hs hg hf _ ?_
  intro a1 w1 β1 hx1 hf1
  have := hQ a1 w1 β1 hx1 hf1
  cases e with
  | nrm => cases he
  | exit k => exact this
  | ret => exact this
theorem loop_round {x : Code} (hx : CutOk P nt lo x fr s .nrm fr1 s1) (hl : RndsOk P nt lo x fr1 s1 e fr2 s2) : RndsOk P nt lo x fr s e fr2 s2 := by
  obtain ⟨m, hm⟩ := hl
  refine ⟨m + 1, fun β w a hs hg hf Q hQ => ?_⟩
  rw [rounds_succ]
  refine hx β w a hs hg hf _ ?_
  intro a1 w1 β1 hx1 hf1
  have hle := hx1.beta hs
  exact hm β1 w1 a1 hx1.sit (hg.mono hle) hf1 Q fun a2 w2 β2 hx2 hf2 => hQ a2 w2 β2 (hx1.trans hs hx2) hf2
/-- so many rounds. -/
noncomputable def roundsF (b : Tr AV → St → Option (Ex × Tr AV × St)) (k : Nat) : Tr AV → St → Option (Ex × Tr AV × St) :=
  Nat.rec (motive := fun _ => Tr AV → St → Option (Ex × Tr AV × St)) (fun fr s => some (.nrm, fr, s)) (fun _ ih fr s => match b fr s with
    | some (.nrm, fr', s') => ih fr' s'
    | _ => none) k
theorem roundsF_succ (b : Tr AV → St → Option (Ex × Tr AV × St)) (k : Nat) (fr : Tr AV) (s : St) : roundsF b (k + 1) fr s = match b fr s with
    | some (.nrm, fr', s') => roundsF b k fr' s'
    | _ => none := rfl
theorem rounds_run {x : Code} (hc : FCallOk P c) {L : Told} (hl : RndsOk P nt lo x L.frame L.st e fr2 s2) : ∀ (k : Nat) (fr : Tr AV) (s : St), fitsT nt .nrm L (roundsF ((cCode P nt x).run c n lo) k fr s) = true → RndsOk P nt lo x fr s e fr2 s2
  | 0, fr, s, h => by
    have h : fitsT nt .nrm L (some (.nrm, fr, s)) = true := h
    simp only [fitsT, Bool.and_eq_true, Nat.ble_eq] at h
    obtain ⟨⟨⟨⟨_, h2⟩, h3⟩, h4⟩, h5⟩ := h
    obtain ⟨m, hm⟩ := hl
    refine ⟨m, fun β w a hs hg hf Q hQ => ?_⟩
    have hx := told_ext (Ext.refl (lo := lo) hs) h5 h4
    exact hm β w a hx.sit hg (told_frame hf h2 h3) Q fun a' w' β' hx2 hf2 => hQ a' w' β' (hx.trans hs hx2) hf2
  | k + 1, fr, s, h => by
    rw [roundsF_succ] at h
    split at h
    case h_2 => cases h
    case h_1 fr1 s1 h1 =>
      exact loop_round (fun β w a hs hg hf Q hQ => cCode_ok hc n lo x fr s _ fr1 s1 h1 β w a hs hg hf Q hQ) (rounds_run hc hl k fr1 s1 h)
theorem loop_end {x : Code} (hc : FCallOk P c) {L : Told} : ∀ (k : Nat) (fr : Tr AV) (s : St), fitsT nt e L (loopF ((cCode P nt x).run c n lo) k fr s) = true → RndsOk P nt lo x fr s e L.frame L.st
  | 0, fr, s, h => by cases h
  | k + 1, fr, s, h => by
    rw [loopF_succ] at h
    split at h
    case h_1 fr1 s1 h1 =>
      exact loop_round (fun β w a hs hg hf Q hQ => cCode_ok hc n lo x fr s _ fr1 s1 h1 β w a hs hg hf Q hQ) (loop_end hc k fr1 s1 h)
    case h_2 hne =>
      have h2 : CutOk P nt lo x fr s e L.frame L.st := cut_run hc h
      refine loop_out ?_ h2
      cases e with
      | exit k => rfl
      | ret => rfl
      | nrm =>
        exfalso
        unfold fitsT at h
        split at h
        case h_2 => cases h
        case h_1 e' fr' s' hr =>
          simp only [Bool.and_eq_true] at h
          obtain rfl := sameEx_eq h.1.1.1.1
          exact hne _ _ hr
/-! The first steps of a body. -/
def restOf : Nat → Code → Code
  | k + 1, .seq _ b => restOf k b
  | _, c => c
noncomputable def stepsF (P : Program) (nt : Nat) : Nat → Code → CodeF
  | k + 1, .seq a b => seqF ((cCode P nt a).run) (stepsF P nt k b)
  | _, _ => fun _ _ _ fr s => some (.nrm, fr, s)
theorem cut_steps {L : Told} (hc : FCallOk P c) {e : Ex} : ∀ (k : Nat) (code : Code) (fr : Tr AV) (s : St), fitsT nt .nrm L (stepsF P nt k code c n lo fr s) = true → CutOk P nt lo (restOf k code) L.frame L.st e fr2 s2 → CutOk P nt lo code fr s e fr2 s2 := by
  have base : ∀ (code : Code) (fr : Tr AV) (s : St), fitsT nt .nrm L (some (.nrm, fr, s)) = true → CutOk P nt lo code L.frame L.st e fr2 s2 → CutOk P nt lo code fr s e fr2 s2 := by
    intro code fr s h hr
    simp only [fitsT, Bool.and_eq_true, Nat.ble_eq] at h
    obtain ⟨⟨⟨⟨_, h2⟩, h3⟩, h4⟩, h5⟩ := h
    intro β w a hs hg hf Q hQ
    have hx := told_ext (Ext.refl (lo := lo) hs) h5 h4
    exact hr β w a hx.sit hg (told_frame hf h2 h3) Q fun a' w' β' hx2 hf2 => hQ a' w' β' (hx.trans hs hx2) hf2
  intro k
  induction k with
  | zero => intro code fr s h hr; exact base code fr s (by cases code <;> exact h) (by cases code <;> exact hr)
  | succ k ih =>
    intro code fr s h hr
    cases code with
    | seq x y =>
      simp only [stepsF, seqF, restOf] at h hr
      split at h
      case h_1 fr1 s1 h1 =>
        exact cut_seq rfl (fun β w a hs hg hf Q hQ => cCode_ok hc n lo x fr s _ fr1 s1 h1 β w a hs hg hf Q hQ) (ih y fr1 s1 h hr)
      case h_2 hne =>
        exfalso
        unfold fitsT at h
        split at h
        case h_2 => cases h
        case h_1 e' fr' s' hr' =>
          simp only [Bool.and_eq_true] at h
          obtain rfl := sameEx_eq h.1.1.1.1
          exact hne _ _ hr'
    | _ => exact base _ fr s h hr
theorem cut_steps' {L : Told} (hc : FCallOk P c) {e : Ex} {k : Nat} {code rest : Code} (hrest : restOf k code = rest) (h : fitsT nt .nrm L (stepsF P nt k code c n lo fr s) = true) (hr : CutOk P nt lo rest L.frame L.st e fr2 s2) : CutOk P nt lo code fr s e fr2 s2 :=
  cut_steps hc k code fr s h (hrest ▸ hr)
def condIs (P : Program) (fr : Tr AV) (t : Bool) : Code → Bool
  | .cond x _ _ => match opnd P fr x with
    | some (.bool b) => b == t
    | _ => false
  | _ => false
theorem cut_cond {code x : Code} {t : Bool} (hx : condIs P fr t code = true) (hcode : codeAt [bif t then .l else .r] code = x) (h : CutOk P nt lo x fr s e fr1 s1) : CutOk P nt lo code fr s e fr1 s1 := by
  subst hcode
  cases code with
  | cond o y z =>
    simp only [condIs] at hx
    split at hx
    case h_2 => cases hx
    case h_1 b hb =>
    obtain rfl := eq_of_beq hx
    intro β w a hs hg hf Q hQ
    refine wp_cond (opnd_ok hf hg hb) ?_
    cases b with
    | true => exact h β w a hs hg hf Q hQ
    | false => exact h β w a hs hg hf Q hQ
  | _ => cases hx
/-- a call, out of its body's run. -/
theorem call_cut {f : FuncId} {fn : Func} {body : Code} {args as : List AV} (hfn : P.funcs[f]? = some fn) (hb : fn.body = some body) (hn : args.length ≤ fn.ntmps) (hcut : CutOk P fn.ntmps lo body (startFr args) s e fr1 s1) (he : exNrm e = true) (hr : ress P s1 fr1 fn.results.toList = some as) {β : Beta} {w : World} {vs : Array Value} (hs : Sit β s w) (hg : Globs P β) (ha : Reps β args vs.toList) :
    Calls P f vs w fun e w' => ∃ u β', e = .returned u ∧ Ext lo β s w β' s1 w' ∧ Rep β' (oneOf as) u := by
  refine calls_of_wp hfn hb (hcut β w _ hs hg (start_ok ha hn) _ ?_)
  intro a' w' β' hx hf'
  obtain ⟨u, h1, h2⟩ := results_ok hx.sit hf' hr
  have fin : a'.defers = [] ∧ ∃ v, (results fn a'.tmps).run P w' = .ok v w' ∧ ∃ u β', Ending.returned v = .returned u ∧ Ext lo β s w β' s1 w' ∧ Rep β' (oneOf as) u := ⟨hf'.defers, u, h1, u, β', rfl, hx, h2⟩
  cases e with
  | nrm => exact fin
  | ret => exact fin
  | exit k => cases he
def isTrueR : Option (List AV) → Bool
  | some [.bool b] => b
  | _ => false
theorem true_cut {W : World} (hsh : W.ShapedOpen P) {tabs : List (Nat × List Int)} (ht : ∀ x ∈ tabs, HoldsAt W x.1 x.2 ∧ x.1 < P.globals.size) {f : FuncId} {fn : Func} {body : Code} {args : List AV} {vs : Array Value} (ha : ∀ β, Reps β args vs.toList)
    (hfn : P.funcs[f]? = some fn) (hb : fn.body = some body) (hn : Nat.ble args.length fn.ntmps = true) {L : Told} (hcut : CutOk P fn.ntmps P.globals.size body (startFr args) ⟨heapOf tabs, P.globals.size⟩ .ret L.frame L.st) (hr : isTrueR (ress P L.st L.frame fn.results.toList) = true) :
    Calls P f vs W fun e w' => e = .returned (.bool true) ∧ Below W.heap.size W w' := by
  obtain ⟨hs, hg⟩ := sit_start hsh ht
  unfold isTrueR at hr
  split at hr
  case h_2 => cases hr
  case h_1 b he =>
  subst hr
  refine (call_cut hfn hb (Nat.le_of_ble_eq_true hn) hcut rfl he hs hg (ha _)).mono ?_
  rintro e w' ⟨u, β', rfl, hx, hr⟩
  refine ⟨by rw [show u = .bool true from hr], hx.os, hx.tape, hx.output, hx.size, fun k hk => hx.keep k hk ?_⟩
  intro i p hi hl hp
  obtain ⟨c, hc⟩ := hl
  obtain ⟨q, hq, _⟩ := hs.blk i c hc
  have := (hs.low i q hq).1
  simp only at this
  omega
end
end Ev
end Go.Proofs.Ytnajbogmhhlpcaa
namespace Go.Proofs.Ytnajbogmhhlpcaa
open Go.RowKit
namespace Ev
set_option linter.unusedSectionVars false
variable [Env]
theorem Sit.below {β : Beta} {s : St} {W w : World} (hs : Sit β s W) (hb : Below W.heap.size W w) : Sit β s w :=
  ⟨fun i b h => let ⟨p, h1, h2⟩ := hs.blk i b h; ⟨p, h1, by rw [hb.block p.1 (hs.low i p h1).2]; exact h2⟩, hs.inj, fun i p h => ⟨(hs.low i p h).1, Nat.lt_of_lt_of_le (hs.low i p h).2 hb.size⟩⟩
def valF (v : AV) : Option (AV × St) → Bool
  | some (x, _) => sameD x v
  | none => false
theorem run_val {P : Program} {W w : World} (hsh : W.ShapedOpen P) {tabs : List (Nat × List Int)} (ht : ∀ x ∈ tabs, HoldsAt W x.1 x.2 ∧ x.1 < P.globals.size) (hb : Below W.heap.size W w) {c : CallF} (hc : FCallOk P c) {f : FuncId} {ars : List AV} {vs : Array Value} (ha : ∀ β, Reps β ars vs.toList) {v : AV}
    (h : valF v (c P.globals.size f ars ⟨heapOf tabs, P.globals.size⟩) = true) :
    Calls P f vs w fun e w' => (∃ u β, e = .returned u ∧ Rep β v u) ∧ Below w.heap.size w w' := by
  obtain ⟨hs0, hg⟩ := sit_start hsh ht
  have hs := hs0.below hb
  unfold valF at h
  split at h
  case h_2 => cases h
  case h_1 x s' he =>
  obtain rfl := sameD_eq _ _ h
  refine (hc _ f ars _ _ s' he _ w vs hs hg (ha _)).mono ?_
  rintro e w' ⟨u, β', rfl, hx, hr⟩
  refine ⟨⟨u, β', rfl, hr⟩, hx.os, hx.tape, hx.output, hx.size, fun k hk => hx.keep k hk ?_⟩
  intro i p hi hl hp
  obtain ⟨c, hc⟩ := hl
  obtain ⟨q, hq, _⟩ := hs.blk i c hc
  have := (hs.low i q hq).1
  simp only at this
  omega
theorem ints_reps64 {β : Beta} : ∀ zs : List Int, Reps β (zs.map (AV.int .i64)) (zs.map (Value.int .i64))
  | [] => rfl
  | _ :: l => ⟨_, _, rfl, rfl, ints_reps64 l⟩
/-- the memory with one more row, of numbers, that may not be written. -/
noncomputable def rowSt (P : Program) (tabs : List (Nat × List Int)) (T : TypeId) (zs : List Int) : St :=
  ⟨setF (some (rowOf T (zs.map (AV.int .i64)) false)) (path P.globals.size) (heapOf tabs), P.globals.size + 1⟩
theorem run_row {P : Program} {W w : World} (hsh : W.ShapedOpen P) {tabs : List (Nat × List Int)} (ht : ∀ x ∈ tabs, HoldsAt W x.1 x.2 ∧ x.1 < P.globals.size) (hb : Below W.heap.size W w) {c : CallF} (hc : FCallOk P c) {T g : Nat} {zs : List Int} (hg : w.heap[g]? = some (.cells (zs.map (Value.int .i64)).toArray T (0, 0))) (hgW : W.heap.size ≤ g)
    {f : FuncId} {ars : List AV} {vs : Array Value} (ha : ∀ β : Beta, β P.globals.size = some (g, zs.length) → Reps β ars vs.toList) {v : AV} {s' : St} (h : c (P.globals.size + 1) f ars (rowSt P tabs T zs) = some (v, s')) :
    Calls P f vs w fun e w' => ∃ u β', e = .returned u ∧ Sit β' s' w' ∧ Rep β' v u ∧ Below w.heap.size w w' := by
  obtain ⟨hs0, hg0⟩ := sit_start hsh ht
  have hs := hs0.below hb
  generalize (fun g => if g < P.globals.size then some (g, sizeAt W g) else none : Beta) = β0 at hs0 hg0 hs
  have live : ∀ i, Live (rowSt P tabs T zs).h i → i = P.globals.size ∨ Live (heapOf tabs) i := by
    rintro i ⟨b, hi⟩
    simp only [rowSt, setF_eq, get_put] at hi
    split at hi
    · rename_i e; exact .inl e
    · exact .inr ⟨b, hi⟩
  have hne : ∀ i p, β0 i = some p → i ≠ P.globals.size := fun i p e h => by
    have := (hs0.low i p e).1
    simp only at this
    omega
  have hle : Beta.le β0 (upd β0 P.globals.size (g, zs.length)) := fun i p e => by rw [upd_ne β0 _ (hne i p e)]; exact e
  have hsit : Sit (upd β0 P.globals.size (g, zs.length)) (rowSt P tabs T zs) w := by
    refine ⟨?_, ?_, ?_⟩
    · intro i b hi
      simp only [rowSt, setF_eq, get_put] at hi
      split at hi
      · rename_i e
        cases hi
        subst e
        refine ⟨_, upd_at .., ?_⟩
        have hr := brep_row (β := upd β0 P.globals.size (g, zs.length)) (ints_reps64 zs) T false [] (fun _ => rfl)
        simp only [List.append_nil, List.length_map, List.length_nil, Nat.add_zero] at hr
        show BRep _ _ w.heap[g]? zs.length
        rw [hg]
        exact hr
      · obtain ⟨p, h1, h2⟩ := hs.blk i b hi
        exact ⟨p, hle i p h1, BRep.mono hle h2⟩
    · intro i j p q hi hj hp hq hpq
      have low : ∀ i p, β0 i = some p → p.1 < W.heap.size := fun i p e => (hs0.low i p e).2
      by_cases ei : i = P.globals.size
      · by_cases ej : j = P.globals.size
        · rw [ei, ej]
        · rw [ei, upd_at] at hp
          rw [upd_ne _ _ ej] at hq
          cases hp
          have := low j q hq
          simp only at hpq
          omega
      · rw [upd_ne _ _ ei] at hp
        by_cases ej : j = P.globals.size
        · rw [ej, upd_at] at hq
          cases hq
          have := low i p hp
          simp only at hpq
          omega
        · rw [upd_ne _ _ ej] at hq
          rcases live i hi with e | hi
          · exact absurd e ei
          rcases live j hj with e | hj
          · exact absurd e ej
          exact hs.inj i j p q hi hj hp hq hpq
    · intro i p hp
      by_cases ei : i = P.globals.size
      · rw [ei, upd_at] at hp
        cases hp
        exact ⟨by show i < P.globals.size + 1; omega, (Array.getElem?_eq_some_iff.1 hg).1⟩
      · rw [upd_ne _ _ ei] at hp
        have := hs.low i p hp
        simp only at this
        exact ⟨by show i < P.globals.size + 1; omega, this.2⟩
  refine (hc _ f ars _ _ s' h _ w vs hsit (hg0.mono hle) (ha _ (upd_at ..))).mono ?_
  rintro e w' ⟨u, β', rfl, hx, hr⟩
  refine ⟨u, β', rfl, hx.sit, hr, hx.os, hx.tape, hx.output, hx.size, fun k hk => hx.keep k hk ?_⟩
  intro i p hi hl hp
  have := (hsit.low i p hp).1
  simp only [rowSt] at this
  omega
/-- a slice of n whose first number is x, and no error. -/
def firstF (n : Nat) (x : Int) : Option (AV × St) → Bool
  | some (.tup [.slc b off len _, .int .i64 (.ofNat 0)], s) => Nat.beq len n && (match s.h.get (path b) with
    | some (.cells _ m zs t _ _) => sameOD (cellAt m zs t off) (some (.int .i64 x))
    | _ => false)
  | _ => false
theorem first_of {n : Nat} {x : Int} {r : Option (AV × St)} (h : firstF n x r = true) : ∃ v s, r = some (v, s) ∧ ∀ β w u, Sit β s w → Rep β v u → ∃ a c, u = .tuple #[.slice (some a) n c, .int .i64 0] ∧ w.cell? a = some (.int .i64 x) ∧ n ≤ c := by
  unfold firstF at h
  split at h
  case h_2 => cases h
  case h_1 b off len cap s =>
  refine ⟨_, _, rfl, fun β w u hs hr => ?_⟩
  simp only [Bool.and_eq_true, Nat.beq_eq] at h
  obtain ⟨rfl, h⟩ := h
  split at h
  case h_2 => cases h
  case h_1 T m zs t o rw hget =>
  obtain ⟨vs, rfl, a, r, e, ⟨g, tot, c, hb, rfl, hlc, _⟩, q, r', e', hq, e''⟩ := hr
  obtain ⟨p, hp, cs, T', fr, ho, hsz, _, _, _, hat⟩ := hs.blk b _ hget
  rw [hb] at hp
  cases hp
  obtain ⟨y, hy, hy'⟩ := hat off _ (sameOD_eq h)
  have hq' : q = .int .i64 0 := hq
  have hy2 : y = .int .i64 x := hy'
  subst hq' hy2 e'' e'
  refine ⟨⟨g, off, none⟩, c, ?_, ?_, hlc⟩
  · congr 1
    apply Array.toList_inj.1
    rw [e]
  · simp only at ho
    rw [cell_of_row w g off cs T' fr ho]
    exact hy
theorem rep_bool1 {β : Beta} {b : Bool} {u : Value} (h : Rep β (.bool b) u) : u = .bool b := h
theorem rep_int1 {β : Beta} {k : IntKind} {n : Int} {u : Value} (h : Rep β (.int k n) u) : u = .int k n := h
theorem rep_int2 {β : Beta} {k k' : IntKind} {n n' : Int} {u : Value} (h : Rep β (.tup [.int k n, .int k' n']) u) : u = .tuple #[.int k n, .int k' n'] := by
  obtain ⟨vs, rfl, a, r, e, ha, b, r', e', hb, e''⟩ := h
  obtain rfl : a = .int k n := ha
  obtain rfl : b = .int k' n' := hb
  subst e'' e'
  congr 1
  apply Array.toList_inj.1
  rw [e]
theorem rep_rng {β : Beta} {k : IntKind} {lo hi z : Int} (h1 : lo ≤ z) (h2 : z ≤ hi) : Rep β (.sym (.rng k lo hi)) (.int k z) := ⟨z, rfl, h1, h2⟩
end Ev
end Go.Proofs.Ytnajbogmhhlpcaa
namespace Go.Proofs.Ytnajbogmhhlpcaa
open Go.RowKit
namespace Ev
set_option linter.unusedSectionVars false
variable [Env]
/-- How the call's memory lies behind it: names from lo on stand for blocks from B on. -/
structure OutM (lo B : Nat) (β : Beta) (s : St) (w : World) : Prop where
  sit : Sit β s w
  new : ∀ i p, lo ≤ i → β i = some p → B ≤ p.1
def outF (chk : AV → St → Bool) : Option (AV × St) → Bool
  | some (v, s) => chk v s
  | none => false
theorem run_out {P : Program} {W w : World} (hsh : W.ShapedOpen P) {tabs : List (Nat × List Int)} (ht : ∀ x ∈ tabs, HoldsAt W x.1 x.2 ∧ x.1 < P.globals.size) (hb : Below W.heap.size W w) {c : CallF} (hc : FCallOk P c) {f : FuncId} {ars : List AV} {vs : Array Value} (ha : ∀ β, Reps β ars vs.toList) {chk : AV → St → Bool}
    (h : outF chk (c P.globals.size f ars ⟨heapOf tabs, P.globals.size⟩) = true) :
    Calls P f vs w fun e w' => (∃ u β v s, e = .returned u ∧ Rep β v u ∧ OutM P.globals.size w.heap.size β s w' ∧ chk v s = true) ∧ Below w.heap.size w w' := by
  obtain ⟨hs0, hg⟩ := sit_start hsh ht
  have hs := hs0.below hb
  unfold outF at h
  split at h
  case h_2 => cases h
  case h_1 x s' he =>
  refine (hc _ f ars _ _ s' he _ w vs hs hg (ha _)).mono ?_
  rintro e w' ⟨u, β', rfl, hx, hr⟩
  have none : ∀ i p, P.globals.size ≤ i → Live (heapOf tabs) i → (fun g => if g < P.globals.size then some (g, sizeAt W g) else none : Beta) i = some p → False := by
    intro i p hi hl hp
    obtain ⟨c, hc⟩ := hl
    obtain ⟨q, hq, _⟩ := hs.blk i c hc
    have := (hs.low i q hq).1
    simp only at this
    omega
  refine ⟨⟨u, β', x, s', rfl, hr, ⟨hx.sit, fun i p hi hp => ?_⟩, h⟩, hx.os, hx.tape, hx.output, hx.size, fun k hk => hx.keep k hk ?_⟩
  · rcases hx.new i p hi hp with h | ⟨j, q, hj, hl, hq, _⟩
    · exact h
    · exact (none j q hj hl hq).elim
  · intro i p hi hl hp
    exact (none i p hi hl hp).elim
def capIs (opn : Bool) (size n : Nat) : ACap → Bool
  | .fix c => !opn && Nat.beq (c * size) n && Nat.ble c maxLen
  | .opn z _ => Nat.beq z size
/-- A row of elements of type T, of so many cells each: what its cells hold. -/
def rowIs (s : St) (lo T size : Nat) (v : AV) : Option (Nat × List AV) :=
  match v with
  | .slc b 0 len cap => bif Nat.ble lo b && Nat.blt 0 size then
      match s.h.get (path b) with
      | some (.cells T' n zs t opn rw) =>
        bif Nat.beq T T' && rw && capIs opn size n cap then
          match loadN n zs t 0 (len * size) with
          | some l => some (len, l)
          | none => none
        else none
      | _ => none
    else none
  | _ => none
theorem loadN_at {n : Nat} {zs : List AV} {t : Tr AV} : ∀ {k i : Nat} {l : List AV}, loadN n zs t i k = some l → ∀ j a, l[j]? = some a → cellAt n zs t (i + j) = some a
  | 0, _, _, h, j, a, hj => by cases h; simp at hj
  | k + 1, i, l, h, j, a, hj => by
    simp only [loadN] at h
    split at h
    · rename_i v hv
      split at h
      · rename_i l' hl'
        cases h
        cases j with
        | zero => simp at hj; rw [← hj]; exact hv
        | succ j => rw [show i + (j + 1) = i + 1 + j by omega]; exact loadN_at hl' j a (by simpa using hj)
      · cases h
    · cases h
theorem loadN_len {n : Nat} {zs : List AV} {t : Tr AV} : ∀ {k i : Nat} {l : List AV}, loadN n zs t i k = some l → l.length = k
  | 0, _, _, h => by cases h; rfl
  | k + 1, i, l, h => by
    simp only [loadN] at h
    split at h
    · split at h
      · rename_i l' hl'
        cases h
        rw [List.length_cons, loadN_len hl']
      · cases h
    · cases h
theorem rowIs_ok {s : St} {lo T size B : Nat} {v : AV} {u : Value} {β : Beta} {w : World} {len : Nat} {l : List AV} (h : rowIs s lo T size v = some (len, l)) (ho : OutM lo B β s w) (hr : Rep β v u) :
    ∃ xs g c, u = .slice (some ⟨g, 0, none⟩) len c ∧ w.ownsRow B T size u len xs ∧ Reps β l xs := by
  unfold rowIs at h
  split at h
  case h_2 => cases h
  case h_1 b len' cap =>
  simp only [cond_eq_ite, Bool.and_eq_true] at h
  split at h
  case isFalse => cases h
  case isTrue hlo =>
  split at h
  case h_2 => cases h
  case h_1 T' n zs t opn rw hget =>
  split at h
  case isFalse => cases h
  case isTrue hc =>
  split at h
  case h_2 => cases h
  case h_1 l' hl =>
  simp only [Option.some.injEq, Prod.mk.injEq] at h
  obtain ⟨rfl, rfl⟩ := h
  obtain ⟨⟨hT, hrw⟩, hcap⟩ := hc
  obtain rfl := Nat.eq_of_beq_eq_true hT
  obtain ⟨g, tt, c, hb, rfl, hlc, hck⟩ := hr
  obtain ⟨p, hp, cs, T2, fr, hcells, hcs, hn, hop, hrwx, hat⟩ := ho.sit.blk b _ hget
  rw [hb] at hp
  cases hp
  obtain ⟨rfl, rfl⟩ := hrwx hrw
  dsimp only at hcs hn hop hcells
  have hcc : c * size = tt ∧ c ≤ maxLen := by
    cases cap with
    | fix k =>
      simp only [capIs, Bool.and_eq_true, Bool.not_eq_true'] at hcap
      have hck' : c = k := hck
      subst hck'
      exact ⟨by rw [hop hcap.1.1]; exact Nat.eq_of_beq_eq_true hcap.1.2, Nat.le_of_ble_eq_true hcap.2⟩
    | opn z least =>
      obtain ⟨_, h2, _, h4⟩ := hck
      have := Nat.eq_of_beq_eq_true hcap
      subst this
      exact ⟨by simpa using h2, h4⟩
  have hll : l'.length = len' * size := loadN_len hl
  have hsz : len' * size ≤ cs.size := by
    rw [hcs, ← hcc.1]
    exact Nat.mul_le_mul_right _ hlc
  refine ⟨cs.toList.take (len' * size), g, c, rfl, ⟨by simp; omega, .inr ⟨g, c, cs, rfl, ho.new b _ (Nat.le_of_ble_eq_true hlo.1) hb, hcells, hlc, hcc.2, by rw [hcs]; exact hcc.1.symm, rfl⟩⟩, ?_⟩
  refine Reps.of_at (by simp [hll]; omega) fun i a u hi hu => ?_
  have hi2 : i < len' * size := by rw [← hll]; exact (List.getElem?_eq_some_iff.1 hi).1
  have h1 := loadN_at hl i a hi
  rw [Nat.zero_add] at h1
  obtain ⟨u', hu', hr'⟩ := hat i a h1
  rw [List.getElem?_take_of_lt hi2] at hu
  rw [Array.getElem?_toList, hu'] at hu
  cases hu
  exact hr'
end Ev
end Go.Proofs.Ytnajbogmhhlpcaa
