/- The runner, made ready: each operation becomes a function once, of the frame and the memory alone. It answers what the runner answers. -/
import Derived.Test.YtnelncafocgfhaaEvCode
namespace Go.Proofs.Ytnelncafocgfhaa
open Go.RowKit
namespace Ev
set_option linter.unusedSectionVars false
variable [Env]
inductive Box (α : Type) where
  | mk (f : α)
def Box.run {α : Type} : Box α → α
  | .mk f => f
/-- Calls of Go functions, as the operations want them. -/
abbrev CallF := Nat → FuncId → List AV → St → Option (AV × St)
def lift (c : CallF) (lo : Nat) : Job → Option Out
  | .call f args s => match c lo f args s with
    | some (v, s') => some (.call v s')
    | none => none
  | _ => none
abbrev OpF := CallF → Nat → Tr AV → St → Option (AV × St)
/-! Tries, by their recursors. -/
noncomputable def getF {α : Type} (k : Pth) : Tr α → Option α :=
  Pth.rec (motive := fun _ => Tr α → Option α) (fun t => Tr.rec (motive := fun _ => Option α) none (fun _ v _ _ _ => v) t) (fun _ ih t => Tr.rec (motive := fun _ => Option α) none (fun l _ _ _ _ => ih l) t) (fun _ ih t => Tr.rec (motive := fun _ => Option α) none (fun _ _ r _ _ => ih r) t) k
noncomputable def setF {α : Type} (x : Option α) (k : Pth) : Tr α → Tr α :=
  Pth.rec (motive := fun _ => Tr α → Tr α) (fun t => Tr.rec (motive := fun _ => Tr α) (.nd .lf x .lf) (fun l _ r _ _ => .nd l x r) t)
    (fun _ ih t => Tr.rec (motive := fun _ => Tr α) (.nd (ih .lf) none .lf) (fun l v r _ _ => .nd (ih l) v r) t)
    (fun _ ih t => Tr.rec (motive := fun _ => Tr α) (.nd .lf none (ih .lf)) (fun l v r _ _ => .nd l v (ih r)) t) k
theorem getF_eq {α : Type} (k : Pth) : ∀ t : Tr α, getF k t = Tr.get k t := by
  induction k with
  | h => intro t; cases t <;> rfl
  | o p ih => intro t; cases t with
    | lf => rfl
    | nd l v r => exact ih l
  | i p ih => intro t; cases t with
    | lf => rfl
    | nd l v r => exact ih r
theorem setF_eq {α : Type} (x : Option α) (k : Pth) : ∀ t : Tr α, setF x k t = Tr.set x k t := by
  induction k with
  | h => intro t; cases t <;> rfl
  | o p ih => intro t; cases t with
    | lf => exact congrArg (fun z => Tr.nd z none Tr.lf) (ih .lf)
    | nd l v r => exact congrArg (fun z => Tr.nd z v r) (ih l)
  | i p ih => intro t; cases t with
    | lf => exact congrArg (fun z => Tr.nd Tr.lf none z) (ih .lf)
    | nd l v r => exact congrArg (fun z => Tr.nd l v z) (ih r)
/-! Operands. -/
noncomputable def slotF (o : Option AV) : AV := Option.rec (motive := fun _ => AV) (.tup []) (fun v => v) o
theorem slotF_eq (o : Option AV) : slotF o = slotV o := by cases o <;> rfl
/-- an operand that is ready: a slot, or a value. -/
inductive Ready where
  | slot (p : Pth)
  | val (v : AV)
  | bad
def ready (P : Program) : Operand → Ready
  | .tmp t => .slot (path t)
  | x => match opnd P .lf x with
    | some v => .val v
    | none => .bad
noncomputable def useF {α : Type} (r : Ready) (fr : Tr AV) (k : AV → Option α) : Option α :=
  Ready.rec (motive := fun _ => Option α) (fun p => k (slotF (getF p fr))) (fun v => k v) none r
theorem useF_eq {α : Type} (P : Program) (x : Operand) (fr : Tr AV) (k : AV → Option α) : useF (ready P x) fr k = match opnd P fr x with | some v => k v | none => none := by
  cases x with
  | tmp t => simp only [ready, useF, opnd, getF_eq, slotF_eq]
  | const v =>
    simp only [ready, opnd]
    cases ofV v <;> rfl
  | global g =>
    simp only [ready, opnd]
    cases Nat.blt g P.globals.size <;> rfl
  | func f => rfl
/-! Whole numbers that stay small. -/
def fastInt (op : BinOp) (m n : Nat) : Option AV :=
  match op with
  | .add => bif Nat.blt (Nat.add m n) 9223372036854775808 then some (.int .i64 (.ofNat (Nat.add m n))) else none
  | .sub => bif Nat.ble n m && Nat.blt m 9223372036854775808 then some (.int .i64 (.ofNat (Nat.sub m n))) else none
  | .eql => some (.bool (Nat.beq m n))
  | .neq => some (.bool (!Nat.beq m n))
  | .lss => some (.bool (Nat.blt m n))
  | .leq => some (.bool (Nat.ble m n))
  | .gtr => some (.bool (Nat.blt n m))
  | .geq => some (.bool (Nat.ble n m))
  | _ => none
theorem fastInt_ok {op : BinOp} {m n : Nat} {v : AV} (h : fastInt op m n = some v) : binInt op .i64 (.ofNat m) (.ofNat n) = some v ∧ op ≠ .shl ∧ op ≠ .shr := by
  cases op <;> simp only [fastInt, reduceCtorEq] at h
  case add =>
    rw [Bool.cond_eq_ite] at h
    split at h
    case isFalse => cases h
    case isTrue c =>
    cases h
    refine ⟨?_, by simp, by simp⟩
    simp only [binInt]
    have e : (Int.ofNat m + Int.ofNat n) = Int.ofNat (Nat.add m n) := rfl
    rw [e]
    simp only [wrapK, c, cond_true]
  case sub =>
    rw [Bool.cond_eq_ite] at h
    split at h
    case isFalse => cases h
    case isTrue c =>
    cases h
    refine ⟨?_, by simp, by simp⟩
    simp only [Bool.and_eq_true, Nat.ble_eq] at c
    have c2 : m + 1 ≤ 9223372036854775808 := by simpa [Nat.blt, Nat.ble_eq] using c.2
    have e : (Int.ofNat m - Int.ofNat n) = Int.ofNat (Nat.sub m n) := by
      show (m : Int) - (n : Int) = ((m - n : Nat) : Int)
      omega
    simp only [binInt]
    rw [e]
    have c3 : Nat.blt (Nat.sub m n) 9223372036854775808 = true := blt_of (by show m - n < _; omega)
    simp only [wrapK, c3, cond_true]
  all_goals
    cases h
    refine ⟨?_, by simp, by simp⟩
    simp only [binInt]
    have hb : Nat.beq m n = decide (m = n) := by rw [Bool.eq_iff_iff]; simp [Nat.beq_eq]
    congr 2
    rw [Bool.eq_iff_iff]
    simp [Nat.blt, Nat.ble_eq, hb]
    try omega
def binF (P : Program) (op : BinOp) (t : TypeId) : AV → AV → Option AV
  | .int .i64 (.ofNat m), .int .i64 (.ofNat n) => match fastInt op m n with
    | some v => some v
    | none => binAV P op t (.int .i64 (.ofNat m)) (.int .i64 (.ofNat n))
  | a, b => binAV P op t a b
theorem binF_eq (P : Program) (op : BinOp) (t : TypeId) (a b : AV) : binF P op t a b = binAV P op t a b := by
  unfold binF
  split
  · rename_i m n
    split
    · rename_i v h
      obtain ⟨h1, h2, h3⟩ := fastInt_ok h
      unfold binAV
      simp only
      cases op <;> first | exact absurd rfl h2 | exact absurd rfl h3 | exact h1.symm
    · rfl
  · rfl
/-! Memory, by the recursors. -/
noncomputable def cellF (n : Nat) (zs : List AV) (t : Tr AV) (i : Nat) : Option AV :=
  bif Nat.blt i n then
    match getF (path i) t with
    | some v => some v
    | none => nthA zs (i % zs.length)
  else none
theorem cellF_eq (n : Nat) (zs : List AV) (t : Tr AV) (i : Nat) : cellF n zs t i = cellAt n zs t i := by
  unfold cellF cellAt
  rw [getF_eq]
  rfl
noncomputable def loadNF (n : Nat) (zs : List AV) (t : Tr AV) : Nat → Nat → Option (List AV)
  | _, 0 => some []
  | i, k + 1 => match cellF n zs t i with
    | some v => match loadNF n zs t (i + 1) k with
      | some l => some (v :: l)
      | none => none
    | none => none
theorem loadNF_eq (n : Nat) (zs : List AV) (t : Tr AV) : ∀ k i, loadNF n zs t i k = loadN n zs t i k
  | 0, i => rfl
  | k + 1, i => by
    simp only [loadNF, loadN, cellF_eq, loadNF_eq n zs t k]
    rfl
noncomputable def loadAtF (s : St) (i : TI) (b off : Nat) : Option AV :=
  match getF (path b) s.h with
  | some (.cells _ n zs t _ _) => bif i.isAgg then (loadNF n zs t off i.size).map .agg else cellF n zs t off
  | _ => none
theorem loadAtF_eq (s : St) (i : TI) (b off : Nat) : loadAtF s i b off = loadAt s i b off := by
  unfold loadAtF loadAt
  simp only [getF_eq, loadNF_eq, cellF_eq]
  rfl
noncomputable def storeLF (t : Tr AV) (i : Nat) : List AV → Tr AV
  | [] => t
  | v :: l => storeLF (setF (some v) (path i) t) (i + 1) l
theorem storeLF_eq : ∀ (l : List AV) (t : Tr AV) (i : Nat), storeLF t i l = storeL t i l
  | [], t, i => rfl
  | v :: l, t, i => by
    simp only [storeLF, storeL, setF_eq, storeLF_eq l]
noncomputable def storeAtF (s : St) (lo b off : Nat) (l : List AV) : Option St :=
  match getF (path b) s.h with
  | some (.cells T n zs t o true) => bif Nat.ble lo b && Nat.ble (off + l.length) n && allScalar l then some ⟨setF (some (.cells T n zs (storeLF t off l) o true)) (path b) s.h, s.n⟩ else none
  | _ => none
theorem storeAtF_eq (s : St) (lo b off : Nat) (l : List AV) : storeAtF s lo b off l = storeAt s lo b off l := by
  unfold storeAtF storeAt
  simp only [getF_eq, setF_eq, storeLF_eq]
  rfl
/-! Operations. -/
noncomputable def loadF (i : TI) (r : Ready) : OpF := fun _ _ fr s => useF r fr fun v => match v with
  | .ptr b off => match loadAtF s i b off with
    | some v => some (v, s)
    | none => none
  | _ => none
noncomputable def moveF (r : Ready) : OpF := fun _ _ fr s => useF r fr fun v => some (v, s)
noncomputable def nilF (r : Ready) : OpF := fun _ _ fr s => useF r fr fun v => match v with
  | .ptr b off => some (.ptr b off, s)
  | .fn f cap => some (.fn f cap, s)
  | .slc b o l c => some (.slc b o l c, s)
  | .map b => some (.map b, s)
  | _ => none
noncomputable def binOpF (P : Program) (op : BinOp) (t : TypeId) (x y : Ready) : OpF := fun _ _ fr s => useF x fr fun a => useF y fr fun b => match binF P op t a b with
  | some v => some (v, s)
  | none => none
noncomputable def fieldAddrF (off' : Nat) (r : Ready) : OpF := fun _ _ fr s => useF r fr fun v => match v with
  | .ptr b off => some (.ptr b (off + off'), s)
  | _ => none
noncomputable def storeF (i : TI) (a x : Ready) : OpF := fun _ lo fr s => useF a fr fun u => match u with
  | .ptr b off => useF x fr fun v => bif v.cells.length == i.size then
      match storeAtF s lo b off v.cells with
      | some s' => some (.tup [], s')
      | none => none
    else none
  | _ => none
noncomputable def extractF (k : Nat) (r : Ready) : OpF := fun _ _ fr s => useF r fr fun v => match v with
  | .tup l => match l[k]? with
    | some v => some (v, s)
    | none => none
  | _ => none
def readys (P : Program) : List Operand → List Ready
  | [] => []
  | x :: l => ready P x :: readys P l
noncomputable def usesF (l : List Ready) (fr : Tr AV) : Option (List AV) :=
  List.rec (motive := fun _ => Option (List AV)) (some []) (fun r _ ih => useF r fr fun v => Option.rec (motive := fun _ => Option (List AV)) none (fun vs => some (v :: vs)) ih) l
theorem usesF_eq (P : Program) (fr : Tr AV) : ∀ l : List Operand, usesF (readys P l) fr = opnds P fr l
  | [] => rfl
  | x :: l => by
    show useF (ready P x) fr (fun v => Option.rec none (fun vs => some (v :: vs)) (usesF (readys P l) fr)) = _
    rw [useF_eq, usesF_eq P fr l, opnds]
    cases opnd P fr x with
    | none => rfl
    | some v => cases opnds P fr l <;> rfl
noncomputable def callF (f : FuncId) (args : List Ready) : OpF := fun c lo fr s => Option.rec (motive := fun _ => Option (AV × St)) none (fun vs => c lo f vs s) (usesF args fr)
/-- what the runner does, as it stands. -/
def anyF (P : Program) (o : Oper) : OpF := fun c lo fr s => evOper P lo (lift c) fr s o
noncomputable def cCall (P : Program) (o : Oper) (c : Call) : Box OpF :=
  match c.callee with
  | .value (.func f) => match P.funcs[f]? with
    | some fn => match fn.body with
      | some _ => bif fn.name == "runtime.NumGoroutine" then .mk (anyF P o) else .mk (callF f (readys P c.args.toList))
      | none => .mk (anyF P o)
    | none => .mk (anyF P o)
  | _ => .mk (anyF P o)
def placeF (b off len size : Nat) (k : Int) (s : St) : Option (AV × St) :=
  match k with
  | .ofNat m => bif Nat.blt m len then some (.ptr b (Nat.add off (Nat.mul m size)), s) else none
  | .negSucc _ => none
theorem placeF_eq (b off len size : Nat) (k : Int) (s : St) : placeF b off len size k s = bif decide (0 ≤ k) && decide (k < (len : Int)) then some (.ptr b (off + k.toNat * size), s) else none := by
  cases k with
  | ofNat m =>
    have h0 : decide ((0 : Int) ≤ Int.ofNat m) = true := decide_eq_true (Int.natCast_nonneg m)
    have h1 : decide (Int.ofNat m < (len : Int)) = Nat.blt m len := by
      rw [Bool.eq_iff_iff, decide_eq_true_eq]
      show ((m : Int) < (len : Int)) ↔ _
      simp [Nat.blt, Nat.ble_eq]
      omega
    rw [h0, h1]
    rfl
  | negSucc m =>
    have h0 : decide ((0 : Int) ≤ Int.negSucc m) = false := rfl
    rw [h0]
    rfl
noncomputable def placeArrF (len size : Nat) (x ix : Ready) : OpF := fun _ _ fr s => useF ix fr fun w => match w with
  | .int _ k => useF x fr fun v => match v with
    | .ptr b off => placeF b off len size k s
    | _ => none
  | _ => none
noncomputable def placeSlcF (size : Nat) (x ix : Ready) : OpF := fun _ _ fr s => useF ix fr fun w => match w with
  | .int _ k => useF x fr fun v => match v with
    | .slc b off len _ => placeF b off len size k s
    | _ => none
  | _ => none
noncomputable def cPlace (P : Program) (o : Oper) (t : TypeId) (x ix : Operand) : Box OpF :=
  match ti P t with
  | none => .mk (anyF P o)
  | some i => match i.d with
    | .array len e => match ti P e with
      | none => .mk (anyF P o)
      | some j => .mk (placeArrF len j.size (ready P x) (ready P ix))
    | .slice e => match ti P e with
      | none => .mk (anyF P o)
      | some j => .mk (placeSlcF j.size (ready P x) (ready P ix))
    | _ => .mk (anyF P o)
theorem cPlace_eq (P : Program) (o : Oper) (t : TypeId) (x ix : Operand) (ho : o.op = .indexAddr t x ix) (c : CallF) (lo : Nat) (fr : Tr AV) (s : St) : (cPlace P o t x ix).run c lo fr s = evOper P lo (lift c) fr s o := by
  have he : evOper P lo (lift c) fr s o = evIndexAddr P lo fr s t x ix := by
    unfold evOper
    rw [ho]
    rfl
  unfold cPlace
  split
  · rfl
  · rename_i i hi
    split
    · rename_i len e hd
      split
      · rfl
      · rename_i j hj
        rw [he]
        simp only [Box.run, placeArrF, useF_eq, evIndexAddr, hi, hd, placeF_eq]
        cases opnd P fr ix with
        | none => rfl
        | some w => cases w <;> try rfl
                    cases opnd P fr x with
                    | none => rfl
                    | some v => cases v <;> first | rfl | simp only [hj]
    · rename_i e hd
      split
      · rfl
      · rename_i j hj
        rw [he]
        simp only [Box.run, placeSlcF, useF_eq, evIndexAddr, hi, hd, placeF_eq]
        cases opnd P fr ix with
        | none => rfl
        | some w => cases w <;> try rfl
                    cases opnd P fr x with
                    | none => rfl
                    | some v => cases v <;> first | rfl | simp only [hj]
    · rfl
noncomputable def cOper (P : Program) (o : Oper) : Box OpF :=
  match o.op with
  | .move x => .mk (moveF (ready P x))
  | .assign x => .mk (moveF (ready P x))
  | .load t a => match ti P t with
    | some i => .mk (loadF i (ready P a))
    | none => .mk (anyF P o)
  | .store t a x => match ti P t with
    | some i => .mk (storeF i (ready P a) (ready P x))
    | none => .mk (anyF P o)
  | .nilCheck x => .mk (nilF (ready P x))
  | .binOp op t x y _ => .mk (binOpF P op t (ready P x) (ready P y))
  | .extract x k => .mk (extractF k (ready P x))
  | .fieldAddr st x f => match ti P st with
    | some i => match i.d with
      | .struct fs => match fs[f]? with
        | some fd => match ti P fd.type with
          | some j => bif j.size == 0 then .mk (anyF P o) else .mk (fieldAddrF fd.offset (ready P x))
          | none => .mk (anyF P o)
        | none => .mk (anyF P o)
      | _ => .mk (anyF P o)
    | none => .mk (anyF P o)
  | .indexAddr t x ix => cPlace P o t x ix
  | .call c => cCall P o c
  | _ => .mk (anyF P o)
theorem opt_rec {α β : Type} (x : Option α) (f : α → Option β) : Option.rec (motive := fun _ => Option β) none (fun a => f a) x = match x with | some a => f a | none => none := by cases x <;> rfl
theorem cOper_eq (P : Program) (o : Oper) (c : CallF) (lo : Nat) (fr : Tr AV) (s : St) : (cOper P o).run c lo fr s = evOper P lo (lift c) fr s o := by
  obtain ⟨dst, op, ty, pos, after, guard⟩ := o
  cases op <;> try rfl
  case indexAddr t x ix => exact cPlace_eq P _ t x ix rfl c lo fr s
  case move x =>
    simp only [cOper, Box.run, moveF, useF_eq, evOper, evOp, evMove]
    cases opnd P fr x <;> rfl
  case assign x =>
    simp only [cOper, Box.run, moveF, useF_eq, evOper, evOp, evAssign]
    cases opnd P fr x <;> rfl
  case load t a =>
    simp only [cOper]
    split
    · rename_i i hi
      simp only [Box.run, loadF, loadAtF_eq, useF_eq, evOper, evOp, evLoad, hi]
      cases h : opnd P fr a with
      | none => rfl
      | some v => cases v <;> rfl
    · rfl
  case store t a x =>
    simp only [cOper]
    split
    · rename_i i hi
      simp only [Box.run, storeF, storeAtF_eq, useF_eq, evOper, evOp, evStore, hi]
      cases h : opnd P fr a with
      | none => rfl
      | some v => cases v <;> first | rfl | (simp only; cases opnd P fr x <;> rfl)
    · rfl
  case nilCheck x =>
    simp only [cOper, Box.run, nilF, useF_eq, evOper, evOp, evNilCheck]
    cases h : opnd P fr x with
    | none => rfl
    | some v => cases v <;> rfl
  case binOp op t x y yt =>
    simp only [cOper, Box.run, binOpF, useF_eq, binF_eq, evOper, evOp, evBinOp]
    cases h : opnd P fr x with
    | none => rfl
    | some v => cases opnd P fr y <;> rfl
  case extract x k =>
    simp only [cOper, Box.run, extractF, useF_eq, evOper, evOp, evExtract]
    cases h : opnd P fr x with
    | none => rfl
    | some v => cases v <;> rfl
  case fieldAddr st x f =>
    simp only [cOper]
    split
    · rename_i i hi
      split
      · rename_i fs hd
        split
        · rename_i fd hf
          split
          · rename_i j hj
            cases hz : (j.size == 0) with
            | true => rfl
            | false =>
              simp only [cond_false, Box.run, fieldAddrF, useF_eq, evOper, evOp, evFieldAddr, hi, hd, hf, hj, hz]
              cases h : opnd P fr x with
              | none => rfl
              | some v => cases v <;> rfl
          · rfl
        · rfl
      · rfl
    · rfl
  case call cl =>
    simp only [cOper, cCall]
    split
    · rename_i f hcal
      split
      · rename_i fn hfn
        split
        · rename_i body hb
          cases hn : (fn.name == "runtime.NumGoroutine") with
          | true => rfl
          | false =>
            simp only [cond_false, Box.run, callF, usesF_eq, opt_rec, evOper, hcal, callee, opnd]
            cases h : opnds P fr cl.args.toList with
            | none => rfl
            | some l =>
              simp only [List.append_nil, hfn, hb, hn, cond_false, lift]
              cases c lo f l s with
              | none => rfl
              | some r => rfl
        · rfl
      · rfl
    · rfl
/-! Regions. -/
noncomputable def cPut (nt : Nat) : Option Tmp → Box (Tr AV → AV → Option (Tr AV))
  | none => .mk fun fr _ => some fr
  | some d => bif Nat.blt d nt then .mk (fun fr v => some (setF (some v) (path d) fr)) else .mk (fun _ _ => none)
theorem cPut_eq (nt : Nat) (dst : Option Tmp) (fr : Tr AV) (v : AV) : (cPut nt dst).run fr v = put nt fr dst v := by
  cases dst with
  | none => rfl
  | some d =>
    simp only [cPut, put]
    cases Nat.blt d nt with
    | true => simp only [cond_true, Box.run, setF_eq]
    | false => rfl
abbrev OpsF := CallF → Nat → Tr AV → St → Option (Tr AV × St)
noncomputable def stepF (g : OpF) (p : Tr AV → AV → Option (Tr AV)) (k : OpsF) : OpsF := fun c lo fr s =>
  Option.rec (motive := fun _ => Option (Tr AV × St)) none (fun r => Prod.rec (motive := fun _ => Option (Tr AV × St)) (fun v s' => Option.rec (motive := fun _ => Option (Tr AV × St)) none (fun fr' => k c lo fr' s') (p fr v)) r) (g c lo fr s)
/-- where the guard stands, and what it wants. -/
def wantF (ops : Array Oper) (o : Oper) : Option (Option Pth × Bool) :=
  match o.guard with
  | none => none
  | some (j, want) => match ops[j]? with
    | some g => match g.dst with
      | some d => some (some (path d), want)
      | none => some (none, want)
    | none => some (none, want)
def boolIs (want : Bool) : Option AV → Bool
  | some (.bool b) => b == want
  | _ => false
noncomputable def wantRun (w : Option Pth × Bool) (fr : Tr AV) : Bool :=
  match w with
  | (some p, want) => boolIs want (getF p fr)
  | (none, _) => false
theorem wanted_eq (ops : Array Oper) (o : Oper) (fr : Tr AV) : wantedOp fr ops o = match wantF ops o with | none => some true | some w => some (wantRun w fr) := by
  unfold wantedOp wantF
  cases o.guard with
  | none => rfl
  | some jw =>
    obtain ⟨j, want⟩ := jw
    simp only
    cases ops[j]? with
    | none => rfl
    | some g =>
      simp only
      cases g.dst with
      | none => rfl
      | some d =>
        simp only [wantRun, getF_eq]
        cases fr.get (path d) with
        | none => rfl
        | some v => cases v <;> rfl
noncomputable def guardF (w : Option Pth × Bool) (p : Tr AV → AV → Option (Tr AV)) (yes no : OpsF) : OpsF := fun c lo fr s => bif wantRun w fr then yes c lo fr s else match p fr (.tup []) with
  | some fr' => no c lo fr' s
  | none => none
noncomputable def cOps (P : Program) (nt : Nat) (ops : Array Oper) : List Oper → Box OpsF
  | [] => .mk fun _ _ fr s => some (fr, s)
  | o :: l => match cOper P o with
    | .mk g => match cPut nt o.dst with
      | .mk p => match cOps P nt ops l with
        | .mk k => match wantF ops o with
          | none => .mk (stepF g p k)
          | some w => .mk (guardF w p (stepF g p k) k)
theorem run_mk {α : Type} {b : Box α} {f : α} (h : b = .mk f) : b.run = f := by rw [h]; rfl
theorem cOps_eq (P : Program) (nt lo : Nat) (c : CallF) (ops : Array Oper) : ∀ (l : List Oper) (fr : Tr AV) (s : St), evOps P lo nt (lift c) ops l fr s = match (cOps P nt ops l).run c lo fr s with | some (fr', s') => some (.code .nrm fr' s') | none => none
  | [], fr, s => rfl
  | o :: l, fr, s => by
    have ih := cOps_eq P nt lo c ops l
    simp only [evOps, cOps]
    cases hg : cOper P o with
    | mk g =>
    have eg := cOper_eq P o c lo
    rw [run_mk hg] at eg
    cases hp : cPut nt o.dst with
    | mk p =>
    have ep := cPut_eq nt o.dst
    rw [run_mk hp] at ep
    cases hk : cOps P nt ops l with
    | mk k =>
    rw [run_mk hk] at ih
    have step : ∀ fr s, (match stepF g p k c lo fr s with | some (fr', s') => some (Out.code .nrm fr' s') | none => none) = (match evOper P lo (lift c) fr s o with
        | some (v, s') => match put nt fr o.dst v with
          | some fr' => evOps P lo nt (lift c) ops l fr' s'
          | none => none
        | none => none) := by
      intro fr s
      simp only [stepF, eg]
      cases evOper P lo (lift c) fr s o with
      | none => rfl
      | some r =>
        obtain ⟨v, s'⟩ := r
        simp only [ep]
        cases put nt fr o.dst v with
        | none => rfl
        | some fr' => exact (ih fr' s').symm
    rw [wanted_eq]
    cases hgd : wantF ops o with
    | none =>
      simp only [Box.run]
      rw [step]
      rfl
    | some jw =>
      simp only [Box.run, guardF]
      cases hw : wantRun jw fr with
      | true => exact (step fr s).symm
      | false =>
        simp only [ep, cond_false]
        cases put nt fr o.dst (.tup []) with
        | none => rfl
        | some fr' => exact ih fr' s
/-! Drawn regions. -/
def NoNews (recs : List Rec) : Prop := ∀ r ∈ recs, r.news = []
def NoWr (recs : List Rec) : Prop := ∀ r ∈ recs, r.kind ≠ .writes
def memQ (nn : Bool) (h : Tr Blk) (held mask : Nat) (recs : List Rec) : Tr Blk := bif nn then memOf h held mask recs 0 else h
theorem memOf_calm {held mask : Nat} {h : Tr Blk} : ∀ {recs : List Rec} {k : Nat}, NoNews recs → memOf h held mask recs k = h
  | [], _, _ => rfl
  | r :: l, k, hn => by
    simp only [memOf, hn r (by simp)]
    exact memOf_calm fun r' hr => hn r' (by simp [hr])
theorem memQ_eq {nn : Bool} {recs : List Rec} (hn : nn = false → NoNews recs) (h : Tr Blk) (held mask : Nat) : memQ nn h held mask recs = memOf h held mask recs 0 := by
  cases nn with
  | true => rfl
  | false => exact (memOf_calm (hn rfl)).symm
noncomputable def lookAtQ (nn : Bool) (P : Program) (c : Core) (mask : Nat) (recs : List Rec) (n : Nat) (t : TypeId) (b off : Nat) : Option AV :=
  match ti P t with
  | some i => loadAtF ⟨memQ nn c.h c.held mask recs, n⟩ i b off
  | none => none
noncomputable def lookAllQ (nn : Bool) (P : Program) (mask : Nat) (recs : List Rec) (n : Nat) (l : Look) : List Core → Bool
  | [] => true
  | c :: cs => (match lookAtQ nn P c mask recs n l.t l.b l.off with
    | some v => sameAV v l.v
    | none => false) && lookAllQ nn P mask recs n l cs
noncomputable def lookFirstQ (nn : Bool) (P : Program) (mask : Nat) (recs : List Rec) (n : Nat) (t : TypeId) (b off : Nat) : List Core → Option AV
  | [] => none
  | c :: cs => match lookAtQ nn P c mask recs n t b off with
    | some v => bif lookAllQ nn P mask recs n ⟨t, b, off, v⟩ cs then some v else none
    | none => none
noncomputable def looksStayQ (nn : Bool) (P : Program) (c : Core) (mask : Nat) (all : List Rec) (n : Nat) : List Rec → Nat → Bool
  | [], _ => true
  | r :: l, k => (match r.kind with
    | .look x => Nat.testBit mask k || lookAllQ nn P r.mask all n x [c]
    | _ => true) && looksStayQ nn P c mask all n l (k + 1)
section
variable {P : Program} {nn : Bool} {recs : List Rec} (hn : nn = false → NoNews recs)
include hn
theorem lookAtQ_eq (c : Core) (mask n : Nat) (t : TypeId) (b off : Nat) : lookAtQ nn P c mask recs n t b off = lookAt P c mask recs n t b off := by
  unfold lookAtQ lookAt
  simp only [memQ_eq hn, loadAtF_eq]
  rfl
theorem lookAllQ_eq (mask n : Nat) (l : Look) : ∀ cs : List Core, lookAllQ nn P mask recs n l cs = lookAll P mask recs n l cs
  | [] => rfl
  | c :: cs => by simp only [lookAllQ, lookAll, lookAtQ_eq hn, lookAllQ_eq mask n l cs]; rfl
theorem lookFirstQ_eq (mask n : Nat) (t : TypeId) (b off : Nat) (cs : List Core) : lookFirstQ nn P mask recs n t b off cs = lookFirst P mask recs n t b off cs := by
  cases cs with
  | nil => rfl
  | cons c cs => simp only [lookFirstQ, lookFirst, lookAtQ_eq hn, lookAllQ_eq hn]; rfl
theorem looksStayQ_eq (c : Core) (mask n : Nat) : ∀ (l : List Rec) (k : Nat), looksStayQ nn P c mask recs n l k = looksStay P c mask recs n l k
  | [], _ => rfl
  | r :: l, k => by simp only [looksStayQ, looksStay, lookAllQ_eq hn, looksStayQ_eq c mask n l]; rfl
end
theorem writesIn_none {mask : Nat} : ∀ {recs : List Rec} {k : Nat}, NoWr recs → writesIn mask recs k = 0
  | [], _, _ => rfl
  | r :: l, k, h => by
    have h1 := h r (by simp)
    have h2 := writesIn_none (mask := mask) (k := k + 1) (fun r' hr => h r' (by simp [hr]) : NoWr l)
    simp only [writesIn]
    exact h2
theorem allWrites_none {mask : Nat} : ∀ {recs : List Rec} {k : Nat}, NoWr recs → allWrites mask recs k = true
  | [], _, _ => rfl
  | r :: l, k, h => by
    have h1 := h r (by simp)
    have h2 := allWrites_none (mask := mask) (k := k + 1) (fun r' hr => h r' (by simp [hr]) : NoWr l)
    simp only [allWrites, h2, Bool.and_true]
structure DInv (k : Nat) (nn nw : Bool) (d : DSt) : Prop where
  len : d.recs.length = k
  news : nn = false → NoNews d.recs
  wr : nw = false → NoWr d.recs ∧ ∃ c, d.cores = [c]
def isCall : Op → Bool
  | .call c => match c.callee with
    | .value _ => true
    | _ => false
  | _ => false
theorem evOper_plain {P : Program} {lo : Nat} {ih : Nat → Job → Option Out} {fr : Tr AV} {s : St} {o : Oper} (h : isCall o.op = false) : evOper P lo ih fr s o = evOp P lo fr s o.op := by
  unfold evOper
  split
  · rename_i c hc
    rw [hc] at h
    simp only [isCall] at h
    split
    · rename_i f hf
      rw [hf] at h
      cases h
    · rw [hc]
  · rfl
theorem evOp_call {P : Program} {lo : Nat} {fr : Tr AV} {s : St} {op : Op} (h : isCall op = true) : evOp P lo fr s op = none := by
  unfold isCall at h
  split at h
  · rename_i c
    split at h
    · rename_i f hf
      simp only [evOp, evCall, hf]
    · cases h
  · cases h
theorem evOp_load_none {P : Program} {lo n : Nat} {fr : Tr AV} {t : TypeId} {a : Operand} : evOp P lo fr ⟨.lf, n⟩ (.load t a) = none := by
  have e : ∀ p : Pth, Tr.get p (Tr.lf : Tr Blk) = none := fun p => by cases p <;> rfl
  simp only [evOp, evLoad]
  split
  · split
    · rfl
    · simp only [loadAt, e]
  · rfl
/-- it writes, or must see the whole memory. -/
noncomputable def writeQ (P : Program) (full : Bool) (o : Oper) (m : Nat) (g : OpF) (p : Tr AV → AV → Option (Tr AV)) (c : CallF) (lo : Nat) (nn nw : Bool) (d : DSt) : Option DSt :=
  bif !(bif nw then allWrites m d.recs 0 else true) then none else
    match g c lo d.fr ⟨memQ nn d.core.h d.core.held m d.recs, d.n⟩ with
    | some (v, s') => bif !Nat.ble d.n s'.n then none else match p d.fr v with
      | some fr' =>
        bif full || looksStayQ nn P ⟨s'.h, Nat.lor (Nat.lor d.core.held m) (2 ^ d.recs.length)⟩ m (d.recs ++ [⟨m, [], .writes⟩]) s'.n d.recs 0 then
          some ⟨d.done ++ [o], d.recs ++ [⟨m, [], .writes⟩], ⟨s'.h, Nat.lor (Nat.lor d.core.held m) (2 ^ d.recs.length)⟩ :: d.cores, fr', forceN s'.n⟩
        else none
      | none => none
    | none => none
noncomputable def lookQ (P : Program) (o : Oper) (m : Nat) (t : TypeId) (r : Ready) (p : Tr AV → AV → Option (Tr AV)) (nn nw : Bool) (d : DSt) : Option DSt :=
  useF r d.fr fun u => match u with
  | .ptr b off => match lookFirstQ nn P m d.recs d.n t b off (bif nw then d.cores.take (d.cores.length - writesIn m d.recs 0) else d.cores) with
    | some v => bif !belowAV d.n v then none else match p d.fr v with
      | some fr' => some ⟨d.done ++ [o], d.recs ++ [⟨m, [], .look ⟨t, b, off, v⟩⟩], d.cores, fr', d.n⟩
      | none => none
    | none => none
  | _ => none
noncomputable def calmQ (P : Program) (full : Bool) (o : Oper) (m : Nat) (g : OpF) (p : Tr AV → AV → Option (Tr AV)) (c : CallF) (lo : Nat) (nn nw : Bool) (d : DSt) : Option DSt :=
  match g c d.n d.fr ⟨.lf, d.n⟩ with
  | some (v, s') => bif !Nat.ble d.n s'.n then none else match p d.fr v with
    | some fr' => some ⟨d.done ++ [o], d.recs ++ [⟨m, newsOf s'.h d.n (s'.n - d.n), .calm⟩], d.cores, fr', forceN s'.n⟩
    | none => none
  | none => writeQ P full o m g p c lo nn nw d
abbrev DrawF := CallF → Nat → Bool → Bool → DSt → Option DSt
noncomputable def bodyQ (P : Program) (full : Bool) (o : Oper) (m : Nat) (g : OpF) (p : Tr AV → AV → Option (Tr AV)) : DrawF :=
  match o.op with
  | .load t a => fun _ _ nn nw d => lookQ P o m t (ready P a) p nn nw d
  | op => bif isCall op then writeQ P full o m g p else calmQ P full o m g p
noncomputable def cDrawOp (P : Program) (nt : Nat) (ops : Array Oper) (k : Nat) (o : Oper) (m : Nat) : Box DrawF :=
  match cOper P o with
  | .mk g => match cPut nt o.dst with
    | .mk p => match wantF ops o with
      | none => .mk (bodyQ P (Nat.beq (m + 1) (2 ^ k)) o m g p)
      | some w => .mk fun c lo nn nw d => bif wantRun w d.fr then bodyQ P (Nat.beq (m + 1) (2 ^ k)) o m g p c lo nn nw d else match p d.fr (.tup []) with
          | some fr' => some ⟨d.done ++ [o], d.recs ++ [⟨m, [], .calm⟩], d.cores, fr', d.n⟩
          | none => none
theorem looksStay_full {P : Program} {c : Core} {mask n : Nat} {all : List Rec} : ∀ (l : List Rec) (k : Nat), (∀ j, j < l.length → Nat.testBit mask (k + j) = true) → looksStay P c mask all n l k = true
  | [], _, _ => rfl
  | r :: l, k, h => by
    have h0 : Nat.testBit mask k = true := h 0 (by simp)
    have h1 := looksStay_full (P := P) (c := c) (mask := mask) (n := n) (all := all) l (k + 1) (fun j hj => by rw [show k + 1 + j = k + (j + 1) by omega]; exact h (j + 1) (by simpa using hj))
    simp only [looksStay, h0, h1, Bool.true_or, Bool.and_true]
    split <;> rfl
section
variable {P : Program} {nt lo : Nat} {c : CallF} {ops : Array Oper}
theorem writeQ_eq {o : Oper} {m : Nat} {d : DSt} {nn nw : Bool} {k : Nat} (hi : DInv k nn nw d) {g : OpF} {p : Tr AV → AV → Option (Tr AV)} (hg : ∀ lo fr s, g c lo fr s = evOper P lo (lift c) fr s o) (hp : ∀ fr v, p fr v = put nt fr o.dst v) :
    writeQ P (Nat.beq (m + 1) (2 ^ k)) o m g p c lo nn nw d = bif !allWrites m d.recs 0 then none else
          match evOper P lo (lift c) d.fr ⟨memOf d.core.h d.core.held m d.recs 0, d.n⟩ o with
          | some (v, s') => bif !Nat.ble d.n s'.n then none else match put nt d.fr o.dst v with
            | some fr' =>
              bif looksStay P ⟨s'.h, Nat.lor (Nat.lor d.core.held m) (2 ^ d.recs.length)⟩ m (d.recs ++ [⟨m, [], .writes⟩]) s'.n d.recs 0 then
                some ⟨d.done ++ [o], d.recs ++ [⟨m, [], .writes⟩], ⟨s'.h, Nat.lor (Nat.lor d.core.held m) (2 ^ d.recs.length)⟩ :: d.cores, fr', forceN s'.n⟩
              else none
            | none => none
          | none => none := by
  have ha : (bif nw then allWrites m d.recs 0 else true) = allWrites m d.recs 0 := by
    cases nw with
    | true => rfl
    | false => rw [allWrites_none (hi.wr rfl).1]; rfl
  have hn2 : nn = false → NoNews (d.recs ++ [⟨m, [], .writes⟩]) := by
    intro h r hr
    rcases List.mem_append.1 hr with h1 | h1
    · exact hi.news h r h1
    · simp only [List.mem_singleton] at h1
      subst h1
      rfl
  have hfull : ∀ (c : Core) (n : Nat), (Nat.beq (m + 1) (2 ^ k) || looksStay P c m (d.recs ++ [⟨m, [], .writes⟩]) n d.recs 0) = looksStay P c m (d.recs ++ [⟨m, [], .writes⟩]) n d.recs 0 := by
    intro c n
    cases hb : Nat.beq (m + 1) (2 ^ k) with
    | false => rfl
    | true =>
      have hm : m = 2 ^ k - 1 := by
        have : m + 1 = 2 ^ k := by simpa [Nat.beq_eq] using hb
        omega
      rw [looksStay_full d.recs 0 (fun j hj => by
        rw [hm, Nat.zero_add, Nat.testBit_two_pow_sub_one]
        rw [hi.len] at hj
        simpa using hj)]
      rfl
  unfold writeQ
  simp only [ha, hg, hp, memQ_eq hi.news, looksStayQ_eq hn2, hfull]
theorem lookQ_eq {o : Oper} {m : Nat} {d : DSt} {nn nw : Bool} {k : Nat} (hi : DInv k nn nw d) {t : TypeId} {a : Operand} {p : Tr AV → AV → Option (Tr AV)} (hp : ∀ fr v, p fr v = put nt fr o.dst v) :
    lookQ P o m t (ready P a) p nn nw d = match opnd P d.fr a with
        | some (.ptr b off) => match lookFirst P m d.recs d.n t b off (d.cores.take (d.cores.length - writesIn m d.recs 0)) with
          | some v => bif !belowAV d.n v then none else match put nt d.fr o.dst v with
            | some fr' => some ⟨d.done ++ [o], d.recs ++ [⟨m, [], .look ⟨t, b, off, v⟩⟩], d.cores, fr', d.n⟩
            | none => none
          | none => none
        | _ => none := by
  have hc : (bif nw then d.cores.take (d.cores.length - writesIn m d.recs 0) else d.cores) = d.cores.take (d.cores.length - writesIn m d.recs 0) := by
    cases nw with
    | true => rfl
    | false =>
      obtain ⟨h1, c0, h2⟩ := hi.wr rfl
      rw [writesIn_none h1, Nat.sub_zero, List.take_length]
      rfl
  unfold lookQ
  simp only [useF_eq, hc, hp, lookFirstQ_eq hi.news]
  cases opnd P d.fr a with
  | none => rfl
  | some v => cases v <;> rfl
theorem cDrawOp_eq {o : Oper} {m : Nat} {d : DSt} {nn nw : Bool} {k : Nat} (hi : DInv k nn nw d) : (cDrawOp P nt ops k o m).run c lo nn nw d = evDrawOp P lo nt (lift c) ops o m d := by
  unfold cDrawOp
  cases hgc : cOper P o with
  | mk g =>
  have hg : ∀ lo fr s, g c lo fr s = evOper P lo (lift c) fr s o := fun lo fr s => by rw [← cOper_eq, hgc]; rfl
  cases hpc : cPut nt o.dst with
  | mk p =>
  have hp : ∀ fr v, p fr v = put nt fr o.dst v := fun fr v => by rw [← cPut_eq, hpc]; rfl
  have body : bodyQ P (Nat.beq (m + 1) (2 ^ k)) o m g p c lo nn nw d = match evOp P d.n d.fr ⟨.lf, d.n⟩ o.op with
    | some (v, s') => bif !Nat.ble d.n s'.n then none else match put nt d.fr o.dst v with
      | some fr' => some ⟨d.done ++ [o], d.recs ++ [⟨m, newsOf s'.h d.n (s'.n - d.n), .calm⟩], d.cores, fr', forceN s'.n⟩
      | none => none
    | none =>
      match o.op with
      | .load t a => match opnd P d.fr a with
        | some (.ptr b off) => match lookFirst P m d.recs d.n t b off (d.cores.take (d.cores.length - writesIn m d.recs 0)) with
          | some v => bif !belowAV d.n v then none else match put nt d.fr o.dst v with
            | some fr' => some ⟨d.done ++ [o], d.recs ++ [⟨m, [], .look ⟨t, b, off, v⟩⟩], d.cores, fr', d.n⟩
            | none => none
          | none => none
        | _ => none
      | _ =>
        bif !allWrites m d.recs 0 then none else
          match evOper P lo (lift c) d.fr ⟨memOf d.core.h d.core.held m d.recs 0, d.n⟩ o with
          | some (v, s') => bif !Nat.ble d.n s'.n then none else match put nt d.fr o.dst v with
            | some fr' =>
              bif looksStay P ⟨s'.h, Nat.lor (Nat.lor d.core.held m) (2 ^ d.recs.length)⟩ m (d.recs ++ [⟨m, [], .writes⟩]) s'.n d.recs 0 then
                some ⟨d.done ++ [o], d.recs ++ [⟨m, [], .writes⟩], ⟨s'.h, Nat.lor (Nat.lor d.core.held m) (2 ^ d.recs.length)⟩ :: d.cores, fr', forceN s'.n⟩
              else none
            | none => none
          | none => none := by
    by_cases hl : ∃ t a, o.op = .load t a
    · obtain ⟨t, a, ho⟩ := hl
      have hb : bodyQ P (Nat.beq (m + 1) (2 ^ k)) o m g p c lo nn nw d = lookQ P o m t (ready P a) p nn nw d := by
        unfold bodyQ
        rw [ho]
      rw [hb, lookQ_eq hi hp, ho, evOp_load_none]
    · have hno : ∀ t a, o.op ≠ .load t a := fun t a e => hl ⟨t, a, e⟩
      have hb : bodyQ P (Nat.beq (m + 1) (2 ^ k)) o m g p c lo nn nw d = (bif isCall o.op then writeQ P (Nat.beq (m + 1) (2 ^ k)) o m g p else calmQ P (Nat.beq (m + 1) (2 ^ k)) o m g p) c lo nn nw d := by
        unfold bodyQ
        generalize o.op = x at hno ⊢
        cases x <;> first | rfl | exact absurd rfl (hno _ _)
      rw [hb]
      cases hcall : isCall o.op with
      | true =>
        rw [evOp_call hcall]
        simp only [cond_true]
        rw [writeQ_eq hi hg hp]
      | false =>
        simp only [cond_false]
        unfold calmQ
        rw [hg, evOper_plain hcall]
        cases evOp P d.n d.fr ⟨.lf, d.n⟩ o.op with
        | some r => simp only [hp]
        | none =>
          simp only
          rw [writeQ_eq hi hg hp]
  unfold evDrawOp
  rw [wanted_eq]
  cases hgd : wantF ops o with
  | none => exact body
  | some jw =>
    simp only [Box.run, hp]
    cases wantRun jw d.fr with
    | true => exact body
    | false => rfl
theorem inv_of {o : Oper} {m : Nat} {d d' : DSt} (h : evDrawOp P lo nt (lift c) ops o m d = some d') : ∃ r : Rec, d'.recs = d.recs ++ [r] ∧ (d'.n = d.n → r.news = []) ∧ ((d'.cores = d.cores ∧ r.kind ≠ .writes) ∨ ∃ x, d'.cores = x :: d.cores) := by
  unfold evDrawOp at h
  split at h
  case h_1 => cases h
  case h_2 hw =>
    split at h
    case h_2 => cases h
    case h_1 fr' hp =>
    cases h
    exact ⟨_, rfl, fun _ => rfl, .inl ⟨rfl, by simp⟩⟩
  case h_3 hw =>
    split at h
    case h_1 v s' he =>
      cases hle : (!Nat.ble d.n s'.n) with
      | true => rw [hle] at h; cases h
      | false =>
      rw [hle] at h
      simp only [cond_false] at h
      split at h
      case h_2 => cases h
      case h_1 fr' hp =>
      cases h
      refine ⟨_, rfl, fun e => ?_, .inl ⟨rfl, by simp⟩⟩
      simp only [forceN_eq] at e
      rw [e, Nat.sub_self]
      rfl
    case h_2 he =>
      split at h
      case h_1 t x ho =>
        split at h
        case h_2 => cases h
        case h_1 b off hx =>
        split at h
        case h_2 => cases h
        case h_1 v hl =>
        cases hb : belowAV d.n v with
        | false => rw [hb] at h; cases h
        | true =>
        rw [hb] at h
        simp only [Bool.not_true, cond_false] at h
        split at h
        case h_2 => cases h
        case h_1 fr' hp =>
        cases h
        exact ⟨_, rfl, fun _ => rfl, .inl ⟨rfl, by simp⟩⟩
      case h_2 ho =>
        cases ha : allWrites m d.recs 0 with
        | false => rw [ha] at h; cases h
        | true =>
        rw [ha] at h
        simp only [Bool.not_true, cond_false] at h
        split at h
        case h_2 => cases h
        case h_1 v s' he =>
        cases hle : (!Nat.ble d.n s'.n) with
        | true => rw [hle] at h; cases h
        | false =>
        rw [hle] at h
        simp only [cond_false] at h
        split at h
        case h_2 => cases h
        case h_1 fr' hp =>
        rw [Bool.cond_eq_ite] at h
        split at h
        case isFalse => cases h
        case isTrue hst =>
        cases h
        exact ⟨_, rfl, fun _ => rfl, .inr ⟨_, rfl⟩⟩
end
def single : List Core → Bool
  | [_] => true
  | _ => false
def forceB {α : Type} (b : Bool) (k : Bool → α) : α := match b with
  | true => k true
  | false => k false
theorem forceB_eq {α : Type} (b : Bool) (k : Bool → α) : forceB b k = k b := by cases b <;> rfl
abbrev DrawsF := CallF → Nat → Bool → Bool → DSt → Option (Tr AV × St)
noncomputable def cDraw (P : Program) (nt : Nat) (ops : Array Oper) : Nat → List (Oper × Nat) → Box DrawsF
  | _, [] => .mk fun _ _ nn _ d => some (d.fr, ⟨memQ nn d.core.h d.core.held (2 ^ d.recs.length - 1) d.recs, d.n⟩)
  | i, (o, m) :: l => match cDrawOp P nt ops i o m with
    | .mk g => match cDraw P nt ops (i + 1) l with
      | .mk k => .mk fun c lo nn nw d => match g c lo nn nw d with
        | some d' => forceB (nn || !Nat.beq d'.n d.n) fun nn' => forceB (nw || !single d'.cores) fun nw' => k c lo nn' nw' d'
        | none => none
theorem cDraw_eq {P : Program} {nt lo : Nat} {c : CallF} {ops : Array Oper} : ∀ (l : List (Oper × Nat)) (i : Nat) (d : DSt) (nn nw : Bool), DInv i nn nw d → evDraw P lo nt (lift c) ops l d = match (cDraw P nt ops i l).run c lo nn nw d with | some (fr', s') => some (.code .nrm fr' s') | none => none
  | [], i, d, nn, nw, hi => by
    simp only [evDraw, cDraw, Box.run, memQ_eq hi.news]
  | (o, m) :: l, i, d, nn, nw, hi => by
    simp only [evDraw, cDraw]
    cases hgc : cDrawOp P nt ops i o m with
    | mk g =>
    have hg : g c lo nn nw d = evDrawOp P lo nt (lift c) ops o m d := by rw [← cDrawOp_eq hi, hgc]; rfl
    cases hk : cDraw P nt ops (i + 1) l with
    | mk k =>
    simp only [Box.run, hg, forceB_eq]
    cases he : evDrawOp P lo nt (lift c) ops o m d with
    | none => rfl
    | some d' =>
      obtain ⟨r, h1, h2, h3⟩ := inv_of he
      have hi' : DInv (i + 1) (nn || !Nat.beq d'.n d.n) (nw || !single d'.cores) d' := by
        refine ⟨by rw [h1, List.length_append, hi.len]; rfl, fun e => ?_, fun e => ?_⟩
        · rw [Bool.or_eq_false_iff] at e
          have hnn : d'.n = d.n := by simpa [Nat.beq_eq] using e.2
          rw [h1]
          intro x hx
          rcases List.mem_append.1 hx with g1 | g1
          · exact hi.news e.1 x g1
          · simp only [List.mem_singleton] at g1
            subst g1
            exact h2 hnn
        · rw [Bool.or_eq_false_iff] at e
          obtain ⟨w1, c0, w2⟩ := hi.wr e.1
          rcases h3 with ⟨g1, g2⟩ | ⟨x, g1⟩
          · refine ⟨?_, c0, by rw [g1, w2]⟩
            rw [h1]
            intro x hx
            rcases List.mem_append.1 hx with g3 | g3
            · exact w1 x g3
            · simp only [List.mem_singleton] at g3
              subst g3
              exact g2
          · have := e.2
            rw [g1, w2] at this
            cases this
      have ih := cDraw_eq (P := P) (nt := nt) (lo := lo) (c := c) (ops := ops) l (i + 1) d' _ _ hi'
      rw [hk] at ih
      exact ih
/-! The plan, with what is latest ahead. -/
def maskR (k : Nat) (rms : List Nat) : List Edge → Nat
  | [] => 0
  | e :: l => bif Region.binds .any e then Nat.lor (Nat.lor (2 ^ e.on) (bif Nat.blt e.on k then recMask rms (Nat.sub (Nat.sub k 1) e.on) else 0)) (maskR k rms l) else maskR k rms l
def planR (ops : Array Oper) (k : Nat) (rdone : List Oper) (rms : List Nat) : List Oper → Option (List (Oper × Nat))
  | [] => some []
  | o :: l => (fun m => bif !(Nat.beq (m + 1) (2 ^ k) || (allApart ops o m rdone.reverse 0 && Nat.blt m (2 ^ k))) then none else
    match planR ops (k + 1) (o :: rdone) (m :: rms) l with
    | some r => some ((o, m) :: r)
    | none => none) (forceN (maskR k rms o.after.toList))
theorem recMask_rev {rms : List Nat} {k i : Nat} (hk : rms.length = k) : (bif Nat.blt i k then recMask rms (Nat.sub (Nat.sub k 1) i) else 0) = recMask rms.reverse i := by
  rw [recMask_eq, recMask_eq]
  by_cases hi : i < k
  · rw [blt_of hi]
    simp only [cond_true]
    rw [List.getElem?_reverse (by omega)]
    have : Nat.sub (Nat.sub k 1) i = rms.length - 1 - i := by rw [hk]; rfl
    rw [this]
  · have hb : Nat.blt i k = false := by
      cases e : Nat.blt i k with
      | false => rfl
      | true =>
        exfalso
        have q := e
        simp [Nat.blt, Nat.ble_eq] at q
        omega
    rw [hb]
    have : rms.reverse[i]? = none := by rw [List.getElem?_eq_none_iff, List.length_reverse]; omega
    rw [this]
    rfl
theorem maskR_eq {rms : List Nat} {k : Nat} (hk : rms.length = k) : ∀ l : List Edge, maskR k rms l = maskOf rms.reverse l
  | [] => rfl
  | e :: l => by simp only [maskR, maskOf, recMask_rev hk, maskR_eq hk l]
theorem allApart_full {ops : Array Oper} {o : Oper} {mask : Nat} : ∀ (l : List Oper) (k : Nat), (∀ j, j < l.length → Nat.testBit mask (k + j) = true) → allApart ops o mask l k = true
  | [], _, _ => rfl
  | p :: l, k, h => by
    have h0 : Nat.testBit mask k = true := h 0 (by simp)
    have h1 := allApart_full (ops := ops) (o := o) (mask := mask) l (k + 1) (fun j hj => by rw [show k + 1 + j = k + (j + 1) by omega]; exact h (j + 1) (by simpa using hj))
    simp only [allApart, h0, h1, Bool.true_or, Bool.and_true]
theorem planR_eq {ops : Array Oper} : ∀ (l : List Oper) (k : Nat) (rdone : List Oper) (rms : List Nat), rdone.length = k → rms.length = k → planR ops k rdone rms l = planGo ops rdone.reverse rms.reverse l
  | [], _, _, _, _, _ => rfl
  | o :: l, k, rdone, rms, h1, h2 => by
    simp only [planR, planGo, forceN_eq, maskR_eq h2]
    have ih := planR_eq (ops := ops) l (k + 1) (o :: rdone) (maskOf rms.reverse o.after.toList :: rms) (by simp [h1]) (by simp [h2])
    rw [ih, List.reverse_cons, List.reverse_cons]
    generalize maskOf rms.reverse o.after.toList = m
    have hc : (Nat.beq (m + 1) (2 ^ k) || (allApart ops o m rdone.reverse 0 && Nat.blt m (2 ^ k))) = (allApart ops o m rdone.reverse 0 && Nat.blt m (2 ^ rms.reverse.length)) := by
      rw [List.length_reverse, h2]
      cases hb : Nat.beq (m + 1) (2 ^ k) with
      | false => rfl
      | true =>
        have hm : m + 1 = 2 ^ k := by simpa [Nat.beq_eq] using hb
        have hm2 : m = 2 ^ k - 1 := by omega
        have g1 : allApart ops o m rdone.reverse 0 = true := allApart_full _ 0 (fun j hj => by
          rw [hm2, Nat.zero_add, Nat.testBit_two_pow_sub_one]
          rw [List.length_reverse, h1] at hj
          simpa using hj)
        rw [g1, blt_of (by omega)]
        rfl
    rw [hc, Bool.not_and]
    rfl
noncomputable def openF (k : DrawsF) : CallF → Nat → Nat → Tr AV → St → Option (Ex × Tr AV × St) := fun c _ lo fr s => match k c lo false false ⟨[], [], [⟨s.h, 0⟩], fr, forceN s.n⟩ with
  | some (fr', s') => some (.nrm, fr', s')
  | none => none
noncomputable def cOpen (P : Program) (nt : Nat) (ops : Array Oper) : Box (CallF → Nat → Nat → Tr AV → St → Option (Ex × Tr AV × St)) :=
  match planR ops 0 [] [] ops.toList with
  | some l => match cDraw P nt ops 0 l with
    | .mk k => .mk (openF k)
  | none => .mk fun _ _ _ _ _ => none
theorem cOpen_eq (P : Program) (nt lo n : Nat) (c : CallF) (ops : Array Oper) (fr : Tr AV) (s : St) : evOpen P lo nt (lift c) ops fr s = match (cOpen P nt ops).run c n lo fr s with | some (e, fr', s') => some (.code e fr' s') | none => none := by
  unfold evOpen cOpen
  rw [planR_eq ops.toList 0 [] [] rfl rfl, List.reverse_nil, List.reverse_nil]
  cases planGo ops [] [] ops.toList with
  | none => rfl
  | some l =>
    have h := cDraw_eq (P := P) (nt := nt) (lo := lo) (c := c) (ops := ops) l 0 ⟨[], [], [⟨s.h, 0⟩], fr, forceN s.n⟩ false false ⟨rfl, fun _ r hr => by simp at hr, fun _ => ⟨fun r hr => by simp at hr, _, rfl⟩⟩
    simp only [h]
    cases hk : cDraw P nt ops 0 l with
    | mk k =>
    simp only [Box.run, openF]
    cases k c lo false false ⟨[], [], [⟨s.h, 0⟩], fr, forceN s.n⟩ with
    | none => rfl
    | some r => rfl
/-! Code. -/
abbrev CodeF := CallF → Nat → Nat → Tr AV → St → Option (Ex × Tr AV × St)
noncomputable def loopF (b : Tr AV → St → Option (Ex × Tr AV × St)) (n : Nat) : Tr AV → St → Option (Ex × Tr AV × St) :=
  Nat.rec (motive := fun _ => Tr AV → St → Option (Ex × Tr AV × St)) (fun _ _ => none) (fun _ ih fr s => match b fr s with
    | some (.nrm, fr', s') => ih fr' s'
    | r => r) n
theorem loopF_succ (b : Tr AV → St → Option (Ex × Tr AV × St)) (n : Nat) (fr : Tr AV) (s : St) : loopF b (n + 1) fr s = match b fr s with
    | some (.nrm, fr', s') => loopF b n fr' s'
    | r => r := rfl
noncomputable def seqF (f g : CodeF) : CodeF := fun c n lo fr s => match f c n lo fr s with
  | some (.nrm, fr', s') => g c n lo fr' s'
  | r => r
noncomputable def condF (r : Ready) (f g : CodeF) : CodeF := fun c n lo fr s => useF r fr fun v => match v with
  | .bool t => bif t then f c n lo fr s else g c n lo fr s
  | _ => none
noncomputable def blockF (id : Nat) (f : CodeF) : CodeF := fun c n lo fr s => match f c n lo fr s with
  | some (.exit k, fr', s') => bif k == id then some (.nrm, fr', s') else some (.exit k, fr', s')
  | r => r
noncomputable def opsF (k : OpsF) : CodeF := fun c _ lo fr s => match k c lo fr s with
  | some (fr', s') => some (.nrm, fr', s')
  | none => none
noncomputable def cCode (P : Program) (nt : Nat) : Code → Box CodeF
  | .skip => .mk fun _ _ _ fr s => some (.nrm, fr, s)
  | .label _ => .mk fun _ _ _ fr s => some (.nrm, fr, s)
  | .region _ ops draw => bif draw then (bif P.follows .mixedOrders then cOpen P nt ops else .mk fun _ _ _ _ _ => none) else match cOps P nt ops ops.toList with
    | .mk k => .mk (opsF k)
  | .seq a b => match cCode P nt a with
    | .mk f => match cCode P nt b with
      | .mk g => .mk (seqF f g)
  | .cond x a b => match cCode P nt a with
    | .mk f => match cCode P nt b with
      | .mk g => .mk (condF (ready P x) f g)
  | .block id a => match cCode P nt a with
    | .mk f => .mk (blockF id f)
  | .loop a => match cCode P nt a with
    | .mk f => .mk fun c n lo fr s => loopF (f c n lo) n fr s
  | .exit id => .mk fun _ _ _ fr s => some (.exit id, fr, s)
  | .scope a => cCode P nt a
  | .ret => .mk fun _ _ _ fr s => some (.ret, fr, s)
  | _ => .mk fun _ _ _ _ _ => none
def FCallOk (P : Program) (c : CallF) : Prop :=
  ∀ lo f args s v s', c lo f args s = some (v, s') → ∀ (β : Beta) (w : World) (vs : Array Value), Sit β s w → Globs P β → Reps β args vs.toList →
    Calls P f vs w fun e w' => ∃ u β', e = .returned u ∧ Ext lo β s w β' s' w' ∧ Rep β' v u
theorem FCallOk.lift {P : Program} {c : CallF} (h : FCallOk P c) : CallOk P (lift c) := by
  intro lo f args s v s' e
  simp only [Ev.lift] at e
  split at e
  · rename_i v1 s1 hc
    cases e
    exact h lo f args s v s' hc
  · cases e
theorem cCode_ok {P : Program} {nt : Nat} {c : CallF} (hc : FCallOk P c) (n lo : Nat) : ∀ (code : Code) (fr : Tr AV) (s : St) (e : Ex) (fr' : Tr AV) (s' : St), (cCode P nt code).run c n lo fr s = some (e, fr', s') → ∀ (β : Beta) (w : World) (a : Act), Sit β s w → Globs P β → FRep β nt fr a →
    ∀ Q : Exit → Act → World → Prop, (∀ a' w' β', Ext lo β s w β' s' w' → FRep β' nt fr' a' → Q (exOf e) a' w') → code.wp P Q a w := by
  intro code
  induction code with
  | skip => intro fr s e fr' s' h β w a hs hg hf Q hQ; cases h; exact wp_skip (hQ a w β (Ext.refl hs) hf)
  | label l => intro fr s e fr' s' h β w a hs hg hf Q hQ; cases h; exact wp_label (hQ a w β (Ext.refl hs) hf)
  | exit k => intro fr s e fr' s' h β w a hs hg hf Q hQ; cases h; exact wp_exit (hQ a w β (Ext.refl hs) hf)
  | ret => intro fr s e fr' s' h β w a hs hg hf Q hQ; cases h; exact wp_ret (hQ a w β (Ext.refl hs) hf)
  | rangeFunc _ _ _ _ _ _ => intro fr s e fr' s' h; cases h
  | goto _ => intro fr s e fr' s' h; cases h
  | refuse _ => intro fr s e fr' s' h; cases h
  | region id ops draw =>
    intro fr s e fr' s' h β w a hs hg hf Q hQ
    cases draw with
    | true =>
      simp only [cCode, cond_true] at h
      cases hm : P.follows .mixedOrders with
      | false => rw [hm] at h; cases h
      | true =>
        rw [hm] at h
        simp only [cond_true] at h
        refine draw_ok (e := e) (fr' := fr') (s' := s') hc.lift hm ?_ hs hg hf hQ
        rw [cOpen_eq P nt lo n c ops fr s, h]
    | false =>
      simp only [cCode, cond_false] at h
      cases hk : cOps P nt ops ops.toList with
      | mk k =>
      rw [hk] at h
      simp only [Box.run, opsF] at h
      split at h
      case h_2 => cases h
      case h_1 fr1 s1 hr =>
      cases h
      refine region_ok hc.lift (e := .nrm) ?_ hs hg hf hQ
      rw [cOps_eq, run_mk hk, hr]
  | seq x y ihx ihy =>
    intro fr s e fr' s' h β w a hs hg hf Q hQ
    simp only [cCode] at h
    cases hx : cCode P nt x with
    | mk f =>
    cases hy : cCode P nt y with
    | mk g =>
    rw [hx, hy] at h
    simp only [Box.run, seqF] at h
    rw [hx] at ihx
    rw [hy] at ihy
    refine wp_seq ?_
    split at h
    case h_1 fr1 s1 h1 =>
      refine ihx fr s _ fr1 s1 h1 β w a hs hg hf _ ?_
      intro a1 w1 β1 hx1 hf1
      have hle := hx1.beta hs
      refine ihy fr1 s1 e fr' s' h β1 w1 a1 hx1.sit (hg.mono hle) hf1 Q ?_
      intro a2 w2 β2 hx2 hf2
      exact hQ a2 w2 β2 (hx1.trans hs hx2) hf2
    case h_2 hne =>
      refine ihx fr s e fr' s' h β w a hs hg hf _ ?_
      intro a1 w1 β1 hx1 hf1
      have := hQ a1 w1 β1 hx1 hf1
      cases e with
      | nrm => exact absurd h (hne _ _)
      | exit k => exact this
      | ret => exact this
  | cond x thn els iht ihe =>
    intro fr s e fr' s' h β w a hs hg hf Q hQ
    simp only [cCode] at h
    cases hx : cCode P nt thn with
    | mk f =>
    cases hy : cCode P nt els with
    | mk g =>
    rw [hx, hy] at h
    simp only [Box.run, condF, useF_eq] at h
    rw [hx] at iht
    rw [hy] at ihe
    split at h
    case h_2 => cases h
    case h_1 v hv =>
    split at h
    case h_2 => cases h
    case h_1 t =>
    refine wp_cond (opnd_ok hf hg hv) ?_
    cases t with
    | true => exact iht fr s e fr' s' h β w a hs hg hf Q hQ
    | false => exact ihe fr s e fr' s' h β w a hs hg hf Q hQ
  | block id x ihx =>
    intro fr s e fr' s' h β w a hs hg hf Q hQ
    simp only [cCode] at h
    cases hx : cCode P nt x with
    | mk f =>
    rw [hx] at h ihx
    simp only [Box.run, blockF] at h
    refine wp_block ?_
    split at h
    case h_1 k fr1 s1 h1 =>
      refine ihx fr s _ fr1 s1 h1 β w a hs hg hf _ ?_
      intro a1 w1 β1 hx1 hf1
      cases hk : (k == id) with
      | true =>
        rw [hk] at h
        cases h
        have := eq_of_beq hk
        simp only [exOf, Exit.inBlock, this, if_true]
        exact hQ a1 w1 β1 hx1 hf1
      | false =>
        rw [hk] at h
        cases h
        have : ¬ k = id := by simpa using hk
        simp only [exOf, Exit.inBlock, this, if_false]
        exact hQ a1 w1 β1 hx1 hf1
    case h_2 hne =>
      refine ihx fr s e fr' s' h β w a hs hg hf _ ?_
      intro a1 w1 β1 hx1 hf1
      have := hQ a1 w1 β1 hx1 hf1
      cases e with
      | nrm => exact this
      | exit k => exact absurd h (hne _ _ _)
      | ret => exact this
  | loop x ihx =>
    intro fr s e fr' s' h β w a hs hg hf Q hQ
    simp only [cCode] at h
    cases hx : cCode P nt x with
    | mk f =>
    rw [hx] at h ihx
    simp only [Box.run] at h
    have key : ∀ (m : Nat) (fr : Tr AV) (s : St) (β : Beta) (w : World) (a : Act), loopF (f c n lo) m fr s = some (e, fr', s') → Sit β s w → Globs P β → FRep β nt fr a → (∀ a' w' β', Ext lo β s w β' s' w' → FRep β' nt fr' a' → Q (exOf e) a' w') → Code.rounds P x Q m a w := by
      intro m
      induction m with
      | zero => intro fr s β w a h; cases h
      | succ m ihm =>
        intro fr s β w a h hs hg hf hQ
        rw [loopF_succ] at h
        rw [rounds_succ]
        split at h
        case h_1 fr1 s1 h1 =>
          refine ihx fr s _ fr1 s1 h1 β w a hs hg hf _ ?_
          intro a1 w1 β1 hx1 hf1
          have hle := hx1.beta hs
          refine ihm fr1 s1 β1 w1 a1 h hx1.sit (hg.mono hle) hf1 ?_
          intro a2 w2 β2 hx2 hf2
          exact hQ a2 w2 β2 (hx1.trans hs hx2) hf2
        case h_2 hne =>
          refine ihx fr s e fr' s' h β w a hs hg hf _ ?_
          intro a1 w1 β1 hx1 hf1
          have := hQ a1 w1 β1 hx1 hf1
          cases e with
          | nrm => exact absurd h (hne _ _)
          | exit k => exact this
          | ret => exact this
    exact wp_loop_rounds n (key n fr s β w a h hs hg hf hQ)
  | scope x ihx =>
    intro fr s e fr' s' h β w a hs hg hf Q hQ
    simp only [cCode] at h
    refine wp_scope_straight ?_
    refine ihx fr s e fr' s' h β w a hs hg hf _ ?_
    intro a1 w1 β1 hx1 hf1
    have := hQ a1 w1 β1 hx1 hf1
    cases e <;> exact this
/-! Calls. -/
noncomputable def funF (P : Program) (nt : Nat) (rs : List ResultVar) (g : CodeF) (c : CallF) (n lo : Nat) (args : List AV) (s : St) : Option (AV × St) :=
  bif !Nat.ble args.length nt then none else
  match g c n lo (startFr args) s with
  | some (e, fr', s') => bif exNrm e then
      match ress P s' fr' rs with
      | some l => some (oneOf l, s')
      | none => none
    else none
  | none => none
noncomputable def cFun (P : Program) (f : FuncId) : Option (Box (CallF → Nat → Nat → List AV → St → Option (AV × St))) :=
  match P.funcs[f]? with
  | some fn => match fn.body with
    | some body => match cCode P fn.ntmps body with
      | .mk g => some (.mk (funF P fn.ntmps fn.results.toList g))
    | none => none
  | none => none
noncomputable def runF (P : Program) (loops : Nat) (n : Nat) : CallF :=
  Nat.rec (motive := fun _ => CallF) (fun _ _ _ _ => none) (fun _ ih lo f args s => match cFun P f with
    | some (.mk g) => g ih loops lo args s
    | none => none) n
theorem runF_ok (P : Program) (loops : Nat) : ∀ n, FCallOk P (runF P loops n)
  | 0 => fun _ _ _ _ _ _ h => by cases h
  | n + 1 => by
    intro lo f args s v s' h β w vs hs hg ha
    have hih := runF_ok P loops n
    have h' : (match cFun P f with
      | some (.mk g) => g (runF P loops n) loops lo args s
      | none => none) = some (v, s') := h
    unfold cFun at h'
    cases hfn : P.funcs[f]? with
    | none => rw [hfn] at h'; cases h'
    | some fn =>
    rw [hfn] at h'
    simp only at h'
    cases hb : fn.body with
    | none => rw [hb] at h'; cases h'
    | some body =>
    rw [hb] at h'
    simp only at h'
    cases hcode : cCode P fn.ntmps body with
    | mk g =>
    rw [hcode] at h'
    simp only [funF] at h'
    cases hn : (!Nat.ble args.length fn.ntmps) with
    | true => rw [hn] at h'; cases h'
    | false =>
    rw [hn] at h'
    simp only [cond_false] at h'
    have hn' : args.length ≤ fn.ntmps := by simpa [Nat.ble_eq] using hn
    split at h'
    case h_2 => cases h'
    case h_1 e fr' s1 hrun =>
    cases he : exNrm e with
    | false => rw [he] at h'; cases h'
    | true =>
    rw [he] at h'
    simp only [cond_true] at h'
    split at h'
    case h_2 => cases h'
    case h_1 as has =>
    cases h'
    refine calls_of_wp hfn hb (cCode_ok hih loops lo body (startFr args) s e fr' s' (by rw [hcode]; exact hrun) β w _ hs hg (start_ok ha hn') _ ?_)
    intro a' w' β' hx hf'
    obtain ⟨u, h1, h2⟩ := results_ok hx.sit hf' has
    have fin : a'.defers = [] ∧ ∃ v, (results fn a'.tmps).run P w' = .ok v w' ∧ ∃ u β', Ending.returned v = .returned u ∧ Ext lo β s w β' s' w' ∧ Rep β' (oneOf as) u := ⟨hf'.defers, u, h1, u, β', rfl, hx, h2⟩
    cases e with
    | nrm => exact fin
    | ret => exact fin
    | exit k => cases he
def trueF : Option (AV × St) → Bool
  | some (.bool b, _) => b
  | _ => false
theorem closed_fast {P : Program} {W : World} (hsh : W.ShapedOpen P) {tabs : List (Nat × List Int)} (ht : ∀ x ∈ tabs, HoldsAt W x.1 x.2 ∧ x.1 < P.globals.size) {m n : Nat} {f : FuncId} (h : trueF (runF P m n P.globals.size f [] ⟨heapOf tabs, P.globals.size⟩) = true) :
    Calls P f #[] W fun e w' => e = .returned (.bool true) ∧ Below W.heap.size W w' := by
  obtain ⟨hs, hg⟩ := sit_start hsh ht
  unfold trueF at h
  split at h
  case h_2 => cases h
  case h_1 b s' he =>
  subst h
  refine (runF_ok P m n _ f [] _ _ s' he _ W #[] hs hg rfl).mono ?_
  rintro e w' ⟨u, β', rfl, hx, hr⟩
  refine ⟨by rw [show u = .bool true from hr], hx.os, hx.tape, hx.output, hx.size, fun k hk => hx.keep k hk ?_⟩
  intro i p hi hl hp
  obtain ⟨c, hc⟩ := hl
  obtain ⟨q, hq, _⟩ := hs.blk i c hc
  have := (hs.low i q hq).1
  simp only at this
  omega
#print axioms closed_fast
end Ev
end Go.Proofs.Ytnelncafocgfhaa
