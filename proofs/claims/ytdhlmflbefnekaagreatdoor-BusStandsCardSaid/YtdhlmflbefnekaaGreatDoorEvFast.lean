/- The runner, made ready: each operation becomes a function once, of the frame and the memory alone. It answers what the runner answers. -/
import Derived.Test.YtdhlmflbefnekaaGreatDoorEvCode
namespace Go.Proofs.YtdhlmflbefnekaaGreatDoor
open Go.RowKit
namespace Ev
inductive Box (α : Type) where
  | mk (f : α)
def Box.run {α : Type} : Box α → α
  | .mk f => f
/-- Calls of Go functions, as the operations want them. -/
abbrev CallF := Nat → FuncId → List AV → St → Option (AV × St)
def lift (c : CallF) (lo : Nat) : Job → Option Out
  | .call f args s => match c lo f args s with
    | some (v, s') => some (.call v s')
    | none => none
  | _ => none
abbrev OpF := CallF → Nat → Tr AV → St → Option (AV × St)
/-! Tries, by their recursors. -/
noncomputable def getF {α : Type} (k : Pth) : Tr α → Option α :=
  Pth.rec (motive := fun _ => Tr α → Option α) (fun t => Tr.rec (motive := fun _ => Option α) none (fun _ v _ _ _ => v) t) (fun _ ih t => Tr.rec (motive := fun _ => Option α) none (fun l _ _ _ _ => ih l) t) (fun _ ih t => Tr.rec (motive := fun _ => Option α) none (fun _ _ r _ _ => ih r) t) k
noncomputable def setF {α : Type} (x : Option α) (k : Pth) : Tr α → Tr α :=
  Pth.rec (motive := fun _ => Tr α → Tr α) (fun t => Tr.rec (motive := fun _ => Tr α) (.nd .lf x .lf) (fun l _ r _ _ => .nd l x r) t)
    (fun _ ih t => Tr.rec (motive := fun _ => Tr α) (.nd (ih .lf) none .lf) (fun l v r _ _ => .nd (ih l) v r) t)
    (fun _ ih t => Tr.rec (motive := fun _ => Tr α) (.nd .lf none (ih .lf)) (fun l v r _ _ => .nd l v (ih r)) t) k
theorem getF_eq {α : Type} (k : Pth) : ∀ t : Tr α, getF k t = Tr.get k t := by
  induction k with
  | h => intro t; cases t <;> rfl
  | o p ih => intro t; cases t with
    | lf => rfl
    | nd l v r => exact ih l
  | i p ih => intro t; cases t with
    | lf => rfl
    | nd l v r => exact ih r
theorem setF_eq {α : Type} (x : Option α) (k : Pth) : ∀ t : Tr α, setF x k t = Tr.set x k t := by
  induction k with
  | h => intro t; cases t <;> rfl
  | o p ih => intro t; cases t with
    | lf => exact congrArg (fun z => Tr.nd z none Tr.lf) (ih .lf)
    | nd l v r => exact congrArg (fun z => Tr.nd z v r) (ih l)
  | i p ih => intro t; cases t with
    | lf => exact congrArg (fun z => Tr.nd Tr.lf none z) (ih .lf)
    | nd l v r => exact congrArg (fun z => Tr.nd l v z) (ih r)
/-! Operands. -/
noncomputable def slotF (o : Option AV) : AV := Option.rec (motive := fun _ => AV) (.tup []) (fun v => v) o
theorem slotF_eq (o : Option AV) : slotF o = slotV o := by cases o <;> rfl
/-- an operand that is ready: a slot, or a value. -/
inductive Ready where
  | slot (p : Pth)
  | val (v : AV)
  | bad
def ready (P : Program) : Operand → Ready
  | .tmp t => .slot (path t)
  | x => match opnd P .lf x with
    | some v => .val v
    | none => .bad
noncomputable def useF {α : Type} (r : Ready) (fr : Tr AV) (k : AV → Option α) : Option α :=
  Ready.rec (motive := fun _ => Option α) (fun p => k (slotF (getF p fr))) (fun v => k v) none r
theorem useF_eq {α : Type} (P : Program) (x : Operand) (fr : Tr AV) (k : AV → Option α) : useF (ready P x) fr k = match opnd P fr x with | some v => k v | none => none := by
  cases x with
  | tmp t => simp only [ready, useF, opnd, getF_eq, slotF_eq]
  | const v =>
    simp only [ready, opnd]
    cases ofV v <;> rfl
  | global g =>
    simp only [ready, opnd]
    cases Nat.blt g P.globals.size <;> rfl
  | func f => rfl
/-! Whole numbers that stay small. -/
def fastInt (op : BinOp) (m n : Nat) : Option AV :=
  match op with
  | .add => bif Nat.blt (Nat.add m n) 9223372036854775808 then some (.int .i64 (.ofNat (Nat.add m n))) else none
  | .sub => bif Nat.ble n m && Nat.blt m 9223372036854775808 then some (.int .i64 (.ofNat (Nat.sub m n))) else none
  | .eql => some (.bool (Nat.beq m n))
  | .neq => some (.bool (!Nat.beq m n))
  | .lss => some (.bool (Nat.blt m n))
  | .leq => some (.bool (Nat.ble m n))
  | .gtr => some (.bool (Nat.blt n m))
  | .geq => some (.bool (Nat.ble n m))
  | _ => none
theorem fastInt_ok {op : BinOp} {m n : Nat} {v : AV} (h : fastInt op m n = some v) : binInt op .i64 (.ofNat m) (.ofNat n) = some v ∧ op ≠ .shl ∧ op ≠ .shr := by
  cases op <;> simp only [fastInt, reduceCtorEq] at h
  case add =>
    rw [Bool.cond_eq_ite] at h
    split at h
    case isFalse => cases h
    case isTrue c =>
    cases h
    refine ⟨?_, by simp, by simp⟩
    simp only [binInt]
    have e : (Int.ofNat m + Int.ofNat n) = Int.ofNat (Nat.add m n) := rfl
    rw [e]
    simp only [wrapK, c, cond_true]
  case sub =>
    rw [Bool.cond_eq_ite] at h
    split at h
    case isFalse => cases h
    case isTrue c =>
    cases h
    refine ⟨?_, by simp, by simp⟩
    simp only [Bool.and_eq_true, Nat.ble_eq] at c
    have c2 : m + 1 ≤ 9223372036854775808 := by simpa [Nat.blt, Nat.ble_eq] using c.2
    have e : (Int.ofNat m - Int.ofNat n) = Int.ofNat (Nat.sub m n) := by
      show (m : Int) - (n : Int) = ((m - n : Nat) : Int)
      omega
    simp only [binInt]
    rw [e]
    have c3 : Nat.blt (Nat.sub m n) 9223372036854775808 = true := blt_of (by show m - n < _; omega)
    simp only [wrapK, c3, cond_true]
  all_goals
    cases h
    refine ⟨?_, by simp, by simp⟩
    simp only [binInt]
    have hb : Nat.beq m n = decide (m = n) := by rw [Bool.eq_iff_iff]; simp [Nat.beq_eq]
    congr 2
    rw [Bool.eq_iff_iff]
    simp [Nat.blt, Nat.ble_eq, hb]
    try omega
def binF (P : Program) (op : BinOp) (t : TypeId) : AV → AV → Option AV
  | .int .i64 (.ofNat m), .int .i64 (.ofNat n) => match fastInt op m n with
    | some v => some v
    | none => binAV P op t (.int .i64 (.ofNat m)) (.int .i64 (.ofNat n))
  | a, b => binAV P op t a b
theorem binF_eq (P : Program) (op : BinOp) (t : TypeId) (a b : AV) : binF P op t a b = binAV P op t a b := by
  unfold binF
  split
  · rename_i m n
    split
    · rename_i v h
      obtain ⟨h1, h2, h3⟩ := fastInt_ok h
      unfold binAV
      simp only
      cases op <;> first | exact absurd rfl h2 | exact absurd rfl h3 | exact h1.symm
    · rfl
  · rfl
/-! Operations. -/
noncomputable def loadF (i : TI) (r : Ready) : OpF := fun _ _ fr s => useF r fr fun v => match v with
  | .ptr b off => match loadAt s i b off with
    | some v => some (v, s)
    | none => none
  | _ => none
noncomputable def moveF (r : Ready) : OpF := fun _ _ fr s => useF r fr fun v => some (v, s)
noncomputable def nilF (r : Ready) : OpF := fun _ _ fr s => useF r fr fun v => match v with
  | .ptr b off => some (.ptr b off, s)
  | .fn f cap => some (.fn f cap, s)
  | .slc b o l c => some (.slc b o l c, s)
  | .map b => some (.map b, s)
  | _ => none
noncomputable def binOpF (P : Program) (op : BinOp) (t : TypeId) (x y : Ready) : OpF := fun _ _ fr s => useF x fr fun a => useF y fr fun b => match binF P op t a b with
  | some v => some (v, s)
  | none => none
noncomputable def fieldAddrF (off' : Nat) (r : Ready) : OpF := fun _ _ fr s => useF r fr fun v => match v with
  | .ptr b off => some (.ptr b (off + off'), s)
  | _ => none
noncomputable def storeF (i : TI) (a x : Ready) : OpF := fun _ lo fr s => useF a fr fun u => match u with
  | .ptr b off => useF x fr fun v => bif v.cells.length == i.size then
      match storeAt s lo b off v.cells with
      | some s' => some (.tup [], s')
      | none => none
    else none
  | _ => none
noncomputable def extractF (k : Nat) (r : Ready) : OpF := fun _ _ fr s => useF r fr fun v => match v with
  | .tup l => match l[k]? with
    | some v => some (v, s)
    | none => none
  | _ => none
def readys (P : Program) : List Operand → List Ready
  | [] => []
  | x :: l => ready P x :: readys P l
noncomputable def usesF (l : List Ready) (fr : Tr AV) : Option (List AV) :=
  List.rec (motive := fun _ => Option (List AV)) (some []) (fun r _ ih => useF r fr fun v => Option.rec (motive := fun _ => Option (List AV)) none (fun vs => some (v :: vs)) ih) l
theorem usesF_eq (P : Program) (fr : Tr AV) : ∀ l : List Operand, usesF (readys P l) fr = opnds P fr l
  | [] => rfl
  | x :: l => by
    show useF (ready P x) fr (fun v => Option.rec none (fun vs => some (v :: vs)) (usesF (readys P l) fr)) = _
    rw [useF_eq, usesF_eq P fr l, opnds]
    cases opnd P fr x with
    | none => rfl
    | some v => cases opnds P fr l <;> rfl
noncomputable def callF (f : FuncId) (args : List Ready) : OpF := fun c lo fr s => Option.rec (motive := fun _ => Option (AV × St)) none (fun vs => c lo f vs s) (usesF args fr)
/-- what the runner does, as it stands. -/
def anyF (P : Program) (o : Oper) : OpF := fun c lo fr s => evOper P lo (lift c) fr s o
noncomputable def cCall (P : Program) (o : Oper) (c : Call) : Box OpF :=
  match c.callee with
  | .value (.func f) => match P.funcs[f]? with
    | some fn => match fn.body with
      | some _ => bif fn.name == "runtime.NumGoroutine" then .mk (anyF P o) else .mk (callF f (readys P c.args.toList))
      | none => .mk (anyF P o)
    | none => .mk (anyF P o)
  | _ => .mk (anyF P o)
noncomputable def cOper (P : Program) (o : Oper) : Box OpF :=
  match o.op with
  | .move x => .mk (moveF (ready P x))
  | .assign x => .mk (moveF (ready P x))
  | .load t a => match ti P t with
    | some i => .mk (loadF i (ready P a))
    | none => .mk (anyF P o)
  | .store t a x => match ti P t with
    | some i => .mk (storeF i (ready P a) (ready P x))
    | none => .mk (anyF P o)
  | .nilCheck x => .mk (nilF (ready P x))
  | .binOp op t x y _ => .mk (binOpF P op t (ready P x) (ready P y))
  | .extract x k => .mk (extractF k (ready P x))
  | .fieldAddr st x f => match ti P st with
    | some i => match i.d with
      | .struct fs => match fs[f]? with
        | some fd => match ti P fd.type with
          | some j => bif j.size == 0 then .mk (anyF P o) else .mk (fieldAddrF fd.offset (ready P x))
          | none => .mk (anyF P o)
        | none => .mk (anyF P o)
      | _ => .mk (anyF P o)
    | none => .mk (anyF P o)
  | .call c => cCall P o c
  | _ => .mk (anyF P o)
theorem opt_rec {α β : Type} (x : Option α) (f : α → Option β) : Option.rec (motive := fun _ => Option β) none (fun a => f a) x = match x with | some a => f a | none => none := by cases x <;> rfl
theorem cOper_eq (P : Program) (o : Oper) (c : CallF) (lo : Nat) (fr : Tr AV) (s : St) : (cOper P o).run c lo fr s = evOper P lo (lift c) fr s o := by
  obtain ⟨dst, op, ty, pos, after, guard⟩ := o
  cases op <;> try rfl
  case move x =>
    simp only [cOper, Box.run, moveF, useF_eq, evOper, evOp, evMove]
    cases opnd P fr x <;> rfl
  case assign x =>
    simp only [cOper, Box.run, moveF, useF_eq, evOper, evOp, evAssign]
    cases opnd P fr x <;> rfl
  case load t a =>
    simp only [cOper]
    split
    · rename_i i hi
      simp only [Box.run, loadF, useF_eq, evOper, evOp, evLoad, hi]
      cases h : opnd P fr a with
      | none => rfl
      | some v => cases v <;> rfl
    · rfl
  case store t a x =>
    simp only [cOper]
    split
    · rename_i i hi
      simp only [Box.run, storeF, useF_eq, evOper, evOp, evStore, hi]
      cases h : opnd P fr a with
      | none => rfl
      | some v => cases v <;> first | rfl | (simp only; cases opnd P fr x <;> rfl)
    · rfl
  case nilCheck x =>
    simp only [cOper, Box.run, nilF, useF_eq, evOper, evOp, evNilCheck]
    cases h : opnd P fr x with
    | none => rfl
    | some v => cases v <;> rfl
  case binOp op t x y yt =>
    simp only [cOper, Box.run, binOpF, useF_eq, binF_eq, evOper, evOp, evBinOp]
    cases h : opnd P fr x with
    | none => rfl
    | some v => cases opnd P fr y <;> rfl
  case extract x k =>
    simp only [cOper, Box.run, extractF, useF_eq, evOper, evOp, evExtract]
    cases h : opnd P fr x with
    | none => rfl
    | some v => cases v <;> rfl
  case fieldAddr st x f =>
    simp only [cOper]
    split
    · rename_i i hi
      split
      · rename_i fs hd
        split
        · rename_i fd hf
          split
          · rename_i j hj
            cases hz : (j.size == 0) with
            | true => rfl
            | false =>
              simp only [cond_false, Box.run, fieldAddrF, useF_eq, evOper, evOp, evFieldAddr, hi, hd, hf, hj, hz]
              cases h : opnd P fr x with
              | none => rfl
              | some v => cases v <;> rfl
          · rfl
        · rfl
      · rfl
    · rfl
  case call cl =>
    simp only [cOper, cCall]
    split
    · rename_i f hcal
      split
      · rename_i fn hfn
        split
        · rename_i body hb
          cases hn : (fn.name == "runtime.NumGoroutine") with
          | true => rfl
          | false =>
            simp only [cond_false, Box.run, callF, usesF_eq, opt_rec, evOper, hcal, callee, opnd]
            cases h : opnds P fr cl.args.toList with
            | none => rfl
            | some l =>
              simp only [List.append_nil, hfn, hb, hn, cond_false, lift]
              cases c lo f l s with
              | none => rfl
              | some r => rfl
        · rfl
      · rfl
    · rfl
/-! Regions. -/
noncomputable def cPut (nt : Nat) : Option Tmp → Box (Tr AV → AV → Option (Tr AV))
  | none => .mk fun fr _ => some fr
  | some d => bif Nat.blt d nt then .mk (fun fr v => some (setF (some v) (path d) fr)) else .mk (fun _ _ => none)
theorem cPut_eq (nt : Nat) (dst : Option Tmp) (fr : Tr AV) (v : AV) : (cPut nt dst).run fr v = put nt fr dst v := by
  cases dst with
  | none => rfl
  | some d =>
    simp only [cPut, put]
    cases Nat.blt d nt with
    | true => simp only [cond_true, Box.run, setF_eq]
    | false => rfl
abbrev OpsF := CallF → Nat → Tr AV → St → Option (Tr AV × St)
noncomputable def stepF (g : OpF) (p : Tr AV → AV → Option (Tr AV)) (k : OpsF) : OpsF := fun c lo fr s =>
  Option.rec (motive := fun _ => Option (Tr AV × St)) none (fun r => Prod.rec (motive := fun _ => Option (Tr AV × St)) (fun v s' => Option.rec (motive := fun _ => Option (Tr AV × St)) none (fun fr' => k c lo fr' s') (p fr v)) r) (g c lo fr s)
noncomputable def guardF (ops : Array Oper) (o : Oper) (p : Tr AV → AV → Option (Tr AV)) (yes no : OpsF) : OpsF := fun c lo fr s => match wantedOp fr ops o with
  | some true => yes c lo fr s
  | some false => match p fr (.tup []) with
    | some fr' => no c lo fr' s
    | none => none
  | none => none
noncomputable def cOps (P : Program) (nt : Nat) (ops : Array Oper) : List Oper → Box OpsF
  | [] => .mk fun _ _ fr s => some (fr, s)
  | o :: l => match cOper P o with
    | .mk g => match cPut nt o.dst with
      | .mk p => match cOps P nt ops l with
        | .mk k => match o.guard with
          | none => .mk (stepF g p k)
          | some _ => .mk (guardF ops o p (stepF g p k) k)
theorem run_mk {α : Type} {b : Box α} {f : α} (h : b = .mk f) : b.run = f := by rw [h]; rfl
theorem cOps_eq (P : Program) (nt lo : Nat) (c : CallF) (ops : Array Oper) : ∀ (l : List Oper) (fr : Tr AV) (s : St), evOps P lo nt (lift c) ops l fr s = match (cOps P nt ops l).run c lo fr s with | some (fr', s') => some (.code .nrm fr' s') | none => none
  | [], fr, s => rfl
  | o :: l, fr, s => by
    have ih := cOps_eq P nt lo c ops l
    simp only [evOps, cOps]
    cases hg : cOper P o with
    | mk g =>
    have eg := cOper_eq P o c lo
    rw [run_mk hg] at eg
    cases hp : cPut nt o.dst with
    | mk p =>
    have ep := cPut_eq nt o.dst
    rw [run_mk hp] at ep
    cases hk : cOps P nt ops l with
    | mk k =>
    rw [run_mk hk] at ih
    have step : ∀ fr s, (match stepF g p k c lo fr s with | some (fr', s') => some (Out.code .nrm fr' s') | none => none) = (match evOper P lo (lift c) fr s o with
        | some (v, s') => match put nt fr o.dst v with
          | some fr' => evOps P lo nt (lift c) ops l fr' s'
          | none => none
        | none => none) := by
      intro fr s
      simp only [stepF, eg]
      cases evOper P lo (lift c) fr s o with
      | none => rfl
      | some r =>
        obtain ⟨v, s'⟩ := r
        simp only [ep]
        cases put nt fr o.dst v with
        | none => rfl
        | some fr' => exact (ih fr' s').symm
    cases hgd : o.guard with
    | none =>
      simp only [Box.run]
      rw [step]
      simp only [wantedOp, hgd]
      rfl
    | some jw =>
      simp only [Box.run, guardF]
      cases hw : wantedOp fr ops o with
      | none => rfl
      | some b =>
        cases b with
        | true => exact (step fr s).symm
        | false =>
          simp only [ep]
          cases put nt fr o.dst (.tup []) with
          | none => rfl
          | some fr' => exact ih fr' s
/-! Code. -/
abbrev CodeF := CallF → Nat → Nat → Tr AV → St → Option (Ex × Tr AV × St)
noncomputable def loopF (b : Tr AV → St → Option (Ex × Tr AV × St)) (n : Nat) : Tr AV → St → Option (Ex × Tr AV × St) :=
  Nat.rec (motive := fun _ => Tr AV → St → Option (Ex × Tr AV × St)) (fun _ _ => none) (fun _ ih fr s => match b fr s with
    | some (.nrm, fr', s') => ih fr' s'
    | r => r) n
theorem loopF_succ (b : Tr AV → St → Option (Ex × Tr AV × St)) (n : Nat) (fr : Tr AV) (s : St) : loopF b (n + 1) fr s = match b fr s with
    | some (.nrm, fr', s') => loopF b n fr' s'
    | r => r := rfl
noncomputable def seqF (f g : CodeF) : CodeF := fun c n lo fr s => match f c n lo fr s with
  | some (.nrm, fr', s') => g c n lo fr' s'
  | r => r
noncomputable def condF (r : Ready) (f g : CodeF) : CodeF := fun c n lo fr s => useF r fr fun v => match v with
  | .bool t => bif t then f c n lo fr s else g c n lo fr s
  | _ => none
noncomputable def blockF (id : Nat) (f : CodeF) : CodeF := fun c n lo fr s => match f c n lo fr s with
  | some (.exit k, fr', s') => bif k == id then some (.nrm, fr', s') else some (.exit k, fr', s')
  | r => r
noncomputable def opsF (k : OpsF) : CodeF := fun c _ lo fr s => match k c lo fr s with
  | some (fr', s') => some (.nrm, fr', s')
  | none => none
noncomputable def drawF (P : Program) (nt : Nat) (ops : Array Oper) : CodeF := fun c _ lo fr s => match evOpen P lo nt (lift c) ops fr s with
  | some (.code e fr' s') => some (e, fr', s')
  | _ => none
noncomputable def cCode (P : Program) (nt : Nat) : Code → Box CodeF
  | .skip => .mk fun _ _ _ fr s => some (.nrm, fr, s)
  | .label _ => .mk fun _ _ _ fr s => some (.nrm, fr, s)
  | .region _ ops draw => bif draw then (bif P.follows .mixedOrders then .mk (drawF P nt ops) else .mk fun _ _ _ _ _ => none) else match cOps P nt ops ops.toList with
    | .mk k => .mk (opsF k)
  | .seq a b => match cCode P nt a with
    | .mk f => match cCode P nt b with
      | .mk g => .mk (seqF f g)
  | .cond x a b => match cCode P nt a with
    | .mk f => match cCode P nt b with
      | .mk g => .mk (condF (ready P x) f g)
  | .block id a => match cCode P nt a with
    | .mk f => .mk (blockF id f)
  | .loop a => match cCode P nt a with
    | .mk f => .mk fun c n lo fr s => loopF (f c n lo) n fr s
  | .exit id => .mk fun _ _ _ fr s => some (.exit id, fr, s)
  | .scope a => cCode P nt a
  | .ret => .mk fun _ _ _ fr s => some (.ret, fr, s)
  | _ => .mk fun _ _ _ _ _ => none
def FCallOk (P : Program) (c : CallF) : Prop :=
  ∀ lo f args s v s', c lo f args s = some (v, s') → ∀ (β : Beta) (w : World) (vs : Array Value), Sit β s w → Globs P β → Reps β args vs.toList →
    Calls P f vs w fun e w' => ∃ u β', e = .returned u ∧ Ext lo β s w β' s' w' ∧ Rep β' v u
theorem FCallOk.lift {P : Program} {c : CallF} (h : FCallOk P c) : CallOk P (lift c) := by
  intro lo f args s v s' e
  simp only [Ev.lift] at e
  split at e
  · rename_i v1 s1 hc
    cases e
    exact h lo f args s v s' hc
  · cases e
theorem cCode_ok {P : Program} {nt : Nat} {c : CallF} (hc : FCallOk P c) (n lo : Nat) : ∀ (code : Code) (fr : Tr AV) (s : St) (e : Ex) (fr' : Tr AV) (s' : St), (cCode P nt code).run c n lo fr s = some (e, fr', s') → ∀ (β : Beta) (w : World) (a : Act), Sit β s w → Globs P β → FRep β nt fr a →
    ∀ Q : Exit → Act → World → Prop, (∀ a' w' β', Ext lo β s w β' s' w' → FRep β' nt fr' a' → Q (exOf e) a' w') → code.wp P Q a w := by
  intro code
  induction code with
  | skip => intro fr s e fr' s' h β w a hs hg hf Q hQ; cases h; exact wp_skip (hQ a w β (Ext.refl hs) hf)
  | label l => intro fr s e fr' s' h β w a hs hg hf Q hQ; cases h; exact wp_label (hQ a w β (Ext.refl hs) hf)
  | exit k => intro fr s e fr' s' h β w a hs hg hf Q hQ; cases h; exact wp_exit (hQ a w β (Ext.refl hs) hf)
  | ret => intro fr s e fr' s' h β w a hs hg hf Q hQ; cases h; exact wp_ret (hQ a w β (Ext.refl hs) hf)
  | rangeFunc _ _ _ _ _ _ => intro fr s e fr' s' h; cases h
  | goto _ => intro fr s e fr' s' h; cases h
  | refuse _ => intro fr s e fr' s' h; cases h
  | region id ops draw =>
    intro fr s e fr' s' h β w a hs hg hf Q hQ
    cases draw with
    | true =>
      simp only [cCode, cond_true] at h
      cases hm : P.follows .mixedOrders with
      | false => rw [hm] at h; cases h
      | true =>
        rw [hm] at h
        simp only [cond_true, Box.run, drawF] at h
        split at h
        case h_2 => cases h
        case h_1 e1 fr1 s1 hd =>
        cases h
        exact draw_ok hc.lift hm hd hs hg hf hQ
    | false =>
      simp only [cCode, cond_false] at h
      cases hk : cOps P nt ops ops.toList with
      | mk k =>
      rw [hk] at h
      simp only [Box.run, opsF] at h
      split at h
      case h_2 => cases h
      case h_1 fr1 s1 hr =>
      cases h
      refine region_ok hc.lift (e := .nrm) ?_ hs hg hf hQ
      rw [cOps_eq, run_mk hk, hr]
  | seq x y ihx ihy =>
    intro fr s e fr' s' h β w a hs hg hf Q hQ
    simp only [cCode] at h
    cases hx : cCode P nt x with
    | mk f =>
    cases hy : cCode P nt y with
    | mk g =>
    rw [hx, hy] at h
    simp only [Box.run, seqF] at h
    rw [hx] at ihx
    rw [hy] at ihy
    refine wp_seq ?_
    split at h
    case h_1 fr1 s1 h1 =>
      refine ihx fr s _ fr1 s1 h1 β w a hs hg hf _ ?_
      intro a1 w1 β1 hx1 hf1
      have hle := hx1.beta hs
      refine ihy fr1 s1 e fr' s' h β1 w1 a1 hx1.sit (hg.mono hle) hf1 Q ?_
      intro a2 w2 β2 hx2 hf2
      exact hQ a2 w2 β2 (hx1.trans hs hx2) hf2
    case h_2 hne =>
      refine ihx fr s e fr' s' h β w a hs hg hf _ ?_
      intro a1 w1 β1 hx1 hf1
      have := hQ a1 w1 β1 hx1 hf1
      cases e with
      | nrm => exact absurd h (hne _ _)
      | exit k => exact this
      | ret => exact this
  | cond x thn els iht ihe =>
    intro fr s e fr' s' h β w a hs hg hf Q hQ
    simp only [cCode] at h
    cases hx : cCode P nt thn with
    | mk f =>
    cases hy : cCode P nt els with
    | mk g =>
    rw [hx, hy] at h
    simp only [Box.run, condF, useF_eq] at h
    rw [hx] at iht
    rw [hy] at ihe
    split at h
    case h_2 => cases h
    case h_1 v hv =>
    split at h
    case h_2 => cases h
    case h_1 t =>
    refine wp_cond (opnd_ok hf hg hv) ?_
    cases t with
    | true => exact iht fr s e fr' s' h β w a hs hg hf Q hQ
    | false => exact ihe fr s e fr' s' h β w a hs hg hf Q hQ
  | block id x ihx =>
    intro fr s e fr' s' h β w a hs hg hf Q hQ
    simp only [cCode] at h
    cases hx : cCode P nt x with
    | mk f =>
    rw [hx] at h ihx
    simp only [Box.run, blockF] at h
    refine wp_block ?_
    split at h
    case h_1 k fr1 s1 h1 =>
      refine ihx fr s _ fr1 s1 h1 β w a hs hg hf _ ?_
      intro a1 w1 β1 hx1 hf1
      cases hk : (k == id) with
      | true =>
        rw [hk] at h
        cases h
        have := eq_of_beq hk
        simp only [exOf, Exit.inBlock, this, if_true]
        exact hQ a1 w1 β1 hx1 hf1
      | false =>
        rw [hk] at h
        cases h
        have : ¬ k = id := by simpa using hk
        simp only [exOf, Exit.inBlock, this, if_false]
        exact hQ a1 w1 β1 hx1 hf1
    case h_2 hne =>
      refine ihx fr s e fr' s' h β w a hs hg hf _ ?_
      intro a1 w1 β1 hx1 hf1
      have := hQ a1 w1 β1 hx1 hf1
      cases e with
      | nrm => exact this
      | exit k => exact absurd h (hne _ _ _)
      | ret => exact this
  | loop x ihx =>
    intro fr s e fr' s' h β w a hs hg hf Q hQ
    simp only [cCode] at h
    cases hx : cCode P nt x with
    | mk f =>
    rw [hx] at h ihx
    simp only [Box.run] at h
    have key : ∀ (m : Nat) (fr : Tr AV) (s : St) (β : Beta) (w : World) (a : Act), loopF (f c n lo) m fr s = some (e, fr', s') → Sit β s w → Globs P β → FRep β nt fr a → (∀ a' w' β', Ext lo β s w β' s' w' → FRep β' nt fr' a' → Q (exOf e) a' w') → Code.rounds P x Q m a w := by
      intro m
      induction m with
      | zero => intro fr s β w a h; cases h
      | succ m ihm =>
        intro fr s β w a h hs hg hf hQ
        rw [loopF_succ] at h
        rw [rounds_succ]
        split at h
        case h_1 fr1 s1 h1 =>
          refine ihx fr s _ fr1 s1 h1 β w a hs hg hf _ ?_
          intro a1 w1 β1 hx1 hf1
          have hle := hx1.beta hs
          refine ihm fr1 s1 β1 w1 a1 h hx1.sit (hg.mono hle) hf1 ?_
          intro a2 w2 β2 hx2 hf2
          exact hQ a2 w2 β2 (hx1.trans hs hx2) hf2
        case h_2 hne =>
          refine ihx fr s e fr' s' h β w a hs hg hf _ ?_
          intro a1 w1 β1 hx1 hf1
          have := hQ a1 w1 β1 hx1 hf1
          cases e with
          | nrm => exact absurd h (hne _ _)
          | exit k => exact this
          | ret => exact this
    exact wp_loop_rounds n (key n fr s β w a h hs hg hf hQ)
  | scope x ihx =>
    intro fr s e fr' s' h β w a hs hg hf Q hQ
    simp only [cCode] at h
    refine wp_scope_straight ?_
    refine ihx fr s e fr' s' h β w a hs hg hf _ ?_
    intro a1 w1 β1 hx1 hf1
    have := hQ a1 w1 β1 hx1 hf1
    cases e <;> exact this
/-! Calls. -/
noncomputable def funF (P : Program) (nt : Nat) (rs : List ResultVar) (g : CodeF) (c : CallF) (n lo : Nat) (args : List AV) (s : St) : Option (AV × St) :=
  bif !Nat.ble args.length nt then none else
  match g c n lo (startFr args) s with
  | some (e, fr', s') => bif exNrm e then
      match ress P s' fr' rs with
      | some l => some (oneOf l, s')
      | none => none
    else none
  | none => none
noncomputable def cFun (P : Program) (f : FuncId) : Option (Box (CallF → Nat → Nat → List AV → St → Option (AV × St))) :=
  match P.funcs[f]? with
  | some fn => match fn.body with
    | some body => match cCode P fn.ntmps body with
      | .mk g => some (.mk (funF P fn.ntmps fn.results.toList g))
    | none => none
  | none => none
noncomputable def runF (P : Program) (loops : Nat) (n : Nat) : CallF :=
  Nat.rec (motive := fun _ => CallF) (fun _ _ _ _ => none) (fun _ ih lo f args s => match cFun P f with
    | some (.mk g) => g ih loops lo args s
    | none => none) n
theorem runF_ok (P : Program) (loops : Nat) : ∀ n, FCallOk P (runF P loops n)
  | 0 => fun _ _ _ _ _ _ h => by cases h
  | n + 1 => by
    intro lo f args s v s' h β w vs hs hg ha
    have hih := runF_ok P loops n
    have h' : (match cFun P f with
      | some (.mk g) => g (runF P loops n) loops lo args s
      | none => none) = some (v, s') := h
    unfold cFun at h'
    cases hfn : P.funcs[f]? with
    | none => rw [hfn] at h'; cases h'
    | some fn =>
    rw [hfn] at h'
    simp only at h'
    cases hb : fn.body with
    | none => rw [hb] at h'; cases h'
    | some body =>
    rw [hb] at h'
    simp only at h'
    cases hcode : cCode P fn.ntmps body with
    | mk g =>
    rw [hcode] at h'
    simp only [funF] at h'
    cases hn : (!Nat.ble args.length fn.ntmps) with
    | true => rw [hn] at h'; cases h'
    | false =>
    rw [hn] at h'
    simp only [cond_false] at h'
    have hn' : args.length ≤ fn.ntmps := by simpa [Nat.ble_eq] using hn
    split at h'
    case h_2 => cases h'
    case h_1 e fr' s1 hrun =>
    cases he : exNrm e with
    | false => rw [he] at h'; cases h'
    | true =>
    rw [he] at h'
    simp only [cond_true] at h'
    split at h'
    case h_2 => cases h'
    case h_1 as has =>
    cases h'
    refine calls_of_wp hfn hb (cCode_ok hih loops lo body (startFr args) s e fr' s' (by rw [hcode]; exact hrun) β w _ hs hg (start_ok ha hn') _ ?_)
    intro a' w' β' hx hf'
    obtain ⟨u, h1, h2⟩ := results_ok hx.sit hf' has
    have fin : a'.defers = [] ∧ ∃ v, (results fn a'.tmps).run P w' = .ok v w' ∧ ∃ u β', Ending.returned v = .returned u ∧ Ext lo β s w β' s' w' ∧ Rep β' (oneOf as) u := ⟨hf'.defers, u, h1, u, β', rfl, hx, h2⟩
    cases e with
    | nrm => exact fin
    | ret => exact fin
    | exit k => cases he
def trueF : Option (AV × St) → Bool
  | some (.bool b, _) => b
  | _ => false
theorem closed_fast {P : Program} {W : World} (hsh : W.ShapedOpen P) {tabs : List (Nat × List Int)} (ht : ∀ x ∈ tabs, HoldsAt W x.1 x.2 ∧ x.1 < P.globals.size) {m n : Nat} {f : FuncId} (h : trueF (runF P m n P.globals.size f [] ⟨heapOf tabs, P.globals.size⟩) = true) :
    Calls P f #[] W fun e w' => e = .returned (.bool true) ∧ Below W.heap.size W w' := by
  obtain ⟨hs, hg⟩ := sit_start hsh ht
  unfold trueF at h
  split at h
  case h_2 => cases h
  case h_1 b s' he =>
  subst h
  refine (runF_ok P m n _ f [] _ _ s' he _ W #[] hs hg rfl).mono ?_
  rintro e w' ⟨u, β', rfl, hx, hr⟩
  refine ⟨by rw [show u = .bool true from hr], hx.os, hx.tape, hx.output, hx.size, fun k hk => hx.keep k hk ?_⟩
  intro i p hi hl hp
  obtain ⟨c, hc⟩ := hl
  obtain ⟨q, hq, _⟩ := hs.blk i c hc
  have := (hs.low i q hq).1
  simp only at this
  omega
#print axioms closed_fast
end Ev
end Go.Proofs.YtdhlmflbefnekaaGreatDoor
