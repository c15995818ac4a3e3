/- Frames, calls, code: what the runner answers is so in the model. -/
import Derived.Test.YtnelncafocgfhaaEvOp
import Derived.Orders
import Derived.Scope
import Derived.Lib.Bytealg
import Derived.KernelRfl
import Derived.LoopN
namespace Go.Proofs.Ytnelncafocgfhaa
open Go.RowKit
namespace Ev
set_option linter.unusedSectionVars false
variable [Env]
structure FRep (β : Beta) (nt : Nat) (fr : Tr AV) (a : Act) : Prop where
  size : a.tmps.size = nt
  defers : a.defers = []
  at_ : ∀ t, Rep β (slotV (fr.get (path t))) (a.tmps.getD t undef)
def Globs (P : Program) (β : Beta) : Prop := ∀ g, g < P.globals.size → ∃ t, β g = some (g, t)
theorem FRep.mono {β β' : Beta} {nt : Nat} {fr : Tr AV} {a : Act} (h : FRep β nt fr a) (hb : β.le β') : FRep β' nt fr a := ⟨h.size, h.defers, fun t => (h.at_ t).mono' hb⟩
theorem Globs.mono {P : Program} {β β' : Beta} (h : Globs P β) (hb : β.le β') : Globs P β' := fun g hg => let ⟨t, e⟩ := h g hg; ⟨t, hb _ _ e⟩
section
variable {P : Program} {β : Beta} {w : World} {s : St} {lo nt : Nat} {fr : Tr AV} {a : Act}
theorem opnd_ok (hf : FRep β nt fr a) (hg : Globs P β) {x : Operand} {v : AV} (h : opnd P fr x = some v) : Rep β v (a.eval x) := by
  cases x with
  | tmp t => cases h; exact hf.at_ t
  | const c => exact ofV_rep h
  | global g =>
    simp only [opnd] at h
    cases hc : Nat.blt g P.globals.size with
    | false => rw [hc] at h; cases h
    | true =>
      rw [hc] at h
      cases h
      have : g + 1 ≤ P.globals.size := by simpa [Nat.blt, Nat.ble_eq] using hc
      obtain ⟨t, e⟩ := hg g (by omega)
      exact ⟨g, t, e, rfl⟩
  | func f => cases h; exact ⟨#[], rfl, rfl⟩
theorem opsRep (hf : FRep β nt fr a) (hg : Globs P β) (l : List Operand) : OpsRep P β fr a.eval l := fun _ _ _ h => opnd_ok hf hg h
theorem put_ok (hf : FRep β nt fr a) {dst : Option Tmp} {v : AV} {u : Value} (hv : Rep β v u) {fr' : Tr AV} (h : put nt fr dst v = some fr') : FRep β nt fr' (a.put dst u) := by
  cases dst with
  | none => cases h; exact hf
  | some d =>
    simp only [put] at h
    cases hc : Nat.blt d nt with
    | false => rw [hc] at h; cases h
    | true =>
      rw [hc] at h
      cases h
      have hd : d + 1 ≤ nt := by simpa [Nat.blt, Nat.ble_eq] using hc
      refine ⟨by simp [Act.put, hf.size], hf.defers, fun t => ?_⟩
      rw [get_put]
      have hsz := hf.size
      by_cases e : t = d
      · subst e
        rw [if_pos rfl]
        have hlt : t < a.tmps.size := by rw [hsz]; exact hd
        have : (a.tmps.setIfInBounds t u).getD t undef = u := by
          rw [Array.getD_eq_getD_getElem?, Array.getElem?_setIfInBounds, if_pos rfl, if_pos hlt]; rfl
        simp only [Act.put, this]
        exact hv
      · rw [if_neg e]
        have : (a.tmps.setIfInBounds d u).getD t undef = a.tmps.getD t undef := by
          rw [Array.getD_eq_getD_getElem?, Array.getD_eq_getD_getElem?, Array.getElem?_setIfInBounds, if_neg (fun h => e h.symm)]
        simp only [Act.put, this]
        exact hf.at_ t
theorem rep_bool {v : AV} {b : Bool} (h : Rep β v (.bool b)) : v = .bool b := by
  cases v with
  | sym s =>
    exfalso
    cases s with
    | txt i l => obtain ⟨e, _⟩ := h; cases e
    | lin l a b => cases h
    | res n r => obtain ⟨z, e, _⟩ := h; cases e
    | rng k lo hi => obtain ⟨z, e, _⟩ := h; cases e
  | bool c => cases h; rfl
  | _ => exfalso; simp [Rep] at h
theorem wanted_at {ops : Array Oper} {o : Oper} {b : Bool} (hat : ∀ d ∈ o.looksAt ops, Rep β (slotV (fr.get (path d))) (a.tmps.getD d undef)) (h : wantedOp fr ops o = some b) : Region.wanted o (yielded ops a.tmps) = b := by
  unfold wantedOp at h
  unfold Region.wanted
  split at h
  case h_1 hg => rw [hg]; cases h; rfl
  case h_2 j want hg =>
  rw [hg]
  simp only [yielded]
  split at h
  case h_2 hj => cases h; rw [hj]; rfl
  case h_1 g hj =>
  split at h
  case h_2 hd => cases h; rw [hj]; simp [hd]
  case h_1 d hd =>
  rw [hj]
  simp only [Option.bind_some, hd]
  have hat := hat d (by simp [Oper.looksAt, hg, hj, hd])
  split at h
  case h_1 c hc =>
    cases h
    rw [hc] at hat
    have hv : a.tmps.getD d undef = .bool c := hat
    rw [Array.getD_eq_getD_getElem?] at hv
    cases ht : a.tmps[d]? with
    | none => rw [ht] at hv; cases hv
    | some u =>
      rw [ht] at hv
      cases hv
      simp
  case h_2 hne =>
    cases h
    cases ht : a.tmps[d]? with
    | none => simp
    | some u =>
      cases u <;> try (simp; done)
      rename_i c
      rw [Array.getD_eq_getD_getElem?, ht] at hat
      have := rep_bool hat
      exfalso
      cases hx : fr.get (path d) with
      | none => rw [hx] at this; cases this
      | some x =>
        rw [hx] at this
        exact hne c (by rw [hx]; exact congrArg some this)
theorem wanted_ok (hf : FRep β nt fr a) {ops : Array Oper} {o : Oper} {b : Bool} (h : wantedOp fr ops o = some b) : Region.wanted o (yielded ops a.tmps) = b := wanted_at (fun d _ => hf.at_ d) h
/-- What the runner says of calls, as it is so in the model. -/
def CallOk (P : Program) (ih : Nat → Job → Option Out) : Prop :=
  ∀ lo f args s v s', ih lo (.call f args s) = some (.call v s') → ∀ (β : Beta) (w : World) (vs : Array Value), Sit β s w → Globs P β → Reps β args vs.toList →
    Calls P f vs w fun e w' => ∃ u β', e = .returned u ∧ Ext lo β s w β' s' w' ∧ Rep β' v u
def exOf : Ex → Exit
  | .nrm => .normal
  | .exit k => .exit k
  | .ret => .ret
def CodeOk (P : Program) (ih : Nat → Job → Option Out) : Prop :=
  ∀ lo nt c fr s e fr' s', ih lo (.code nt c fr s) = some (.code e fr' s') → ∀ (β : Beta) (w : World) (a : Act), Sit β s w → Globs P β → FRep β nt fr a →
    ∀ Q : Exit → Act → World → Prop, (∀ a' w' β', Ext lo β s w β' s' w' → FRep β' nt fr' a' → Q (exOf e) a' w') → c.wp P Q a w
theorem indexB_ok (c : Nat) (hc : c < 256) : ∀ (l : List UInt8) (i : Nat), indexB c l i = (if Lib.indexByte l (UInt8.ofNat c) == -1 then -1 else (i : Int) + Lib.indexByte l (UInt8.ofNat c)) ∧ -1 ≤ Lib.indexByte l (UInt8.ofNat c)
  | [], i => ⟨rfl, by simp [Lib.indexByte]⟩
  | x :: l, i => by
    have ih := indexB_ok c hc l (i + 1)
    have hx : Nat.beq x.toNat c = (x == UInt8.ofNat c) := by
      rw [Bool.eq_iff_iff, Nat.beq_eq, beq_iff_eq]
      constructor
      · intro h
        apply UInt8.toNat_inj.1
        rw [h, UInt8.toNat_ofNat', Nat.mod_eq_of_lt hc]
      · intro h
        rw [h, UInt8.toNat_ofNat', Nat.mod_eq_of_lt hc]
    simp only [indexB, Lib.indexByte, hx]
    by_cases hxx : (x == UInt8.ofNat c) = true
    · simp [hxx]
    · have hxf : (x == UInt8.ofNat c) = false := by simpa using hxx
      simp only [hxf, cond_false, Bool.false_eq_true, if_false]
      rw [ih.1]
      generalize Lib.indexByte l (UInt8.ofNat c) = k at *
      have h2 := ih.2
      by_cases hk : k = -1
      · subst hk; simp
      · have e1 : (k == -1) = false := by simpa using hk
        have e2 : (k + 1 == -1) = false := by simp; omega
        simp only [e1, e2, Bool.false_eq_true, if_false]
        omega
theorem rows_next : Extern.allNextRows.lookup "internal/bytealg.IndexByteString" = none ∧ Extern.allNextRows.lookup "" = none := ⟨by kernel_rfl, by kernel_rfl⟩
theorem rows_find : Extern.allGenericRows.lookup "internal/bytealg.IndexByteString" = none ∧ Extern.allTypedRows.lookup "internal/bytealg.IndexByteString" = none ∧ Extern.allRows.lookup "internal/bytealg.IndexByteString" = some Extern.BytealgIndexByte.indexByte := ⟨by kernel_rfl, by kernel_rfl, by kernel_rfl⟩
theorem extern_ok {fn : Func} {l : List AV} {v : AV} (h : evExtern fn l = some v) (hb : fn.body = none) {vs : Array Value} (hl : Reps β l vs.toList) {f : FuncId} (hf : P.funcs[f]? = some fn) :
    ∃ u, (callFunc f vs).run P w = .ok (.value u) w ∧ Rep β v u := by
  unfold evExtern at h
  cases hc : (fn.name == "internal/bytealg.IndexByteString" && fn.origin == "") with
  | false => rw [hc] at h; cases h
  | true =>
    rw [hc] at h
    simp only [Bool.and_eq_true, beq_iff_eq] at hc
    simp only [cond_true] at h
    split at h
    case h_2 => cases h
    case h_1 bs c =>
    cases hlt : Nat.blt c 256 with
    | false => rw [hlt] at h; cases h
    | true =>
      rw [hlt] at h
      cases h
      have hc' : c + 1 ≤ 256 := by simpa [Nat.blt, Nat.ble_eq] using hlt
      obtain ⟨u1, m1, e1, rfl, u2, m2, e2, rfl, e3⟩ := hl
      have hvs : vs = #[.string ⟨bs.toArray⟩, .int .u8 (Int.ofNat c)] := by
        apply Array.ext'
        rw [e1, e2, e3]
      have hnm : (fn.name == "runtime.NumGoroutine") = false := by rw [hc.1]; decide
      have hn : Extern.findNext fn = none := by
        unfold Extern.findNext
        simp only [hc.1, hc.2, rows_next.1, rows_next.2, Option.map_none]
        rfl
      have hfd : Extern.find fn = some Extern.BytealgIndexByte.indexByte := by
        unfold Extern.find
        simp only [hc.1, rows_find.1, rows_find.2.1, rows_find.2.2, Option.map_none]
        rfl
      refine ⟨.int .i64 (Lib.indexByte bs (UInt8.ofNat c)), ?_, ?_⟩
      · have hr := Lib.run_indexByteString (P := P) ⟨bs.toArray⟩ (Int.ofNat c) w
        rw [← hvs] at hr
        simp only [callFunc, Sem.run_bind, run_program, Result.andThen_ok, hf, hnm, Bool.false_eq_true, if_false, hb, Option.isNone_none, if_true, run_mark, hn, hfd, hr, Sem.run_pure]
        rfl
      · have := indexB_ok c (by omega) bs 0
        simp only [Rep]
        rw [this.1]
        by_cases hk : Lib.indexByte bs (UInt8.ofNat c) = -1
        · simp [hk]
        · have e1 : (Lib.indexByte bs (UInt8.ofNat c) == -1) = false := by simpa using hk
          simp only [e1, Bool.false_eq_true, if_false]
          simp
/-- One operation. -/
theorem evOper_ok {ih : Nat → Job → Option Out} (hcall : CallOk P ih) (hs : Sit β s w) (hg : Globs P β) {o : Oper} (hρ : OpsRep P β fr a.eval o.op.operands.toList) {v : AV} {s' : St} (h : evOper P lo ih fr s o = some (v, s')) {next : Act → World → Prop} {Q : Exit → Act → World → Prop}
    (hn : ∀ u w' β', Ext lo β s w β' s' w' → Rep β' v u → next (a.put o.dst u) w') : o.wp P a w next Q := by
  obtain ⟨dst, op, ty, pos, after, guard⟩ := o
  have plain : evOp P lo fr s op = some (v, s') → Oper.wp P ⟨dst, op, ty, pos, after, guard⟩ a w next Q := by
    intro h
    obtain ⟨u, w', β', h1, h2, h3⟩ := evOp_ok hs (dst := dst) (ty := ty) (pos := pos) (after := after) (guard := guard) hρ h
    unfold Oper.wp
    rcases h1 with h1 | ⟨h1, rfl⟩
    · rw [h1]; exact hn u w' β' h2 h3
    · rw [h1]; exact hn undef w' β' h2 h3
  unfold evOper at h
  split at h
  case h_2 => exact plain h
  case h_1 c hop =>
  simp only at hop
  split at h
  case h_2 => exact plain h
  case h_1 fo hco =>
  split at h
  case h_2 => cases h
  case h_1 f l hcal =>
  unfold callee at hcal
  rw [hco] at hcal
  simp only at hcal
  split at hcal
  case h_2 => cases hcal
  case h_1 g cap hfo =>
  split at hcal
  case h_2 => cases hcal
  case h_1 as has =>
  cases hcal
  subst hop
  simp only [Op.operands, Call.operands, hco] at hρ
  obtain ⟨cv, hv1, hv2⟩ := hρ fo (by simp) _ hfo
  have hargs := opnds_ok (l := c.args.toList) (fun x hx => hρ x (by simp [hx])) has
  have hall : Reps β (as ++ cap) ((c.args.map a.eval) ++ cv).toList := by
    rw [Array.toList_append, Array.toList_map]; exact hargs.append hv2
  have hrun : ∀ w : World, (execOp a.eval ⟨dst, .call c, ty, pos, after, guard⟩).run P w = (callFunc f (c.args.map a.eval ++ cv)).run P w := by
    intro w
    simp only [execOp, resolve, hco, hv1, Deferred.ofValue, Sem.run_bind, Sem.run_pure, Result.andThen_ok, invoke, Array.empty_append]
  split at h
  case h_1 => cases h
  case h_2 fn hfn =>
  split at h
  case h_1 hb =>
    split at h
    case h_2 => cases h
    case h_1 r hr =>
    cases h
    obtain ⟨u, h1, h2⟩ := extern_ok (w := w) hr hb hall hfn
    unfold Oper.wp
    rw [hrun, h1]
    exact hn u w β (Ext.refl hs) h2
  case h_2 body hb =>
    cases hnm : (fn.name == "runtime.NumGoroutine") with
    | true => rw [hnm] at h; cases h
    | false =>
    rw [hnm] at h
    simp only [cond_false] at h
    split at h
    case h_2 => cases h
    case h_1 r s1 hih =>
    cases h
    have h1 : (callFunc f (c.args.map a.eval ++ cv)).run P w = .ok (.enter f (c.args.map a.eval ++ cv)) w := by
      simp only [callFunc, Sem.run_bind, run_program, Result.andThen_ok, hfn, hnm, Bool.false_eq_true, if_false, hb, Option.isNone_some, Sem.run_pure]
    unfold Oper.wp
    rw [hrun, h1]
    refine (hcall lo f _ s v s' hih β w _ hs hg hall).mono ?_
    rintro e w' ⟨u, β', rfl, h2, h3⟩
    exact hn u w' β' h2 h3
/-! Regions whose order is the text's. -/
theorem evOps_ok {ih : Nat → Job → Option Out} (hcall : CallOk P ih) (ops : Array Oper) {Q : Exit → Act → World → Prop} : ∀ (l : List Oper) (is : List Nat) (fr : Tr AV) (s : St) (e : Ex) (fr' : Tr AV) (s' : St), is.map (ops[·]?) = l.map some →
    evOps P lo nt ih ops l fr s = some (.code e fr' s') → ∀ (β : Beta) (w : World) (a : Act), Sit β s w → Globs P β → FRep β nt fr a →
    (∀ a' w' β', Ext lo β s w β' s' w' → FRep β' nt fr' a' → e = .nrm → Q .normal a' w') → wpOps P ops Q is a w
  | [], is, fr, s, e, fr', s', hi, h, β, w, a, hs, hg, hf, hQ => by
    cases is with
    | cons i is => simp at hi
    | nil => cases h; exact hQ a w β (Ext.refl hs) hf rfl
  | o :: l, is, fr, s, e, fr', s', hi, h, β, w, a, hs, hg, hf, hQ => by
    cases is with
    | nil => simp at hi
    | cons i is =>
    simp only [List.map_cons, List.cons.injEq] at hi
    obtain ⟨hio, hil⟩ := hi
    simp only [evOps] at h
    simp only [wpOps, hio]
    split at h
    case h_3 => cases h
    case h_1 hw =>
      rw [if_pos (wanted_ok hf hw)]
      split at h
      case h_2 => cases h
      case h_1 v s1 ho =>
      split at h
      case h_2 => cases h
      case h_1 fr1 hp =>
      refine .inl (evOper_ok hcall hs hg (opsRep hf hg _) ho ?_)
      intro u w1 β1 hx hr
      have hle := hx.beta hs
      refine evOps_ok hcall ops l is fr1 s1 e fr' s' hil h β1 w1 _ hx.sit (hg.mono hle) (put_ok (hf.mono hle) hr hp) ?_
      intro a' w' β' hx' hf' he
      exact hQ a' w' β' (hx.trans hs hx') hf' he
    case h_2 hw =>
      rw [if_neg (by rw [wanted_ok hf hw]; simp)]
      split at h
      case h_2 => cases h
      case h_1 fr1 hp =>
      exact evOps_ok hcall ops l is fr1 s e fr' s' hil h β w _ hs hg (put_ok hf (show Rep β (.tup []) undef from ⟨#[], rfl, rfl⟩) hp) hQ
theorem range_map (ops : Array Oper) : (List.range ops.size).map (ops[·]?) = ops.toList.map some := by
  apply List.ext_getElem?
  intro i
  by_cases h : i < ops.size
  · simp [h]
  · simp [h]
theorem region_ok {ih : Nat → Job → Option Out} (hcall : CallOk P ih) {id : Nat} {ops : Array Oper} {e : Ex} {fr' : Tr AV} {s' : St} (h : evOps P lo nt ih ops ops.toList fr s = some (.code e fr' s')) (hs : Sit β s w) (hg : Globs P β) (hf : FRep β nt fr a)
    {Q : Exit → Act → World → Prop} (hQ : ∀ a' w' β', Ext lo β s w β' s' w' → FRep β' nt fr' a' → Q (exOf e) a' w') : (Code.region id ops false).wp P Q a w :=
  wp_region (evOps_ok hcall ops ops.toList _ fr s e fr' s' (range_map ops) h β w a hs hg hf fun a' w' β' hx hf' he => by have := hQ a' w' β' hx hf'; rw [he] at this; exact this)
/-! Results. -/
theorem ress_ok (hs : Sit β s w) (hf : FRep β nt fr a) : ∀ {l : List ResultVar} {as : List AV}, ress P s fr l = some as →
    ∃ vs : List Value, (l.mapM fun (x : ResultVar) => match x with
      | .tmp t => (pure (a.tmps.getD t undef) : Sem Value)
      | .cell p t => do loadVar t (← asAddr (a.tmps.getD p undef))).run P w = .ok vs w ∧ Reps β as vs
  | [], as, h => by cases h; exact ⟨[], rfl, rfl⟩
  | .tmp t :: l, as, h => by
    simp only [ress] at h
    split at h
    case h_2 => cases h
    case h_1 r hr =>
    cases h
    obtain ⟨vs, h1, h2⟩ := ress_ok hs hf hr
    refine ⟨a.tmps.getD t undef :: vs, ?_, _, vs, rfl, hf.at_ t, h2⟩
    rw [List.mapM_cons, Sem.run_bind]
    simp only [Sem.run_pure, Result.andThen_ok, Sem.run_bind, h1]
  | .cell p t :: l, as, h => by
    simp only [ress] at h
    split at h
    case h_2 => cases h
    case h_1 b off hb =>
    split at h
    case h_2 => cases h
    case h_1 i hi =>
    split at h
    case h_2 => cases h
    case h_1 v hv =>
    split at h
    case h_2 => cases h
    case h_1 r hr =>
    cases h
    obtain ⟨vs, h1, h2⟩ := ress_ok hs hf hr
    have hat := hf.at_ p
    rw [hb] at hat
    obtain ⟨u, q1, q3⟩ := load_ok (P := P) hs hi hat hv
    obtain ⟨nb, tt, hbe, hpe⟩ := hat
    have hpe' : a.tmps.getD p undef = .pointer (some ⟨nb, off, none⟩) := hpe
    have q1' : (loadVar t ⟨nb, off, none⟩).run P w = .ok u w := by
      have : (Instr.loadAt t (.pointer (some ⟨nb, off, none⟩))).run P w = (loadVar t ⟨nb, off, none⟩).run P w := by
        simp only [Instr.loadAt, Instr.sureAddr, Sem.run_bind, Sem.run_pure, Result.andThen_ok]
      rw [← this, ← hpe]; exact q1
    refine ⟨u :: vs, ?_, _, vs, rfl, q3, h2⟩
    rw [List.mapM_cons, Sem.run_bind]
    have hA : (asAddr (a.tmps.getD p undef)).run P w = .ok ⟨nb, off, none⟩ w := by rw [hpe']; rfl
    simp only [hA, Sem.run_pure, Result.andThen_ok, Sem.run_bind, q1', h1]
theorem results_ok {fn : Func} (hs : Sit β s w) (hf : FRep β nt fr a) {as : List AV} (h : ress P s fr fn.results.toList = some as) :
    ∃ u, (results fn a.tmps).run P w = .ok u w ∧ Rep β (oneOf as) u := by
  obtain ⟨vs, h1, h2⟩ := ress_ok hs hf h
  have hl := Reps.length h2
  have e : (fn.results.mapM fun (x : ResultVar) => match x with
      | .tmp t => (pure (a.tmps.getD t undef) : Sem Value)
      | .cell p t => do loadVar t (← asAddr (a.tmps.getD p undef))).run P w = .ok vs.toArray w := by
    rw [Array.mapM_eq_mapM_toList, Sem.run_map, h1]
    rfl
  refine ⟨if h : vs.toArray.size = 1 then vs.toArray[0] else .tuple vs.toArray, ?_, ?_⟩
  · unfold results
    rw [Sem.run_bind]
    refine (congrArg (fun r => Result.andThen r _) e).trans ?_
    rfl
  · match as, vs, h2, hl with
    | [v], [u], h2, _ =>
      obtain ⟨u', r, e, hr, _⟩ := h2
      cases e
      simpa [oneOf] using hr
    | [], [], h2, _ => exact ⟨#[], by simp, rfl⟩
    | v :: v' :: l, u :: u' :: r, h2, _ => exact ⟨(u :: u' :: r).toArray, by simp, h2⟩
end
end Ev
end Go.Proofs.Ytnelncafocgfhaa
