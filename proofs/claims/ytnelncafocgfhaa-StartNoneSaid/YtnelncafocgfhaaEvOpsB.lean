/- Operations: numbers, texts, comparisons. -/
import Derived.Test.YtnelncafocgfhaaEvOpsA
import Derived.ChangeKeysEq
import Derived.Laws.StructEq
namespace Go.Proofs.Ytnelncafocgfhaa
open Go.RowKit
namespace Ev
set_option linter.unusedSectionVars false
variable [Env]
theorem wrapK_eq (k : IntKind) (n : Int) : wrapK k n = k.wrap n := by
  unfold wrapK
  split
  · rename_i m
    cases h : Nat.blt m 9223372036854775808 with
    | true =>
      have h' : m + 1 ≤ 9223372036854775808 := by simpa [Nat.blt, Nat.ble_eq] using h
      rw [cond_true, IntWalk.i64_in _ (by simp only [Int.ofNat_eq_natCast]; omega)]
    | false => rfl
  · rfl
section
variable {P : Program} {β : Beta} {w : World}
theorem guard_pure {op : BinOp} {t : TypeId} {x y : Operand} {a b : Value} (h : ¬ (a = .nilIface ∧ b = .nilIface)) (h2 : ∀ xs ys, a = .agg xs → b = .agg ys → P.eqGuardType P.depth t = false) : (eqGuard op t x y a b).run P w = .ok () w := by
  unfold eqGuard
  cases op <;> first
    | rfl
    | (simp only [Bool.not_true, Bool.false_eq_true, if_false]
       split
       · exact absurd ⟨rfl, rfl⟩ h
       · simp [h2 _ _ rfl rfl]
       · rfl)
theorem int_ok {op : BinOp} {t : TypeId} {k : IntKind} {a b : Int} {v : AV} (h1 : op ≠ .shl) (h2 : op ≠ .shr) (h : binInt op k a b = some v) : VG P (binOp op t (.int k a) (.int k b)) β w v := by
  cases op <;> first | exact absurd rfl h1 | exact absurd rfl h2 | skip
  case quo =>
    simp only [binInt] at h
    cases hb : (b == 0) with
    | true => rw [hb] at h; cases h
    | false =>
      rw [hb] at h
      cases h
      have : b ≠ 0 := by simpa using hb
      exact ⟨.int k (k.wrap (a.tdiv b)), by simp [binOp, Op.intDiv, this], by rw [wrapK_eq]; rfl⟩
  case rem =>
    simp only [binInt] at h
    cases hb : (b == 0) with
    | true => rw [hb] at h; cases h
    | false =>
      rw [hb] at h
      cases h
      have : b ≠ 0 := by simpa using hb
      exact ⟨.int k (a.tmod b), by simp [binOp, Op.intDiv, this], rfl⟩
  all_goals
    simp only [binInt] at h
    cases h
    refine ⟨_, by simp only [binOp, ne_eq, not_true_eq_false, if_false, Op.intArith, Op.intBits, Op.intCmp, Sem.run_pure]; rfl, ?_⟩
    first | rfl | (rw [wrapK_eq]; rfl)
theorem shift_ok {op : BinOp} {t : TypeId} {k k' : IntKind} {a b : Int} {v : AV} (h1 : op = .shl ∨ op = .shr) (h : shiftInt op k a b = some v) : VG P (binOp op t (.int k a) (.int k' b)) β w v := by
  unfold shiftInt at h
  cases hb : decide (b < 0) with
  | true => rw [hb] at h; cases h
  | false =>
    rw [hb] at h
    have hn : ¬ b < 0 := of_decide_eq_false hb
    rcases h1 with rfl | rfl <;> simp only [cond_false] at h <;> cases h
    · exact ⟨_, by simp only [binOp, Op.shift, hn, if_false, Sem.run_pure], rfl⟩
    · exact ⟨_, by simp only [binOp, Op.shift, hn, if_false, Sem.run_pure], rfl⟩
theorem sameBytes_eq : ∀ (x y : List UInt8), sameBytes x y = (x == y)
  | [], [] => rfl
  | [], _ :: _ => rfl
  | _ :: _, [] => rfl
  | a :: x, b :: y => by
    rw [sameBytes, sameBytes_eq x y, List.cons_beq_cons]
    congr 1
    rw [Bool.eq_iff_iff, Nat.beq_eq, beq_iff_eq]
    exact ⟨fun h => UInt8.toNat_inj.1 h, fun h => by rw [h]⟩
theorem lessBytes_eq : ∀ (x y : List UInt8), lessBytes x y = Op.bytesLess x y
  | x, [] => by cases x <;> rfl
  | [], _ :: _ => rfl
  | a :: x, b :: y => by
    rw [lessBytes, Op.bytesLess, lessBytes_eq x y]
    have h1 : Nat.blt a.toNat b.toNat = decide (a < b) := by
      rw [Bool.eq_iff_iff, decide_eq_true_iff, UInt8.lt_iff_toNat_lt, Nat.blt, Nat.ble_eq]
      omega
    have h2 : Nat.beq a.toNat b.toNat = (a == b) := by
      rw [Bool.eq_iff_iff, Nat.beq_eq, beq_iff_eq]
      exact ⟨fun h => UInt8.toNat_inj.1 h, fun h => by rw [h]⟩
    rw [h1, h2]
theorem toList_mk (l : List UInt8) : (ByteArray.mk l.toArray).toList = l := by
  rw [ByteArray.toList_eq]
theorem size_mk (l : List UInt8) : (ByteArray.mk l.toArray).size = l.length := by simp [ByteArray.size]
theorem append_mk (x y : List UInt8) : (ByteArray.mk x.toArray) ++ (ByteArray.mk y.toArray) = ByteArray.mk (x ++ y).toArray := by
  apply ByteArray.ext
  rw [ByteArray.data_append]
  simp
theorem str_ok {op : BinOp} {t : TypeId} {a b : List UInt8} {v : AV} (h : binStr op a b = some v) : VG P (binOp op t (.string ⟨a.toArray⟩) (.string ⟨b.toArray⟩)) β w v := by
  cases op <;> simp only [binStr] at h <;> try cases h
  case add =>
    cases hc : Nat.blt (a.length + b.length) 9223372036854775807 with
    | false => rw [hc] at h; cases h
    | true =>
      rw [hc] at h
      cases h
      have h' : a.length + b.length + 1 ≤ 9223372036854775807 := by simpa [Nat.blt, Nat.ble_eq] using hc
      refine ⟨.string ⟨(a ++ b).toArray⟩, ?_, rfl⟩
      have hm : ¬ (((a.length + b.length : Nat) : Int) > IntKind.i64.max) := by
        have : IntKind.i64.max = 9223372036854775807 := by decide
        omega
      simp only [binOp, Op.stringOp, size_mk, hm, if_false, Sem.run_pure, append_mk]
  all_goals
    exact ⟨_, by simp only [binOp, Op.stringOp, toList_mk, Sem.run_pure]; rfl, by simp only [Rep, lessBytes_eq, sameBytes_eq]⟩
theorem eqInts_ok {e : TypeId} {j : TI} {k0 : IntKind} (hj : ti P e = some j) (hd : j.d = .int k0) (h1 : j.size = 1) (d : Nat) (xs ys : Array Value) : ∀ (n o : Nat) (l r : List AV) (b : Bool), eqInts n l r = some b → Reps β l (xs.toList.drop o) → Reps β r (ys.toList.drop o) →
    (Op.eqItems (d + 1) e 1 xs ys (List.range' o n)).run P w = .ok b w
  | 0, _, [], [], b, h, _, _ => by cases h; rfl
  | n + 1, o, a :: l, a' :: r, b, h, ha, hb => by
    cases a with
    | int k x =>
      cases a' with
      | int k' y =>
        simp only [eqInts] at h
        obtain ⟨u, m, e1, rfl, hl⟩ := ha
        obtain ⟨u', m', e2, rfl, hr⟩ := hb
        have hx : xs[o]? = some (.int k x) := by
          have := congrArg List.head? e1
          simpa using this
        have hy : ys[o]? = some (.int k' y) := by
          have := congrArg List.head? e2
          simpa using this
        have hag : j.isAgg = false := by unfold TI.isAgg; rw [hd]
        have px : (part e xs (o * 1)).run P w = .ok (.int k x) w := by
          rw [Nat.mul_one]
          simp only [part, Sem.run_bind, run_aggq hj, hag, Result.andThen_ok, Bool.false_eq_true, if_false, hx, Sem.run_pure]
        have py : (part e ys (o * 1)).run P w = .ok (.int k' y) w := by
          rw [Nat.mul_one]
          simp only [part, Sem.run_bind, run_aggq hj, hag, Result.andThen_ok, Bool.false_eq_true, if_false, hy, Sem.run_pure]
        rw [List.range'_succ]
        simp only [Op.eqItems, Sem.run_bind, px, py, Result.andThen_ok]
        cases hk : (k == k') with
        | false => rw [hk] at h; cases h
        | true =>
          rw [hk] at h
          obtain rfl := eq_of_beq hk
          have he : (Op.equalIn (d + 1) e (.int k x) (.int k y)).run P w = .ok (x == y) w := by
            obtain ⟨info, z, a, g1, g2, _⟩ := ti_spec hj
            exact run_equalIn_int w d e k k0 x y (by rw [g2, hd])
          rw [he]
          simp only [cond_true] at h
          cases hxy : (x == y) with
          | false =>
            rw [hxy] at h
            cases h
            simp
          | true =>
            rw [hxy] at h
            simp only [cond_true] at h
            simp only [Result.andThen_ok, Bool.not_true, Bool.false_eq_true, if_false]
            refine eqInts_ok hj hd h1 d xs ys n (o + 1) l r b h ?_ ?_
            · have := congrArg List.tail e1
              simp only [List.tail_drop, List.tail_cons] at this
              rw [this]; exact hl
            · have := congrArg List.tail e2
              simp only [List.tail_drop, List.tail_cons] at this
              rw [this]; exact hr
      | _ => simp [eqInts] at h
    | _ => simp [eqInts] at h
  | 0, _, [], _ :: _, _, h, _, _ => by simp [eqInts] at h
  | 0, _, _ :: _, [], _, h, _, _ => by simp [eqInts] at h
  | 0, _, _ :: _, _ :: _, _, h, _, _ => by simp [eqInts] at h
  | n + 1, _, [], _, _, h, _, _ => by simp [eqInts] at h
  | n + 1, _, _ :: _, [], _, h, _, _ => by simp [eqInts] at h
theorem eqAV_ok {t : TypeId} {d : TypeDesc} (hun : (underlying t).run P w = .ok d w) (D : Nat) {x y : AV} {u v : Value} {b : Bool} (c1 : eqDesc d x = true) (c2 : eqDesc d y = true) (h : eqAV x y = some b) (hx : Rep β x u) (hy : Rep β y v) :
    (Op.equalIn (D + 1) t u v).run P w = .ok b w ∧ ¬ (u = .nilIface ∧ v = .nilIface) ∧ ∀ xs ys, u = .agg xs → v = .agg ys → P.eqGuardType P.depth t = false := by
  cases x <;> cases y <;> simp only [eqAV, reduceCtorEq, Option.some.injEq] at h
  all_goals
    cases d <;> simp only [eqDesc, reduceCtorEq, Bool.false_eq_true] at c1 c2
    subst h
    simp only [Rep] at hx hy
    first | (obtain rfl := hx) | (obtain ⟨_, _, _, rfl⟩ := hx) | (obtain ⟨_, _, _, _, rfl, _⟩ := hx) | (obtain ⟨_, _, rfl⟩ := hx) | (obtain ⟨_, rfl, _⟩ := hx)
    first | (obtain rfl := hy) | (obtain ⟨_, _, _, rfl⟩ := hy) | (obtain ⟨_, _, _, _, rfl, _⟩ := hy) | (obtain ⟨_, _, rfl⟩ := hy) | (obtain ⟨_, rfl, _⟩ := hy)
    refine ⟨?_, fun g => (by cases g.1 <;> cases g.2), fun _ _ g _ => (by cases g)⟩
    simp only [Op.equalIn, Sem.run_bind, hun, Result.andThen_ok, Sem.run_pure]
    try rfl
theorem eqBig_ok {t : TypeId} {i : TI} (hi : ti P t = some i) (D : Nat) {x y : AV} {u v : Value} {b : Bool} (h : eqBig P t i.d x y = some b) (hx : Rep β x u) (hy : Rep β y v) :
    (Op.equalIn (D + 2) t u v).run P w = .ok b w ∧ ¬ (u = .nilIface ∧ v = .nilIface) ∧ ∀ xs ys, u = .agg xs → v = .agg ys → P.eqGuardType P.depth t = false := by
  have hun := run_under hi w
  unfold eqBig at h
  split at h
  case h_3 => cases h
  case h_1 n e l r hd =>
    split at h
    case h_2 => cases h
    case h_1 j hj =>
    split at h
    case h_2 => cases h
    case h_1 k0 hjd =>
    cases hc : (j.size == 1 && !P.eqGuardType P.depth t) with
    | false => rw [hc] at h; cases h
    | true =>
      rw [hc] at h
      simp only [Bool.and_eq_true, beq_iff_eq, Bool.not_eq_true'] at hc
      obtain ⟨us, rfl, hl⟩ := hx
      obtain ⟨vs, rfl, hr⟩ := hy
      refine ⟨?_, fun g => (by cases g.1), fun _ _ _ _ => hc.2⟩
      obtain ⟨info, z, a, g1, g2, g3, _⟩ := ti_spec hj
      obtain ⟨info', z', a', g1', g2', _⟩ := ti_spec hi
      have hco : P.cellsOf e = 1 := by unfold Program.cellsOf; rw [g1]; simp [g3, hc.1]
      rw [run_equalIn_array w (D + 1) us vs (by rw [g2', hd]) g1, hco, List.range_eq_range']
      exact eqInts_ok hj hjd hc.1 D us vs n 0 l r b h (by simpa using hl) (by simpa using hr)
  case h_2 e a k c m hd =>
    split at h
    case h_2 => cases h
    case h_1 j hj =>
    cases hz : (j.size == 0) with
    | true => rw [hz] at h; cases h
    | false =>
      rw [hz] at h
      simp only [cond_false] at h
      cases hab : (a == c) with
      | false => rw [hab] at h; cases h
      | true =>
        rw [hab] at h
        cases h
        obtain rfl := eq_of_beq hab
        obtain ⟨nb, tt, hb, rfl⟩ := hx
        obtain ⟨nb', tt', hb', rfl⟩ := hy
        rw [hb] at hb'
        cases hb'
        refine ⟨?_, fun g => (by cases g.1), fun _ _ g _ => (by cases g)⟩
        have hz' : j.size ≠ 0 := by simpa using hz
        rw [hd] at hun
        simp only [Op.equalIn, Sem.run_bind, hun, Result.andThen_ok, run_size hj, ne_eq, hz', not_false_eq_true, if_true, sameAddr, beq_self_eq_true, Sem.run_pure]
        congr 1
        rw [Bool.eq_iff_iff]
        simp
/-- '==' of what is neither a number nor a text. -/
theorem eqAt_ok {t : TypeId} {x y : AV} {u v : Value} {b : Bool} (h : eqAt P t x y = some b) (hx : Rep β x u) (hy : Rep β y v) :
    (Op.equal t u v).run P w = .ok b w ∧ ¬ (u = .nilIface ∧ v = .nilIface) ∧ ∀ xs ys, u = .agg xs → v = .agg ys → P.eqGuardType P.depth t = false := by
  unfold eqAt at h
  split at h
  case h_2 => cases h
  case h_1 i hi =>
  split at h
  case h_1 b' hb => cases h; exact eqBig_ok hi 9998 hb hx hy
  case h_2 hb =>
    cases hc : (eqDesc i.d x && eqDesc i.d y) with
    | false => rw [hc] at h; cases h
    | true =>
      rw [hc] at h
      simp only [Bool.and_eq_true] at hc
      exact eqAV_ok (run_under hi w) 9999 hc.1 hc.2 h hx hy
theorem binOp_eql {t : TypeId} {u v : Value} (h1 : ∀ k n k' m, ¬ (u = .int k n ∧ v = .int k' m)) (h2 : ∀ a b, ¬ (u = .string a ∧ v = .string b)) (h3 : ∀ k n k' m, ¬ (u = .float k n ∧ v = .float k' m)) (h4 : ∀ k n m k' n' m', ¬ (u = .complex k n m ∧ v = .complex k' n' m')) :
    binOp .eql t u v = (do pure (.bool (← Op.equal t u v))) ∧ binOp .neq t u v = (do pure (.bool (!(← Op.equal t u v)))) := by
  cases u <;> cases v <;> first
    | exact absurd ⟨rfl, rfl⟩ (h1 _ _ _ _)
    | exact absurd ⟨rfl, rfl⟩ (h2 _ _)
    | exact absurd ⟨rfl, rfl⟩ (h3 _ _ _ _)
    | exact absurd ⟨rfl, rfl⟩ (h4 _ _ _ _ _ _)
    | exact ⟨rfl, rfl⟩
theorem eqAt_shape {t : TypeId} {x y : AV} {b : Bool} (h : eqAt P t x y = some b) : (∀ k n, x ≠ .int k n) ∧ (∀ s, x ≠ .str s) ∧ (∀ k n, x ≠ .flt k n) := by
  unfold eqAt at h
  split at h
  case h_2 => cases h
  case h_1 i hi =>
  split at h
  case h_1 b' hb =>
    unfold eqBig at hb
    split at hb <;> first | (cases hb; done) | exact ⟨by simp, by simp, by simp⟩
  case h_2 hb =>
    cases hc : (eqDesc i.d x && eqDesc i.d y) with
    | false => rw [hc] at h; cases h
    | true =>
      rw [hc] at h
      simp only [cond_true] at h
      cases x <;> first | (cases y <;> simp [eqAV] at h; done) | exact ⟨by simp, by simp, by simp⟩
/-! What is not known. -/
theorem VG.to {x : Sem Value} {r r' : AV} (h : VG P x β w r) (k : ∀ u, Rep β r u → Rep β r' u) : VG P x β w r' :=
  let ⟨u, a, b⟩ := h
  ⟨u, a, k u b⟩
theorem amongB_ok {b : List UInt8} : ∀ {l : List (List UInt8)}, amongB b l = true → b ∈ l
  | [], h => by cases h
  | x :: l, h => by
    simp only [amongB, Bool.or_eq_true, sameBytes_eq, beq_iff_eq] at h
    rcases h with rfl | h
    · simp
    · exact List.mem_cons_of_mem _ (amongB_ok h)
theorem eqSym_cases {op : BinOp} {b : Bool} {r : AV} (h : eqSym op b = some r) : (op = .eql ∧ r = .bool b) ∨ (op = .neq ∧ r = .bool (!b)) := by
  unfold eqSym at h
  split at h <;> cases h
  · exact .inl ⟨rfl, rfl⟩
  · exact .inr ⟨rfl, rfl⟩
theorem eqSym_int {op : BinOp} {t : TypeId} {k : IntKind} {z n : Int} {b : Bool} {r : AV} (hb : (z == n) = b) (h : eqSym op b = some r) : VG P (binOp op t (.int k z) (.int k n)) β w r := by
  rcases eqSym_cases h with ⟨rfl, rfl⟩ | ⟨rfl, rfl⟩
  · exact int_ok (by simp) (by simp) (by simp only [binInt, hb])
  · exact int_ok (by simp) (by simp) (by simp only [binInt, bne, hb])
theorem eqSym_str {op : BinOp} {t : TypeId} {x y : List UInt8} {b : Bool} {r : AV} (hb : sameBytes x y = b) (h : eqSym op b = some r) : VG P (binOp op t (.string ⟨x.toArray⟩) (.string ⟨y.toArray⟩)) β w r := by
  rcases eqSym_cases h with ⟨rfl, rfl⟩ | ⟨rfl, rfl⟩
  · exact str_ok (by simp only [binStr, hb])
  · exact str_ok (by simp only [binStr, hb])
theorem apart_ok {l : Bool} {a b : Int} (h : apart l a b = true) : (0 < a + b * Env.of l ∧ a + b * Env.of l < 9223372036854775808) ∨ (-9223372036854775808 < a + b * Env.of l ∧ a + b * Env.of l < 0) := by
  simp only [apart, Bool.and_eq_true, Bool.or_eq_true, decide_eq_true_eq] at h
  obtain ⟨rfl, h⟩ := h
  have e : Env.of true = Env.num % 1048576 := rfl
  have h0 : 0 ≤ Env.num % 1048576 := Int.emod_nonneg _ (by omega)
  have h1 : Env.num % 1048576 ≤ 1048576 := by omega
  rw [e]
  generalize Env.num % 1048576 = X at h0 h1
  rcases h with ⟨⟨ha, hb⟩, hc⟩ | ⟨⟨ha, hb⟩, hc⟩
  · have := Int.mul_le_mul_of_nonneg_left h1 hb
    have := Int.mul_nonneg hb h0
    exact .inl ⟨by omega, by omega⟩
  · have h2 : 0 ≤ -b := by omega
    have := Int.mul_le_mul_of_nonneg_left h1 h2
    have := Int.mul_nonneg h2 h0
    rw [Int.neg_mul] at *
    rw [Int.neg_mul] at *
    exact .inr ⟨by omega, by omega⟩
theorem wrap64_mod (x : Int) : IntKind.i64.wrap x % 18446744073709551616 = x % 18446744073709551616 := by rw [IntKind.wrap_i64]; omega
theorem wrap64_eq {x y : Int} (h : x % 18446744073709551616 = y % 18446744073709551616) : IntKind.i64.wrap x = IntKind.i64.wrap y := by rw [IntKind.wrap_i64, IntKind.wrap_i64]; omega
theorem wrap64_add (x y : Int) : IntKind.i64.wrap (IntKind.i64.wrap x + y) = IntKind.i64.wrap (x + y) := wrap64_eq (by have := wrap64_mod x; omega)
theorem wrap64_add' (x y : Int) : IntKind.i64.wrap (x + IntKind.i64.wrap y) = IntKind.i64.wrap (x + y) := wrap64_eq (by have := wrap64_mod y; omega)
theorem wrap64_sub (x y : Int) : IntKind.i64.wrap (IntKind.i64.wrap x - y) = IntKind.i64.wrap (x - y) := wrap64_eq (by have := wrap64_mod x; omega)
theorem wrap64_sub' (x y : Int) : IntKind.i64.wrap (x - IntKind.i64.wrap y) = IntKind.i64.wrap (x - y) := wrap64_eq (by have := wrap64_mod y; omega)
theorem wrap64_mul (x y : Int) : IntKind.i64.wrap (IntKind.i64.wrap x * y) = IntKind.i64.wrap (x * y) := wrap64_eq (by rw [Int.mul_emod, wrap64_mod, ← Int.mul_emod])
theorem low20 (x : Int) : IntKind.i64.wrap ((BitVec.ofInt 64 (IntKind.i64.wrap x) &&& BitVec.ofInt 64 1048575).toNat : Int) = IntKind.i64.wrap (x % 1048576) := by
  have h1 : (BitVec.ofInt 64 (1048575 : Int)).toNat = 2 ^ 20 - 1 := by decide
  have h2 : ((BitVec.ofInt 64 (IntKind.i64.wrap x)).toNat : Int) = x % 18446744073709551616 := by
    rw [BitVec.toNat_ofInt]
    have := wrap64_mod x
    have h := Int.emod_nonneg (IntKind.i64.wrap x) (b := 18446744073709551616) (by omega)
    rw [show (((2 : Nat) ^ 64 : Nat) : Int) = 18446744073709551616 by decide, Int.toNat_of_nonneg h, this]
  rw [BitVec.toNat_and, h1, Nat.and_two_pow_sub_one_eq_mod]
  congr 1
  rw [Int.natCast_emod, h2]
  omega
theorem rng_ok {op : BinOp} {t : TypeId} {k : IntKind} {lo hi z n : Int} {r : AV} (h1 : lo ≤ z) (h2 : z ≤ hi) (h : rngInt op lo hi n = some r) : VG P (binOp op t (.int k z) (.int k n)) β w r := by
  have key : ∀ b, binInt op k z n = some (.bool b) → op ≠ .shl → op ≠ .shr → r = .bool b → VG P (binOp op t (.int k z) (.int k n)) β w r := by
    rintro b e o1 o2 rfl
    exact int_ok o1 o2 e
  cases op <;> simp only [rngInt, reduceCtorEq] at h
  all_goals
    simp only [Bool.cond_eq_ite, Bool.or_eq_true, decide_eq_true_eq] at h
    first
    | (split at h
       · rename_i hc
         cases h
         refine key _ ?_ (by simp) (by simp) rfl
         simp only [binInt, Option.some.injEq, AV.bool.injEq, decide_eq_true_eq, beq_eq_false_iff_ne, bne_iff_ne, ne_eq]
         omega
       · first
         | (cases h; done)
         | (split at h
            · rename_i hc
              cases h
              refine key _ ?_ (by simp) (by simp) rfl
              simp only [binInt, Option.some.injEq, AV.bool.injEq, decide_eq_true_eq, decide_eq_false_iff_not]
              omega
            · cases h))
theorem swap_ok {op op' : BinOp} {t : TypeId} {k : IntKind} {z n : Int} {r : AV} (ho : (op = .eql ∧ op' = .eql) ∨ (op = .neq ∧ op' = .neq) ∨ (op = .lss ∧ op' = .gtr) ∨ (op = .leq ∧ op' = .geq) ∨ (op = .gtr ∧ op' = .lss) ∨ (op = .geq ∧ op' = .leq)) (h : VG P (binOp op' t (.int k z) (.int k n)) β w r) : VG P (binOp op t (.int k n) (.int k z)) β w r := by
  refine VG.to (r := r) ?_ (fun _ h => h)
  obtain ⟨u, hu, hr⟩ := h
  refine ⟨u, ?_, hr⟩
  rw [← hu]
  rcases ho with ⟨rfl, rfl⟩ | ⟨rfl, rfl⟩ | ⟨rfl, rfl⟩ | ⟨rfl, rfl⟩ | ⟨rfl, rfl⟩ | ⟨rfl, rfl⟩ <;> simp only [binOp, ne_eq, not_true_eq_false, if_false, Op.intCmp, Sem.run_pure] <;> congr 2 <;> first | rfl | (rw [Bool.eq_iff_iff]; simp; omega)
theorem symBin_ok {op : BinOp} {t : TypeId} {x y : AV} {u v : Value} {r : AV} (h : symBin op x y = some r) (hx : Rep β x u) (hy : Rep β y v) :
    VG P (binOp op t u v) β w r ∧ u ≠ .nilIface ∧ ∀ xs, u ≠ .agg xs := by
  unfold symBin at h
  split at h
  · rename_i i l b
    obtain ⟨rfl, hl⟩ := hx
    cases hy
    refine ⟨?_, by simp, by simp⟩
    rw [Bool.cond_eq_ite] at h
    split at h
    · rename_i hb
      refine eqSym_str ?_ h
      rw [sameBytes_eq, beq_eq_false_iff_ne]
      exact hl b (amongB_ok hb)
    · cases h
  · rename_i b i l
    obtain ⟨rfl, hl⟩ := hy
    cases hx
    refine ⟨?_, by simp, by simp⟩
    rw [Bool.cond_eq_ite] at h
    split at h
    · rename_i hb
      refine eqSym_str ?_ h
      rw [sameBytes_eq, beq_eq_false_iff_ne]
      exact fun e => hl b (amongB_ok hb) e.symm
    · cases h
  · rename_i i l j l'
    obtain ⟨rfl, hl⟩ := hx
    obtain ⟨rfl, hl'⟩ := hy
    refine ⟨?_, by simp, by simp⟩
    rw [Bool.cond_eq_ite] at h
    split at h
    · rename_i hb
      rw [Nat.beq_eq] at hb
      subst hb
      refine eqSym_str ?_ h
      rw [sameBytes_eq]
      exact beq_self_eq_true _
    · cases h
  · rename_i l a b n
    obtain rfl := hx
    cases hy
    refine ⟨?_, by simp, by simp⟩
    split at h
    · cases h
      refine (int_ok (by simp) (by simp) rfl).to ?_
      rintro _ rfl
      rw [wrapK_eq]
      show Value.int .i64 _ = _
      rw [wrap64_add]
      congr 2
      omega
    · cases h
      refine (int_ok (by simp) (by simp) rfl).to ?_
      rintro _ rfl
      rw [wrapK_eq]
      show Value.int .i64 _ = _
      rw [wrap64_sub]
      congr 2
      omega
    · cases h
      refine (int_ok (by simp) (by simp) rfl).to ?_
      rintro _ rfl
      rw [wrapK_eq]
      show Value.int .i64 _ = _
      rw [wrap64_mul, Int.add_mul, Int.mul_assoc, Int.mul_comm (Env.of l) n, ← Int.mul_assoc]
    · rw [Bool.cond_eq_ite] at h
      split at h
      · rename_i hc
        cases h
        simp only [Bool.and_eq_true, Bool.not_eq_true', decide_eq_true_eq] at hc
        obtain ⟨⟨⟨rfl, rfl⟩, rfl⟩, rfl⟩ := hc
        refine (int_ok (by simp) (by simp) rfl).to ?_
        rintro _ rfl
        show Value.int .i64 _ = Value.int .i64 _
        have e0 : (0 : Int) + 1 * Env.of false = Env.num := by show (0 : Int) + 1 * Env.num = _; omega
        have e1 : (0 : Int) + 1 * Env.of true = Env.num % 1048576 := by show (0 : Int) + 1 * (Env.num % 1048576) = _; omega
        rw [e0, e1]
        exact congrArg _ (low20 _)
      · cases h
    · rw [Bool.cond_eq_ite] at h
      split at h
      · rename_i hc
        rw [Bool.and_eq_true] at hc
        refine eqSym_int ?_ h
        have h1 := apart_ok hc.1
        have h2 : -9223372036854775808 ≤ n ∧ n < 9223372036854775808 := by simpa [inI64] using hc.2
        rw [beq_eq_false_iff_ne, IntKind.wrap_i64]
        generalize b * Env.of l = X at h1 ⊢
        omega
      · cases h
  · rename_i n l a b
    obtain rfl := hy
    cases hx
    refine ⟨?_, by simp, by simp⟩
    split at h
    · cases h
      refine (int_ok (by simp) (by simp) rfl).to ?_
      rintro _ rfl
      rw [wrapK_eq]
      show Value.int .i64 _ = _
      rw [wrap64_add']
      congr 2
      omega
    · cases h
      refine (int_ok (by simp) (by simp) rfl).to ?_
      rintro _ rfl
      rw [wrapK_eq]
      show Value.int .i64 _ = _
      rw [wrap64_sub', Int.sub_mul, Int.zero_mul]
      congr 2
      omega
    · cases h
      refine (int_ok (by simp) (by simp) rfl).to ?_
      rintro _ rfl
      rw [wrapK_eq]
      show Value.int .i64 _ = _
      rw [Int.mul_comm n, wrap64_mul, Int.add_mul, Int.mul_comm a n, Int.mul_assoc, Int.mul_comm (Env.of l) n, ← Int.mul_assoc, Int.mul_comm b n]
    · rw [Bool.cond_eq_ite] at h
      split at h
      · rename_i hc
        rw [Bool.and_eq_true] at hc
        refine eqSym_int ?_ h
        have h1 := apart_ok hc.1
        have h2 : -9223372036854775808 ≤ n ∧ n < 9223372036854775808 := by simpa [inI64] using hc.2
        rw [beq_eq_false_iff_ne, IntKind.wrap_i64]
        generalize b * Env.of l = X at h1 ⊢
        omega
      · cases h
  · rename_i l a b l' a' b'
    obtain rfl := hx
    obtain rfl := hy
    refine ⟨?_, by simp, by simp⟩
    rw [Bool.cond_eq_ite] at h
    split at h
    case isFalse => cases h
    rename_i hl
    obtain rfl := eq_of_beq hl
    split at h
    · cases h
      refine (int_ok (by simp) (by simp) rfl).to ?_
      rintro _ rfl
      rw [wrapK_eq]
      show Value.int .i64 _ = _
      rw [wrap64_add, wrap64_add', Int.add_mul]
      congr 2
      omega
    · cases h
      refine (int_ok (by simp) (by simp) rfl).to ?_
      rintro _ rfl
      rw [wrapK_eq]
      show Value.int .i64 _ = _
      rw [wrap64_sub, wrap64_sub', Int.sub_mul]
      congr 2
      omega
    · rw [Bool.cond_eq_ite] at h
      split at h
      · rename_i hc
        simp only [Bool.and_eq_true, decide_eq_true_eq] at hc
        obtain ⟨rfl, rfl⟩ := hc
        exact eqSym_int (beq_self_eq_true _) h
      · rw [Bool.cond_eq_ite] at h
        split at h
        · rename_i hc
          refine eqSym_int ?_ h
          have h1 := apart_ok hc
          rw [beq_eq_false_iff_ne, IntKind.wrap_i64, IntKind.wrap_i64]
          rw [Int.sub_mul] at h1
          generalize b * Env.of l = X at h1 ⊢
          generalize b' * Env.of l = Y at h1 ⊢
          omega
        · cases h
  · rename_i m r0 n
    obtain ⟨z, rfl, hz⟩ := hx
    cases hy
    refine ⟨?_, by simp, by simp⟩
    split at h
    · rw [Bool.cond_eq_ite] at h
      split at h
      · rename_i hc
        cases h
        simp only [Bool.and_eq_true, Bool.not_eq_true', decide_eq_true_eq, decide_eq_false_iff_not] at hc
        obtain ⟨rfl, hn⟩ := hc
        refine int_ok (by simp) (by simp) ?_
        simp only [binInt, beq_eq_false_iff_ne.2 hn, cond_false, hz]
      · cases h
    · cases h
  · rename_i k lo hi k' n
    obtain ⟨z, rfl, h1, h2⟩ := hx
    cases hy
    refine ⟨?_, by simp, by simp⟩
    rw [Bool.cond_eq_ite] at h
    split at h
    · rename_i hk
      obtain rfl := eq_of_beq hk
      exact rng_ok h1 h2 h
    · cases h
  · rename_i k' n k lo hi
    obtain ⟨z, rfl, h1, h2⟩ := hy
    cases hx
    refine ⟨?_, by simp, by simp⟩
    rw [Bool.cond_eq_ite] at h
    split at h
    · rename_i hk
      obtain rfl := eq_of_beq hk
      unfold intRng at h
      split at h
      · exact swap_ok (.inl ⟨rfl, rfl⟩) (rng_ok h1 h2 h)
      · exact swap_ok (.inr (.inl ⟨rfl, rfl⟩)) (rng_ok h1 h2 h)
      · exact swap_ok (.inr (.inr (.inl ⟨rfl, rfl⟩))) (rng_ok h1 h2 h)
      · exact swap_ok (.inr (.inr (.inr (.inl ⟨rfl, rfl⟩)))) (rng_ok h1 h2 h)
      · exact swap_ok (.inr (.inr (.inr (.inr (.inl ⟨rfl, rfl⟩))))) (rng_ok h1 h2 h)
      · exact swap_ok (.inr (.inr (.inr (.inr (.inr ⟨rfl, rfl⟩))))) (rng_ok h1 h2 h)
      · cases h
    · cases h
  · cases h
theorem rep_kind {x : AV} {u : Value} (hx : Rep β x u) (hns : ∀ s, x ≠ .sym s) : (∀ k n, u = .int k n → x = .int k n) ∧ (∀ s, u = .string s → ∃ l, x = .str l) ∧ (∀ k n, u = .float k n → x = .flt k n) ∧ ∀ k n m, u ≠ .complex k n m := by
  cases x <;> simp only [Rep] at hx <;>
    first
      | (exact absurd rfl (hns _))
      | (obtain rfl := hx; refine ⟨?_, ?_, ?_, ?_⟩ <;> simp)
      | (obtain ⟨_, _, _, rfl⟩ := hx; refine ⟨?_, ?_, ?_, ?_⟩ <;> simp)
      | (obtain ⟨_, _, _, _, rfl, _⟩ := hx; refine ⟨?_, ?_, ?_, ?_⟩ <;> simp)
      | (obtain ⟨_, _, rfl⟩ := hx; refine ⟨?_, ?_, ?_, ?_⟩ <;> simp)
      | (obtain ⟨_, rfl, _⟩ := hx; refine ⟨?_, ?_, ?_, ?_⟩ <;> simp)
theorem binAV_ok {op : BinOp} {t : TypeId} {x y : AV} {p q : Operand} {u v : Value} {r : AV} (h : binAV P op t x y = some r) (hx : Rep β x u) (hy : Rep β y v) :
    VG P (do eqGuard op t p q u v; binOp op t u v) β w r := by
  have join : ∀ {r : AV}, (eqGuard op t p q u v).run P w = .ok () w → VG P (binOp op t u v) β w r → VG P (do eqGuard op t p q u v; binOp op t u v) β w r := by
    rintro r hg ⟨z, hz, hr⟩
    exact ⟨z, by rw [Sem.run_bind, hg]; exact hz, hr⟩
  unfold binAV at h
  split at h
  · obtain ⟨h1, h2, h3⟩ := symBin_ok (t := t) (w := w) (P := P) h hx hy
    exact join (guard_pure (fun g => h2 g.1) (fun xs _ g => absurd g (h3 xs))) h1
  · obtain ⟨h1, h2, h3⟩ := symBin_ok (t := t) (w := w) (P := P) h hx hy
    exact join (guard_pure (fun g => h2 g.1) (fun xs _ g => absurd g (h3 xs))) h1
  · rename_i k a k' b
    cases hx
    cases hy
    refine join (guard_pure (by simp) (by simp)) ?_
    split at h
    · exact shift_ok (.inl rfl) h
    · exact shift_ok (.inr rfl) h
    · rename_i h1 h2
      cases hk : (k == k') with
      | false => rw [hk] at h; cases h
      | true =>
        rw [hk] at h
        obtain rfl := eq_of_beq hk
        exact int_ok h1 h2 h
  · cases hx
    cases hy
    exact join (guard_pure (by simp) (by simp)) (str_ok h)
  · rename_i hns _ _ _
    have hns : ∀ s, x ≠ .sym s := fun s e => hns s e
    split at h
    · split at h
      · rename_i b hb
        cases h
        obtain ⟨e1, e2, e3⟩ := eqAt_ok (w := w) hb hx hy
        obtain ⟨s1, s2, s3⟩ := eqAt_shape hb
        obtain ⟨k1, k2, k3, k4⟩ := rep_kind hx hns
        refine join (guard_pure e2 e3) ⟨.bool b, ?_, rfl⟩
        rw [(binOp_eql (t := t) (fun k n k' m g => s1 _ _ (k1 _ _ g.1)) (fun a b g => by obtain ⟨l, hl⟩ := k2 _ g.1; exact s2 _ hl) (fun k n k' m g => s3 _ _ (k3 _ _ g.1)) (fun k n m k' n' m' g => k4 _ _ _ g.1)).1]
        simp [e1]
      · cases h
    · split at h
      · rename_i b hb
        cases h
        obtain ⟨e1, e2, e3⟩ := eqAt_ok (w := w) hb hx hy
        obtain ⟨s1, s2, s3⟩ := eqAt_shape hb
        obtain ⟨k1, k2, k3, k4⟩ := rep_kind hx hns
        refine join (guard_pure e2 e3) ⟨.bool (!b), ?_, rfl⟩
        rw [(binOp_eql (t := t) (fun k n k' m g => s1 _ _ (k1 _ _ g.1)) (fun a b g => by obtain ⟨l, hl⟩ := k2 _ g.1; exact s2 _ hl) (fun k n k' m g => s3 _ _ (k3 _ _ g.1)) (fun k n m k' n' m' g => k4 _ _ _ g.1)).2]
        simp [e1]
      · cases h
    · cases h
end
end Ev
end Go.Proofs.Ytnelncafocgfhaa
