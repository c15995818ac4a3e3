/- Operations: numbers, texts, comparisons. -/
import Derived.Test.YtlgbmjdlgjdolaaGreatDoorEvOpsA
import Derived.ChangeKeysEq
import Derived.Laws.StructEq
namespace Go.Proofs.YtlgbmjdlgjdolaaGreatDoor
open Go.RowKit
namespace Ev
theorem wrapK_eq (k : IntKind) (n : Int) : wrapK k n = k.wrap n := by
  unfold wrapK
  split
  · rename_i m
    cases h : Nat.blt m 9223372036854775808 with
    | true =>
      have h' : m + 1 ≤ 9223372036854775808 := by simpa [Nat.blt, Nat.ble_eq] using h
      rw [cond_true, IntWalk.i64_in _ (by simp only [Int.ofNat_eq_natCast]; omega)]
    | false => rfl
  · rfl
section
variable {P : Program} {β : Beta} {w : World}
theorem guard_pure {op : BinOp} {t : TypeId} {x y : Operand} {a b : Value} (h : ¬ (a = .nilIface ∧ b = .nilIface)) (h2 : ∀ xs ys, a = .agg xs → b = .agg ys → P.eqGuardType P.depth t = false) : (eqGuard op t x y a b).run P w = .ok () w := by
  unfold eqGuard
  cases op <;> first
    | rfl
    | (simp only [Bool.not_true, Bool.false_eq_true, if_false]
       split
       · exact absurd ⟨rfl, rfl⟩ h
       · simp [h2 _ _ rfl rfl]
       · rfl)
theorem int_ok {op : BinOp} {t : TypeId} {k : IntKind} {a b : Int} {v : AV} (h1 : op ≠ .shl) (h2 : op ≠ .shr) (h : binInt op k a b = some v) : VG P (binOp op t (.int k a) (.int k b)) β w v := by
  cases op <;> first | exact absurd rfl h1 | exact absurd rfl h2 | skip
  case quo =>
    simp only [binInt] at h
    cases hb : (b == 0) with
    | true => rw [hb] at h; cases h
    | false =>
      rw [hb] at h
      cases h
      have : b ≠ 0 := by simpa using hb
      exact ⟨.int k (k.wrap (a.tdiv b)), by simp [binOp, Op.intDiv, this], by rw [wrapK_eq]; rfl⟩
  case rem =>
    simp only [binInt] at h
    cases hb : (b == 0) with
    | true => rw [hb] at h; cases h
    | false =>
      rw [hb] at h
      cases h
      have : b ≠ 0 := by simpa using hb
      exact ⟨.int k (a.tmod b), by simp [binOp, Op.intDiv, this], rfl⟩
  all_goals
    simp only [binInt] at h
    cases h
    refine ⟨_, by simp only [binOp, ne_eq, not_true_eq_false, if_false, Op.intArith, Op.intBits, Op.intCmp, Sem.run_pure]; rfl, ?_⟩
    first | rfl | (rw [wrapK_eq]; rfl)
theorem shift_ok {op : BinOp} {t : TypeId} {k k' : IntKind} {a b : Int} {v : AV} (h1 : op = .shl ∨ op = .shr) (h : shiftInt op k a b = some v) : VG P (binOp op t (.int k a) (.int k' b)) β w v := by
  unfold shiftInt at h
  cases hb : decide (b < 0) with
  | true => rw [hb] at h; cases h
  | false =>
    rw [hb] at h
    have hn : ¬ b < 0 := of_decide_eq_false hb
    rcases h1 with rfl | rfl <;> simp only [cond_false] at h <;> cases h
    · exact ⟨_, by simp only [binOp, Op.shift, hn, if_false, Sem.run_pure], rfl⟩
    · exact ⟨_, by simp only [binOp, Op.shift, hn, if_false, Sem.run_pure], rfl⟩
theorem sameBytes_eq : ∀ (x y : List UInt8), sameBytes x y = (x == y)
  | [], [] => rfl
  | [], _ :: _ => rfl
  | _ :: _, [] => rfl
  | a :: x, b :: y => by
    rw [sameBytes, sameBytes_eq x y, List.cons_beq_cons]
    congr 1
    rw [Bool.eq_iff_iff, Nat.beq_eq, beq_iff_eq]
    exact ⟨fun h => UInt8.toNat_inj.1 h, fun h => by rw [h]⟩
theorem lessBytes_eq : ∀ (x y : List UInt8), lessBytes x y = Op.bytesLess x y
  | x, [] => by cases x <;> rfl
  | [], _ :: _ => rfl
  | a :: x, b :: y => by
    rw [lessBytes, Op.bytesLess, lessBytes_eq x y]
    have h1 : Nat.blt a.toNat b.toNat = decide (a < b) := by
      rw [Bool.eq_iff_iff, decide_eq_true_iff, UInt8.lt_iff_toNat_lt, Nat.blt, Nat.ble_eq]
      omega
    have h2 : Nat.beq a.toNat b.toNat = (a == b) := by
      rw [Bool.eq_iff_iff, Nat.beq_eq, beq_iff_eq]
      exact ⟨fun h => UInt8.toNat_inj.1 h, fun h => by rw [h]⟩
    rw [h1, h2]
theorem toList_mk (l : List UInt8) : (ByteArray.mk l.toArray).toList = l := by
  rw [ByteArray.toList_eq]
theorem size_mk (l : List UInt8) : (ByteArray.mk l.toArray).size = l.length := by simp [ByteArray.size]
theorem append_mk (x y : List UInt8) : (ByteArray.mk x.toArray) ++ (ByteArray.mk y.toArray) = ByteArray.mk (x ++ y).toArray := by
  apply ByteArray.ext
  rw [ByteArray.data_append]
  simp
theorem str_ok {op : BinOp} {t : TypeId} {a b : List UInt8} {v : AV} (h : binStr op a b = some v) : VG P (binOp op t (.string ⟨a.toArray⟩) (.string ⟨b.toArray⟩)) β w v := by
  cases op <;> simp only [binStr] at h <;> try cases h
  case add =>
    cases hc : Nat.blt (a.length + b.length) 9223372036854775807 with
    | false => rw [hc] at h; cases h
    | true =>
      rw [hc] at h
      cases h
      have h' : a.length + b.length + 1 ≤ 9223372036854775807 := by simpa [Nat.blt, Nat.ble_eq] using hc
      refine ⟨.string ⟨(a ++ b).toArray⟩, ?_, rfl⟩
      have hm : ¬ (((a.length + b.length : Nat) : Int) > IntKind.i64.max) := by
        have : IntKind.i64.max = 9223372036854775807 := by decide
        omega
      simp only [binOp, Op.stringOp, size_mk, hm, if_false, Sem.run_pure, append_mk]
  all_goals
    exact ⟨_, by simp only [binOp, Op.stringOp, toList_mk, Sem.run_pure]; rfl, by simp only [Rep, lessBytes_eq, sameBytes_eq]⟩
theorem eqInts_ok {e : TypeId} {j : TI} {k0 : IntKind} (hj : ti P e = some j) (hd : j.d = .int k0) (h1 : j.size = 1) (d : Nat) (xs ys : Array Value) : ∀ (n o : Nat) (l r : List AV) (b : Bool), eqInts n l r = some b → Reps β l (xs.toList.drop o) → Reps β r (ys.toList.drop o) →
    (Op.eqItems (d + 1) e 1 xs ys (List.range' o n)).run P w = .ok b w
  | 0, _, [], [], b, h, _, _ => by cases h; rfl
  | n + 1, o, a :: l, a' :: r, b, h, ha, hb => by
    cases a with
    | int k x =>
      cases a' with
      | int k' y =>
        simp only [eqInts] at h
        obtain ⟨u, m, e1, rfl, hl⟩ := ha
        obtain ⟨u', m', e2, rfl, hr⟩ := hb
        have hx : xs[o]? = some (.int k x) := by
          have := congrArg List.head? e1
          simpa using this
        have hy : ys[o]? = some (.int k' y) := by
          have := congrArg List.head? e2
          simpa using this
        have hag : j.isAgg = false := by unfold TI.isAgg; rw [hd]
        have px : (part e xs (o * 1)).run P w = .ok (.int k x) w := by
          rw [Nat.mul_one]
          simp only [part, Sem.run_bind, run_aggq hj, hag, Result.andThen_ok, Bool.false_eq_true, if_false, hx, Sem.run_pure]
        have py : (part e ys (o * 1)).run P w = .ok (.int k' y) w := by
          rw [Nat.mul_one]
          simp only [part, Sem.run_bind, run_aggq hj, hag, Result.andThen_ok, Bool.false_eq_true, if_false, hy, Sem.run_pure]
        rw [List.range'_succ]
        simp only [Op.eqItems, Sem.run_bind, px, py, Result.andThen_ok]
        cases hk : (k == k') with
        | false => rw [hk] at h; cases h
        | true =>
          rw [hk] at h
          obtain rfl := eq_of_beq hk
          have he : (Op.equalIn (d + 1) e (.int k x) (.int k y)).run P w = .ok (x == y) w := by
            obtain ⟨info, z, a, g1, g2, _⟩ := ti_spec hj
            exact run_equalIn_int w d e k k0 x y (by rw [g2, hd])
          rw [he]
          simp only [cond_true] at h
          cases hxy : (x == y) with
          | false =>
            rw [hxy] at h
            cases h
            simp
          | true =>
            rw [hxy] at h
            simp only [cond_true] at h
            simp only [Result.andThen_ok, Bool.not_true, Bool.false_eq_true, if_false]
            refine eqInts_ok hj hd h1 d xs ys n (o + 1) l r b h ?_ ?_
            · have := congrArg List.tail e1
              simp only [List.tail_drop, List.tail_cons] at this
              rw [this]; exact hl
            · have := congrArg List.tail e2
              simp only [List.tail_drop, List.tail_cons] at this
              rw [this]; exact hr
      | _ => simp [eqInts] at h
    | _ => simp [eqInts] at h
  | 0, _, [], _ :: _, _, h, _, _ => by simp [eqInts] at h
  | 0, _, _ :: _, [], _, h, _, _ => by simp [eqInts] at h
  | 0, _, _ :: _, _ :: _, _, h, _, _ => by simp [eqInts] at h
  | n + 1, _, [], _, _, h, _, _ => by simp [eqInts] at h
  | n + 1, _, _ :: _, [], _, h, _, _ => by simp [eqInts] at h
theorem eqAV_ok {t : TypeId} {d : TypeDesc} (hun : (underlying t).run P w = .ok d w) (D : Nat) {x y : AV} {u v : Value} {b : Bool} (c1 : eqDesc d x = true) (c2 : eqDesc d y = true) (h : eqAV x y = some b) (hx : Rep β x u) (hy : Rep β y v) :
    (Op.equalIn (D + 1) t u v).run P w = .ok b w ∧ ¬ (u = .nilIface ∧ v = .nilIface) ∧ ∀ xs ys, u = .agg xs → v = .agg ys → P.eqGuardType P.depth t = false := by
  cases x <;> cases y <;> simp only [eqAV, reduceCtorEq, Option.some.injEq] at h
  all_goals
    cases d <;> simp only [eqDesc, reduceCtorEq, Bool.false_eq_true] at c1 c2
    subst h
    simp only [Rep] at hx hy
    first | (obtain rfl := hx) | (obtain ⟨_, _, _, rfl⟩ := hx) | (obtain ⟨_, _, _, _, rfl, _⟩ := hx) | (obtain ⟨_, _, rfl⟩ := hx) | (obtain ⟨_, rfl, _⟩ := hx)
    first | (obtain rfl := hy) | (obtain ⟨_, _, _, rfl⟩ := hy) | (obtain ⟨_, _, _, _, rfl, _⟩ := hy) | (obtain ⟨_, _, rfl⟩ := hy) | (obtain ⟨_, rfl, _⟩ := hy)
    refine ⟨?_, fun g => (by cases g.1 <;> cases g.2), fun _ _ g _ => (by cases g)⟩
    simp only [Op.equalIn, Sem.run_bind, hun, Result.andThen_ok, Sem.run_pure]
    try rfl
theorem eqBig_ok {t : TypeId} {i : TI} (hi : ti P t = some i) (D : Nat) {x y : AV} {u v : Value} {b : Bool} (h : eqBig P t i.d x y = some b) (hx : Rep β x u) (hy : Rep β y v) :
    (Op.equalIn (D + 2) t u v).run P w = .ok b w ∧ ¬ (u = .nilIface ∧ v = .nilIface) ∧ ∀ xs ys, u = .agg xs → v = .agg ys → P.eqGuardType P.depth t = false := by
  have hun := run_under hi w
  unfold eqBig at h
  split at h
  case h_3 => cases h
  case h_1 n e l r hd =>
    split at h
    case h_2 => cases h
    case h_1 j hj =>
    split at h
    case h_2 => cases h
    case h_1 k0 hjd =>
    cases hc : (j.size == 1 && !P.eqGuardType P.depth t) with
    | false => rw [hc] at h; cases h
    | true =>
      rw [hc] at h
      simp only [Bool.and_eq_true, beq_iff_eq, Bool.not_eq_true'] at hc
      obtain ⟨us, rfl, hl⟩ := hx
      obtain ⟨vs, rfl, hr⟩ := hy
      refine ⟨?_, fun g => (by cases g.1), fun _ _ _ _ => hc.2⟩
      obtain ⟨info, z, a, g1, g2, g3, _⟩ := ti_spec hj
      obtain ⟨info', z', a', g1', g2', _⟩ := ti_spec hi
      have hco : P.cellsOf e = 1 := by unfold Program.cellsOf; rw [g1]; simp [g3, hc.1]
      rw [run_equalIn_array w (D + 1) us vs (by rw [g2', hd]) g1, hco, List.range_eq_range']
      exact eqInts_ok hj hjd hc.1 D us vs n 0 l r b h (by simpa using hl) (by simpa using hr)
  case h_2 e a k c m hd =>
    split at h
    case h_2 => cases h
    case h_1 j hj =>
    cases hz : (j.size == 0) with
    | true => rw [hz] at h; cases h
    | false =>
      rw [hz] at h
      simp only [cond_false] at h
      cases hab : (a == c) with
      | false => rw [hab] at h; cases h
      | true =>
        rw [hab] at h
        cases h
        obtain rfl := eq_of_beq hab
        obtain ⟨nb, tt, hb, rfl⟩ := hx
        obtain ⟨nb', tt', hb', rfl⟩ := hy
        rw [hb] at hb'
        cases hb'
        refine ⟨?_, fun g => (by cases g.1), fun _ _ g _ => (by cases g)⟩
        have hz' : j.size ≠ 0 := by simpa using hz
        rw [hd] at hun
        simp only [Op.equalIn, Sem.run_bind, hun, Result.andThen_ok, run_size hj, ne_eq, hz', not_false_eq_true, if_true, sameAddr, beq_self_eq_true, Sem.run_pure]
        congr 1
        rw [Bool.eq_iff_iff]
        simp
/-- '==' of what is neither a number nor a text. -/
theorem eqAt_ok {t : TypeId} {x y : AV} {u v : Value} {b : Bool} (h : eqAt P t x y = some b) (hx : Rep β x u) (hy : Rep β y v) :
    (Op.equal t u v).run P w = .ok b w ∧ ¬ (u = .nilIface ∧ v = .nilIface) ∧ ∀ xs ys, u = .agg xs → v = .agg ys → P.eqGuardType P.depth t = false := by
  unfold eqAt at h
  split at h
  case h_2 => cases h
  case h_1 i hi =>
  split at h
  case h_1 b' hb => cases h; exact eqBig_ok hi 9998 hb hx hy
  case h_2 hb =>
    cases hc : (eqDesc i.d x && eqDesc i.d y) with
    | false => rw [hc] at h; cases h
    | true =>
      rw [hc] at h
      simp only [Bool.and_eq_true] at hc
      exact eqAV_ok (run_under hi w) 9999 hc.1 hc.2 h hx hy
theorem binOp_eql {t : TypeId} {u v : Value} (h1 : ∀ k n k' m, ¬ (u = .int k n ∧ v = .int k' m)) (h2 : ∀ a b, ¬ (u = .string a ∧ v = .string b)) (h3 : ∀ k n k' m, ¬ (u = .float k n ∧ v = .float k' m)) (h4 : ∀ k n m k' n' m', ¬ (u = .complex k n m ∧ v = .complex k' n' m')) :
    binOp .eql t u v = (do pure (.bool (← Op.equal t u v))) ∧ binOp .neq t u v = (do pure (.bool (!(← Op.equal t u v)))) := by
  cases u <;> cases v <;> first
    | exact absurd ⟨rfl, rfl⟩ (h1 _ _ _ _)
    | exact absurd ⟨rfl, rfl⟩ (h2 _ _)
    | exact absurd ⟨rfl, rfl⟩ (h3 _ _ _ _)
    | exact absurd ⟨rfl, rfl⟩ (h4 _ _ _ _ _ _)
    | exact ⟨rfl, rfl⟩
theorem eqAt_shape {t : TypeId} {x y : AV} {b : Bool} (h : eqAt P t x y = some b) : (∀ k n, x ≠ .int k n) ∧ (∀ s, x ≠ .str s) ∧ (∀ k n, x ≠ .flt k n) := by
  unfold eqAt at h
  split at h
  case h_2 => cases h
  case h_1 i hi =>
  split at h
  case h_1 b' hb =>
    unfold eqBig at hb
    split at hb <;> first | (cases hb; done) | exact ⟨by simp, by simp, by simp⟩
  case h_2 hb =>
    cases hc : (eqDesc i.d x && eqDesc i.d y) with
    | false => rw [hc] at h; cases h
    | true =>
      rw [hc] at h
      simp only [cond_true] at h
      cases x <;> first | (cases y <;> simp [eqAV] at h; done) | exact ⟨by simp, by simp, by simp⟩
theorem rep_kind {x : AV} {u : Value} (hx : Rep β x u) : (∀ k n, u = .int k n → x = .int k n) ∧ (∀ s, u = .string s → ∃ l, x = .str l) ∧ (∀ k n, u = .float k n → x = .flt k n) ∧ ∀ k n m, u ≠ .complex k n m := by
  cases x <;> simp only [Rep] at hx <;>
    first
      | (obtain rfl := hx; refine ⟨?_, ?_, ?_, ?_⟩ <;> simp)
      | (obtain ⟨_, _, _, rfl⟩ := hx; refine ⟨?_, ?_, ?_, ?_⟩ <;> simp)
      | (obtain ⟨_, _, _, _, rfl, _⟩ := hx; refine ⟨?_, ?_, ?_, ?_⟩ <;> simp)
      | (obtain ⟨_, _, rfl⟩ := hx; refine ⟨?_, ?_, ?_, ?_⟩ <;> simp)
      | (obtain ⟨_, rfl, _⟩ := hx; refine ⟨?_, ?_, ?_, ?_⟩ <;> simp)
theorem binAV_ok {op : BinOp} {t : TypeId} {x y : AV} {p q : Operand} {u v : Value} {r : AV} (h : binAV P op t x y = some r) (hx : Rep β x u) (hy : Rep β y v) :
    VG P (do eqGuard op t p q u v; binOp op t u v) β w r := by
  have join : ∀ {r : AV}, (eqGuard op t p q u v).run P w = .ok () w → VG P (binOp op t u v) β w r → VG P (do eqGuard op t p q u v; binOp op t u v) β w r := by
    rintro r hg ⟨z, hz, hr⟩
    exact ⟨z, by rw [Sem.run_bind, hg]; exact hz, hr⟩
  unfold binAV at h
  split at h
  · rename_i k a k' b
    cases hx
    cases hy
    refine join (guard_pure (by simp) (by simp)) ?_
    split at h
    · exact shift_ok (.inl rfl) h
    · exact shift_ok (.inr rfl) h
    · rename_i h1 h2
      cases hk : (k == k') with
      | false => rw [hk] at h; cases h
      | true =>
        rw [hk] at h
        obtain rfl := eq_of_beq hk
        exact int_ok h1 h2 h
  · cases hx
    cases hy
    exact join (guard_pure (by simp) (by simp)) (str_ok h)
  · split at h
    · split at h
      · rename_i b hb
        cases h
        obtain ⟨e1, e2, e3⟩ := eqAt_ok (w := w) hb hx hy
        obtain ⟨s1, s2, s3⟩ := eqAt_shape hb
        obtain ⟨k1, k2, k3, k4⟩ := rep_kind hx
        refine join (guard_pure e2 e3) ⟨.bool b, ?_, rfl⟩
        rw [(binOp_eql (t := t) (fun k n k' m g => s1 _ _ (k1 _ _ g.1)) (fun a b g => by obtain ⟨l, hl⟩ := k2 _ g.1; exact s2 _ hl) (fun k n k' m g => s3 _ _ (k3 _ _ g.1)) (fun k n m k' n' m' g => k4 _ _ _ g.1)).1]
        simp [e1]
      · cases h
    · split at h
      · rename_i b hb
        cases h
        obtain ⟨e1, e2, e3⟩ := eqAt_ok (w := w) hb hx hy
        obtain ⟨s1, s2, s3⟩ := eqAt_shape hb
        obtain ⟨k1, k2, k3, k4⟩ := rep_kind hx
        refine join (guard_pure e2 e3) ⟨.bool (!b), ?_, rfl⟩
        rw [(binOp_eql (t := t) (fun k n k' m g => s1 _ _ (k1 _ _ g.1)) (fun a b g => by obtain ⟨l, hl⟩ := k2 _ g.1; exact s2 _ hl) (fun k n k' m g => s3 _ _ (k3 _ _ g.1)) (fun k n m k' n' m' g => k4 _ _ _ g.1)).2]
        simp [e1]
      · cases h
    · cases h
end
end Ev
end Go.Proofs.YtlgbmjdlgjdolaaGreatDoor
