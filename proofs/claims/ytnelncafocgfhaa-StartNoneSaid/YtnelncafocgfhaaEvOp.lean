/- Every operation that is no call of a Go function. -/
import Derived.Test.YtnelncafocgfhaaEvOpsF
namespace Go.Proofs.Ytnelncafocgfhaa
open Go.RowKit
namespace Ev
set_option linter.unusedSectionVars false
variable [Env]
/-- An operation's run: what the runner says comes of it. -/
def OG (P : Program) (x : Sem Next) (lo : Nat) (β : Beta) (s : St) (w : World) (v : AV) (s' : St) : Prop :=
  ∃ u w' β', (x.run P w = .ok (.value u) w' ∨ (x.run P w = .ok .skip w' ∧ u = undef)) ∧ Ext lo β s w β' s' w' ∧ Rep β' v u
section
variable {P : Program} {β : Beta} {w : World} {s : St} {lo : Nat} {ρ : Operand → Value} {fr : Tr AV}
theorem OG.val {x : Sem Value} {v : AV} {s' : St} (h : SG P x lo β s w v s') : OG P (do pure (Next.value (← x))) lo β s w v s' := by
  obtain ⟨u, w', β', h1, h2, h3⟩ := h
  exact ⟨u, w', β', .inl (by rw [Sem.run_bind, h1]; rfl), h2, h3⟩
theorem OG.look (hs : Sit β s w) {x : Sem Value} {v : AV} (h : VG P x β w v) : OG P (do pure (Next.value (← x))) lo β s w v s := by
  obtain ⟨u, h1, h2⟩ := h
  exact .val (.stay hs h1 h2)
theorem OG.unit {x : Sem Unit} {s' : St} (h : SU P x lo β s w s') : OG P (do x; pure Next.skip) lo β s w (.tup []) s' := by
  obtain ⟨w', β', h1, h2⟩ := h
  exact ⟨undef, w', β', .inr ⟨by rw [Sem.run_bind, h1]; rfl, rfl⟩, h2, _, rfl, rfl⟩
/-- The operands' values. -/
def OpsRep (P : Program) (β : Beta) (fr : Tr AV) (ρ : Operand → Value) (l : List Operand) : Prop := ∀ x ∈ l, ∀ v, opnd P fr x = some v → Rep β v (ρ x)
theorem opnds_ok : ∀ {l : List Operand} {as : List AV}, OpsRep P β fr ρ l → opnds P fr l = some as → Reps β as (l.map ρ)
  | [], _, _, h => by cases h; rfl
  | x :: l, as, hρ, h => by
    simp only [opnds] at h
    split at h
    · rename_i v hv
      split at h
      · rename_i r hr
        cases h
        exact ⟨ρ x, l.map ρ, rfl, hρ x (by simp) v hv, opnds_ok (fun y hy => hρ y (by simp [hy])) hr⟩
      · cases h
    · cases h
theorem opndParts_ok : ∀ {l : List (Nat × Operand)} {as : List (Nat × AV)}, OpsRep P β fr ρ (l.map (·.2)) → opndParts P fr l = some as → PartsRep β as (l.map fun (i, x) => (i, ρ x))
  | [], _, _, h => by cases h; rfl
  | (i, x) :: l, as, hρ, h => by
    simp only [opndParts] at h
    split at h
    · rename_i v hv
      split at h
      · rename_i r hr
        cases h
        exact ⟨ρ x, _, rfl, hρ x (by simp) v hv, opndParts_ok (fun y hy => hρ y (by simp [hy])) hr⟩
      · cases h
    · cases h
theorem opndOpt_ok {x : Option Operand} {v : Option AV} (hρ : OpsRep P β fr ρ x.toList) (h : opndOpt P fr x = some v) : OptRep β v (x.map ρ) := by
  cases x with
  | none => cases h; rfl
  | some x =>
    simp only [opndOpt] at h
    split at h
    · rename_i u hu
      cases h
      exact ⟨ρ x, rfl, hρ x (by simp) u hu⟩
    · cases h
theorem evOp_ok (hs : Sit β s w) {dst : Option Tmp} {op : Op} {ty : TypeId} {pos : String} {after : Array Edge} {guard : Option (Nat × Bool)} (hρ : OpsRep P β fr ρ op.operands.toList) {v : AV} {s' : St} (h : evOp P lo fr s op = some (v, s')) :
    OG P (execOp ρ ⟨dst, op, ty, pos, after, guard⟩) lo β s w v s' := by
  cases op <;> try (simp [evOp] at h; done)
  case move x =>
    simp only [evOp, evMove] at h
    split at h
    case h_2 => cases h
    case h_1 a ha =>
    cases h
    exact ⟨ρ x, w, β, .inl rfl, Ext.refl hs, hρ x (by simp [Op.operands]) _ ha⟩
  case assign x =>
    simp only [evOp, evAssign] at h
    split at h
    case h_2 => cases h
    case h_1 a ha =>
    cases h
    exact ⟨ρ x, w, β, .inl rfl, Ext.refl hs, hρ x (by simp [Op.operands]) _ ha⟩
  case pick c a b =>
    simp only [evOp, evPick] at h
    split at h
    case h_2 => cases h
    case h_1 t ht =>
    split at h
    case h_2 => cases h
    case h_1 r hr =>
    cases h
    have hc : ρ c = .bool t := hρ c (by simp [Op.operands]) _ ht
    refine ⟨if t then ρ a else ρ b, w, β, .inl ?_, Ext.refl hs, ?_⟩
    · simp [execOp, hc, asBool]
    · cases t
      · exact hρ b (by simp [Op.operands]) _ hr
      · exact hρ a (by simp [Op.operands]) _ hr
  case alloc T =>
    simp only [evOp, evAlloc] at h
    split at h
    case h_2 => cases h
    case h_1 i hi =>
    cases h
    exact .val (alloc_ok hs hi)
  case box T x =>
    simp only [evOp, evBox] at h
    split at h
    case h_2 => cases h
    case h_1 a ha =>
    cases h
    exact .val (box_ok hs (hρ x (by simp [Op.operands]) _ ha))
  case build t parts =>
    simp only [evOp, evBuild] at h
    split at h
    case h_1 => cases h
    case h_2 i hi =>
    split at h
    case h_1 => cases h
    case h_2 ps hps =>
    have hq : PartsRep β ps (parts.map fun (i, x) => (i, ρ x)).toList := by
      rw [Array.toList_map]; exact opndParts_ok (by simpa [Op.operands] using hρ) hps
    split at h
    case h_1 fs hd =>
      split at h
      case h_1 => cases h
      case h_2 pl hpl =>
      split at h
      case h_1 => cases h
      case h_2 l hl =>
      cases h
      exact .val (build_struct_ok hs hi hd hpl hq hl)
    case h_2 n e hd =>
      split at h
      case h_1 => cases h
      case h_2 j hj =>
      split at h
      case h_1 => cases h
      case h_2 l hl =>
      cases h
      exact .val (build_array_ok hs hi hd hj hq hl)
    case h_3 => cases h
  case buildSlice t len parts =>
    simp only [evOp, evBuildSlice] at h
    split at h
    case h_1 => cases h
    case h_2 i hi =>
    split at h
    case h_1 => cases h
    case h_2 ps hps =>
    have hq : PartsRep β ps (parts.map fun (i, x) => (i, ρ x)).toList := by
      rw [Array.toList_map]; exact opndParts_ok (by simpa [Op.operands] using hρ) hps
    split at h
    case h_2 => cases h
    case h_1 e hd =>
    split at h
    case h_1 => cases h
    case h_2 j hj =>
    cases hc : (Nat.ble (len * j.size) 1048576 && (j.zero.length == j.size)) with
    | false => rw [hc] at h; cases h
    | true =>
      rw [hc] at h
      simp only [cond_true] at h
      simp only [Bool.and_eq_true] at hc
      split at h
      case h_1 => cases h
      case h_2 l hl =>
      cases h
      exact .val (buildSlice_ok hs hi hd hj hc.1 hc.2 hq hl)
  case load t a =>
    simp only [evOp, evLoad] at h
    split at h
    case h_2 => cases h
    case h_1 b off ha =>
    split at h
    case h_1 => cases h
    case h_2 i hi =>
    split at h
    case h_2 => cases h
    case h_1 r hr =>
    cases h
    exact .look hs (load_ok hs hi (hρ a (by simp [Op.operands]) _ ha) hr)
  case store t a x =>
    simp only [evOp, evStore] at h
    split at h
    case h_2 => cases h
    case h_1 b off ha =>
    split at h
    case h_1 => cases h
    case h_2 i hi =>
    split at h
    case h_1 => cases h
    case h_2 r hr =>
    cases hc : (r.cells.length == i.size) with
    | false => rw [hc] at h; cases h
    | true =>
      rw [hc] at h
      simp only [cond_true] at h
      split at h
      case h_2 => cases h
      case h_1 s1 hst =>
      cases h
      exact .unit (store_ok hs hi (hρ a (by simp [Op.operands]) _ ha) (hρ x (by simp [Op.operands]) _ hr) hc hst)
  case nilCheck x =>
    simp only [evOp, evNilCheck] at h
    split at h
    case h_5 => cases h
    case h_1 b off ha =>
      cases h
      obtain ⟨n, t, e, hx⟩ := hρ x (by simp [Op.operands]) _ ha
      exact ⟨_, w, β, .inl (by simp only [execOp, hx]; rfl), Ext.refl hs, n, t, e, rfl⟩
    case h_2 f cap ha =>
      cases h
      obtain ⟨vs, hx, hr⟩ := hρ x (by simp [Op.operands]) _ ha
      exact ⟨_, w, β, .inl (by simp only [execOp, hx]; rfl), Ext.refl hs, vs, rfl, hr⟩
    case h_3 b o l c ha =>
      cases h
      obtain ⟨n, t, c', e, hx, hr⟩ := hρ x (by simp [Op.operands]) _ ha
      exact ⟨_, w, β, .inl (by simp only [execOp, hx]; rfl), Ext.refl hs, n, t, c', e, rfl, hr⟩
    case h_4 b ha =>
      cases h
      obtain ⟨n, t, e, hx⟩ := hρ x (by simp [Op.operands]) _ ha
      exact ⟨_, w, β, .inl (by simp only [execOp, hx]; rfl), Ext.refl hs, n, t, e, rfl⟩
  case binOp op t x y yt =>
    simp only [evOp, evBinOp] at h
    split at h
    case h_1 => cases h
    case h_2 a ha =>
    split at h
    case h_1 => cases h
    case h_2 b hb =>
    split at h
    case h_2 => cases h
    case h_1 r hr =>
    cases h
    exact .look hs (binAV_ok hr (hρ x (by simp [Op.operands]) _ ha) (hρ y (by simp [Op.operands]) _ hb))
  case unOp op t x =>
    simp only [evOp, evUnOp] at h
    split at h
    case h_1 => cases h
    case h_2 a ha =>
    split at h
    case h_2 => cases h
    case h_1 r hr =>
    cases h
    exact .look hs (un_ok hr (hρ x (by simp [Op.operands]) _ ha))
  case convert src dst x =>
    simp only [evOp, evConvert] at h
    split at h
    case h_1 => cases h
    case h_2 a ha =>
    have hx := hρ x (by simp [Op.operands]) _ ha
    split at h
    case h_1 b off n cap =>
      split at h
      case h_2 => cases h
      case h_1 i j hi hj =>
      split at h
      case h_2 => cases h
      case h_1 e hid hjd =>
      split at h
      case h_2 => cases h
      case h_1 k hk =>
      split at h
      case h_2 => cases h
      case h_1 hkd =>
      split at h
      case h_2 => cases h
      case h_1 l hl =>
      split at h
      case h_2 => cases h
      case h_1 bs hbs =>
      cases h
      obtain ⟨vs, hv1, hv2⟩ := firstAV_ok (P := P) hs hl hx
      obtain ⟨nb, tt, c, hbe, hxe, _⟩ := hx
      have hl' : (loadCells ⟨nb, off, none⟩ n).run P w = .ok vs.toArray w := by
        have := hv1 w rfl
        rw [hxe] at this
        simpa only [Builtin.firstCells, Nat.mul_one] using this
      have := conv_bytes_ok (β := β) hi hj hk hid hjd hkd (cap := c) hl' hv2 hbs
      rw [← hxe] at this
      exact .look hs this
    case h_2 =>
      split at h
      case h_2 => cases h
      case h_1 r hr =>
      cases h
      exact .look hs (conv_ok hr hx)
  case makeInterface t x =>
    simp only [evOp, evMakeInterface] at h
    split at h
    case h_1 => cases h
    case h_2 i hi =>
    split at h
    case h_1 => cases h
    case h_2 hd =>
    split at h
    case h_2 => cases h
    case h_1 a ha =>
    cases h
    have hx := hρ x (by simp [Op.operands]) _ ha
    refine .look hs ⟨.iface t (ρ x), ?_, _, rfl, hx⟩
    have hun := run_under hi w
    simp only [Instr.makeInterface, Sem.run_bind, hun, Result.andThen_ok]
    first | rfl | (split <;> first | rfl | exact absurd ‹_› (hd _))
  case makeFunc fn first captured =>
    cases fn <;> try (simp [evOp] at h; done)
    case func f =>
    simp only [evOp, evMakeFunc] at h
    cases hf : first.isEmpty with
    | false => rw [hf] at h; cases h
    | true =>
      rw [hf] at h
      simp only [cond_true] at h
      split at h
      case h_2 => cases h
      case h_1 l hl =>
      cases h
      have hfe : first = #[] := by simpa using hf
      subst hfe
      have hr := opnds_ok (l := captured.toList) (by simpa [Op.operands] using hρ) hl
      exact .look hs ⟨.func (.func f) #[] (captured.map ρ), by simp [Instr.makeFunc], _, rfl, by rw [Array.toList_map]; exact hr⟩
  case makeMap t r =>
    cases r with
    | some x => simp [evOp] at h
    | none =>
      simp only [evOp, evMakeMap] at h
      split at h
      case h_1 => cases h
      case h_2 i hi =>
      cases h
      exact .val (makeMap_ok hs t)
  case makeSlice t l c =>
    simp only [evOp, evMakeSlice] at h
    split at h
    case h_1 => cases h
    case h_2 i hi =>
    split at h
    case h_2 => cases h
    case h_1 e hd =>
    split at h
    case h_1 => cases h
    case h_2 j hj =>
    split at h
    case h_2 => cases h
    case h_1 kl len kc cap hl hc =>
    cases hq : (decide (0 ≤ len) && decide (len ≤ cap) && decide (cap ≤ 1048576) && Nat.ble j.bytes 1048576 && (Nat.blt 0 j.zero.length && (j.zero.length == j.size))) with
    | false => rw [hq] at h; cases h
    | true =>
      rw [hq] at h
      cases h
      simp only [Bool.and_eq_true, decide_eq_true_eq, Nat.ble_eq, beq_iff_eq] at hq
      obtain ⟨⟨⟨⟨q1, q2⟩, q3⟩, q4⟩, q5, q6⟩ := hq
      have e1 : ρ l = .int kl len := hρ l (by simp [Op.operands]) _ hl
      have e2 : ρ c = .int kc cap := hρ c (by simp [Op.operands]) _ hc
      have q5' : 0 < j.zero.length := by
        have : 0 + 1 ≤ j.zero.length := by simpa [Nat.blt, Nat.ble_eq] using q5
        omega
      have := makeSlice_ok (P := P) (lo := lo) hs hi hd hj (kl := kl) (kc := kc) q1 q2 q3 q4 q5' q6
      rw [← e1, ← e2] at this
      exact .val this
  case slice t x lo' hi mx =>
    simp only [evOp, evSlice] at h
    split at h
    case h_1 => cases h
    case h_2 a ha =>
    split at h
    case h_1 => cases h
    case h_2 l hl =>
    split at h
    case h_1 => cases h
    case h_2 hh hhh =>
    split at h
    case h_1 => cases h
    case h_2 m hm =>
    split at h
    case h_2 => cases h
    case h_1 r hr =>
    cases h
    have hx := hρ x (by simp [Op.operands]) _ ha
    exact .look hs (slice_ok hr hx (opndOpt_ok (fun y hy => hρ y (by simp [Op.operands]; simp at hy; simp [hy])) hl) (opndOpt_ok (fun y hy => hρ y (by simp [Op.operands]; simp at hy; simp [hy])) hhh) (opndOpt_ok (fun y hy => hρ y (by simp [Op.operands]; simp at hy; simp [hy])) hm))
  case fieldAddr st x f =>
    simp only [evOp, evFieldAddr] at h
    split at h
    case h_1 => cases h
    case h_2 i hi =>
    split at h
    case h_2 => cases h
    case h_1 fs hd =>
    split at h
    case h_1 => cases h
    case h_2 fd hf =>
    split at h
    case h_1 => cases h
    case h_2 j hj =>
    cases hz : (j.size == 0) with
    | true => rw [hz] at h; cases h
    | false =>
      rw [hz] at h
      simp only [cond_false] at h
      split at h
      case h_2 => cases h
      case h_1 b off ha =>
      cases h
      exact .look hs (field_addr_ok hi hd hf hj hz (hρ x (by simp [Op.operands]) _ ha))
  case field t x f =>
    simp only [evOp, evField] at h
    split at h
    case h_1 => cases h
    case h_2 i hi =>
    split at h
    case h_2 => cases h
    case h_1 fs hd =>
    split at h
    case h_1 => cases h
    case h_2 fd hf =>
    split at h
    case h_1 => cases h
    case h_2 j hj =>
    split at h
    case h_2 => cases h
    case h_1 cs ha =>
    split at h
    case h_2 => cases h
    case h_1 r hr =>
    cases h
    exact .look hs (field_ok hi hd hf hj (hρ x (by simp [Op.operands]) _ ha) hr)
  case indexAddr t x ix =>
    simp only [evOp, evIndexAddr] at h
    split at h
    case h_2 => cases h
    case h_1 kk k hk =>
    have e1 : ρ ix = .int kk k := hρ ix (by simp [Op.operands]) _ hk
    split at h
    case h_1 => cases h
    case h_2 i hi =>
    split at h
    case h_1 n e b off hd ha =>
      split at h
      case h_1 => cases h
      case h_2 j hj =>
      cases hq : (decide (0 ≤ k) && decide (k < (n : Int))) with
      | false => rw [hq] at h; cases h
      | true =>
        rw [hq] at h
        cases h
        simp only [Bool.and_eq_true, decide_eq_true_eq] at hq
        have := index_addr_arr_ok (w := w) hi hd hj (hρ x (by simp [Op.operands]) _ ha) (kk := kk) hq.1 hq.2
        rw [← e1] at this
        exact .look hs this
    case h_2 e b off len cap hd ha =>
      split at h
      case h_1 => cases h
      case h_2 j hj =>
      cases hq : (decide (0 ≤ k) && decide (k < (len : Int))) with
      | false => rw [hq] at h; cases h
      | true =>
        rw [hq] at h
        cases h
        simp only [Bool.and_eq_true, decide_eq_true_eq] at hq
        have := index_addr_slc_ok (w := w) hi hd hj (hρ x (by simp [Op.operands]) _ ha) (kk := kk) hq.1 hq.2
        rw [← e1] at this
        exact .look hs this
    case h_3 => cases h
  case index t x ix =>
    simp only [evOp, evIndex] at h
    split at h
    case h_2 => cases h
    case h_1 kk k hk =>
    have e1 : ρ ix = .int kk k := hρ ix (by simp [Op.operands]) _ hk
    split at h
    case h_1 => cases h
    case h_2 i hi =>
    split at h
    case h_1 n e cs hd ha =>
      split at h
      case h_1 => cases h
      case h_2 j hj =>
      cases hq : (decide (0 ≤ k) && decide (k < (n : Int))) with
      | false => rw [hq] at h; cases h
      | true =>
        rw [hq] at h
        simp only [cond_true] at h
        simp only [Bool.and_eq_true, decide_eq_true_eq] at hq
        split at h
        case h_2 => cases h
        case h_1 r hr =>
        cases h
        have := index_arr_ok (w := w) hi hd hj (hρ x (by simp [Op.operands]) _ ha) (kk := kk) hq.1 hq.2 hr
        rw [← e1] at this
        exact .look hs this
    case h_2 bs hd ha =>
      cases hq : decide (0 ≤ k) with
      | false => rw [hq] at h; cases h
      | true =>
        rw [hq] at h
        simp only [cond_true] at h
        split at h
        case h_2 => cases h
        case h_1 c hc =>
        cases h
        have := index_str_ok (w := w) hi hd (hρ x (by simp [Op.operands]) _ ha) (kk := kk) (of_decide_eq_true hq) hc
        rw [← e1] at this
        exact .look hs this
    case h_3 => cases h
  case lookup t x ix ok =>
    simp only [evOp, evLookup] at h
    split at h
    case h_1 => cases h
    case h_2 i hi =>
    split at h
    case h_2 => cases h
    case h_1 kt et hd =>
    split at h
    case h_2 => cases h
    case h_1 ki ei m k hki hei hm hk =>
    cases hq : keyOk P kt ki.d k with
    | false => rw [hq] at h; cases h
    | true =>
      rw [hq] at h
      simp only [cond_true] at h
      have hx := hρ x (by simp [Op.operands]) _ hm
      have hkx := hρ ix (by simp [Op.operands]) _ hk
      split at h
      case h_1 => cases h
      case h_2 r hf =>
        cases h
        exact .look hs (lookup_ok hs hi hd hki hei hx hkx hq hf)
      case h_3 hf =>
        cases h
        exact .look hs (lookup_ok hs hi hd hki hei hx hkx hq hf)
  case mapUpdate t m k x =>
    simp only [evOp, evMapUpdate] at h
    split at h
    case h_2 => cases h
    case h_1 r kv a hm hk ha =>
    obtain ⟨rfl, h2⟩ := upd_ok hs h (hρ m (by simp [Op.operands]) _ hm) (hρ k (by simp [Op.operands]) _ hk) (hρ x (by simp [Op.operands]) _ ha)
    exact .unit h2
  case insert t m k x =>
    simp only [evOp, evMapUpdate] at h
    split at h
    case h_2 => cases h
    case h_1 r kv a hm hk ha =>
    obtain ⟨rfl, h2⟩ := upd_ok hs h (hρ m (by simp [Op.operands]) _ hm) (hρ k (by simp [Op.operands]) _ hk) (hρ x (by simp [Op.operands]) _ ha)
    exact .unit h2
  case range t x =>
    simp only [evOp, evRange] at h
    split at h
    case h_1 => cases h
    case h_2 i hi =>
    split at h
    case h_2 => cases h
    case h_1 bs hd ha =>
    cases h
    exact .val (range_ok hs hi hd (hρ x (by simp [Op.operands]) _ ha))
  case next it isS =>
    cases isS with
    | false => simp [evOp] at h
    | true =>
      simp only [evOp, evNext] at h
      split at h
      case h_2 => cases h
      case h_1 b ha =>
      cases hq : Nat.ble lo b with
      | false => rw [hq] at h; cases h
      | true =>
        rw [hq] at h
        simp only [cond_true] at h
        rw [Nat.ble_eq] at hq
        split at h
        case h_2 => cases h
        case h_1 bs p hb =>
        exact .val (next_ok hs (hρ it (by simp [Op.operands]) _ ha) hb hq ty h)
  case extract x k =>
    simp only [evOp, evExtract] at h
    split at h
    case h_2 => cases h
    case h_1 l ha =>
    split at h
    case h_2 => cases h
    case h_1 r hr =>
    cases h
    exact .look hs (extract_ok (hρ x (by simp [Op.operands]) _ ha) hr)
  case call c =>
    obtain ⟨callee, args, ats⟩ := c
    cases callee <;> try (simp [evOp, evCall] at h; done)
    case builtin b =>
    simp only [evOp, evCall] at h
    split at h
    case h_2 => cases h
    case h_1 l hl =>
    have hr := opnds_ok (l := args.toList) (by simpa [Op.operands, Call.operands] using hρ) hl
    obtain ⟨u, w', β', h1, h2, h3⟩ := builtin_ok hs (ty := ty) (cs := args.map fun | .const _ => true | _ => false) (as := args.map ρ) (by rw [Array.toList_map]; exact hr) h
    exact ⟨u, w', β', .inl (by simp only [execOp, resolve, Sem.run_bind, Sem.run_pure, Result.andThen_ok, invoke]; exact h1), h2, h3⟩
end
end Ev
end Go.Proofs.Ytnelncafocgfhaa
