/- Operations: the other builtins; every operation that is no call of a Go function. -/
import Derived.Test.YtnelncafocgfhaaEvOpsE
namespace Go.Proofs.Ytnelncafocgfhaa
open Go.RowKit
namespace Ev
set_option linter.unusedSectionVars false
variable [Env]
section
variable {P : Program} {β : Beta} {w : World} {s : St} {lo : Nat}
theorem at0 {α : Type} {a : Array α} {x : α} {l : List α} (h : a.toList = x :: l) : a[0]? = some x := by
  rw [← Array.getElem?_toList, h]; rfl
theorem at1 {α : Type} {a : Array α} {x y : α} {l : List α} (h : a.toList = x :: y :: l) : a[1]? = some y := by
  rw [← Array.getElem?_toList, h]; rfl
theorem builtin_ok (hs : Sit β s w) {b : Builtin} {ts : Array TypeId} {ty : TypeId} {cs : Array Bool} {as : Array Value} {l : List AV} (hl : Reps β l as.toList) {r : AV} {s' : St} (h : callBuiltin P s lo b ts.toList l = some (r, s')) :
    ∃ u w' β', (builtin b ts ty cs as).run P w = .ok (.value u) w' ∧ Ext lo β s w β' s' w' ∧ Rep β' r u := by
  have wrapv : ∀ {x : Sem Value}, SG P x lo β s w r s' → ∃ u w' β', ((do pure (Next.value (← x)) : Sem Next)).run P w = .ok (.value u) w' ∧ Ext lo β s w β' s' w' ∧ Rep β' r u := by
    rintro x ⟨u, w', β', h1, h2, h3⟩
    exact ⟨u, w', β', by rw [Sem.run_bind, h1]; rfl, h2, h3⟩
  unfold callBuiltin at h
  generalize hts : ts.toList = tl at h
  split at h
  case h_1 t xt rest x y rest' =>
    obtain ⟨u, m, e1, hx, v, m', e2, hy, _⟩ := hl
    exact wrapv (append_ok hs (at0 hts) (at1 hts) (at0 e1) (at1 (by rw [e1, e2])) hx hy h)
  case h_2 t rest x rest' =>
    obtain ⟨u, m, e1, hx, _⟩ := hl
    split at h
    case h_1 => cases h
    case h_2 i hi =>
    have hun := run_under hi w
    have ht := at0 hts
    have ha := at0 e1
    refine wrapv ?_
    split at h
    case h_1 bs hd =>
      cases h; cases hx
      rw [hd] at hun
      exact .stay hs (u := goInt bs.length) (by simp only [Builtin.len_, ht, ha, Sem.run_bind, hun, Result.andThen_ok, size_mk, Sem.run_pure]) rfl
    case h_2 n e hd =>
      cases h
      rw [hd] at hun
      exact .stay hs (u := goInt n) (by simp only [Builtin.len_, ht, ha, Sem.run_bind, hun, Result.andThen_ok, Sem.run_pure]) rfl
    case h_3 e b off n cap hd =>
      cases h
      obtain ⟨nb, tt, c, _, rfl, _⟩ := hx
      rw [hd] at hun
      exact .stay hs (u := goInt n) (by simp only [Builtin.len_, ht, ha, Sem.run_bind, hun, Result.andThen_ok, Sem.run_pure]) rfl
    case h_4 e hd =>
      cases h; cases hx
      rw [hd] at hun
      exact .stay hs (u := goInt (0 : Nat)) (by simp only [Builtin.len_, ht, ha, Sem.run_bind, hun, Result.andThen_ok, Sem.run_pure]) rfl
    case h_5 e hd =>
      cases h
      obtain ⟨a, c, rfl⟩ := hx
      rw [hd] at hun
      exact .stay hs (u := goInt (0 : Nat)) (by simp only [Builtin.len_, ht, ha, Sem.run_bind, hun, Result.andThen_ok, Sem.run_pure]) rfl
    case h_6 k e hd =>
      cases h; cases hx
      rw [hd] at hun
      exact .stay hs (u := goInt 0) (by simp only [Builtin.len_, ht, ha, Sem.run_bind, hun, Result.andThen_ok, Sem.run_pure]) rfl
    case h_7 k e r' hd =>
      split at h
      case h_2 => cases h
      case h_1 l' hb =>
      cases h
      obtain ⟨nb, tt, hbe, rfl⟩ := hx
      obtain ⟨p, hp, es, clock, hw, hl'⟩ := hs.blk _ _ hb
      rw [hbe] at hp
      cases hp
      rw [hd] at hun
      have := MapRep.length hl'
      rw [Array.length_toList] at this
      refine .stay hs (u := goInt es.size) (by simp only [Builtin.len_, ht, ha, Sem.run_bind, hun, Result.andThen_ok, MapKept.run_getObj_map hw, Sem.run_pure]) ?_
      rw [this]; rfl
    case h_8 => cases h
  case h_3 t rest x rest' =>
    obtain ⟨u, m, e1, hx, _⟩ := hl
    split at h
    case h_1 => cases h
    case h_2 i hi =>
    have hun := run_under hi w
    have ht := at0 hts
    have ha := at0 e1
    refine wrapv ?_
    split at h
    case h_1 n e hd =>
      cases h
      rw [hd] at hun
      exact .stay hs (u := goInt n) (by simp only [Builtin.cap_, ht, ha, Sem.run_bind, hun, Result.andThen_ok, Sem.run_pure]) rfl
    case h_2 e b off n c hd =>
      cases h
      obtain ⟨nb, tt, c, _, rfl, _, rfl⟩ := hx
      rw [hd] at hun
      exact .stay hs (u := goInt c) (by simp only [Builtin.cap_, ht, ha, Sem.run_bind, hun, Result.andThen_ok, Sem.run_pure]) rfl
    case h_3 e hd =>
      cases h; cases hx
      rw [hd] at hun
      exact .stay hs (u := goInt (0 : Nat)) (by simp only [Builtin.cap_, ht, ha, Sem.run_bind, hun, Result.andThen_ok, Sem.run_pure]) rfl
    case h_4 => cases h
  case h_4 k x k' y =>
    obtain ⟨u, m, e1, rfl, v, m', rfl, rfl, rfl⟩ := hl
    cases hk : (k == k') with
    | false => rw [hk] at h; cases h
    | true =>
      rw [hk] at h
      cases h
      refine wrapv (.stay hs (u := .int k (if y < x then y else x)) ?_ ?_)
      · simp only [Builtin.min_, e1, List.foldlM_cons, List.foldlM_nil, Builtin.min2, Sem.run_bind, Sem.run_pure, Result.andThen_ok]
      · by_cases hlt : y < x <;> simp [hlt, Rep]
  case h_5 k x k' y =>
    obtain ⟨u, m, e1, rfl, v, m', rfl, rfl, rfl⟩ := hl
    cases hk : (k == k') with
    | false => rw [hk] at h; cases h
    | true =>
      rw [hk] at h
      cases h
      refine wrapv (.stay hs (u := .int k (if y > x then y else x)) ?_ ?_)
      · simp only [Builtin.max_, e1, List.foldlM_cons, List.foldlM_nil, Builtin.max2, Sem.run_bind, Sem.run_pure, Result.andThen_ok]
      · by_cases hlt : y > x <;> simp [hlt, Rep]
  case h_6 t rest x y rest' =>
    obtain ⟨u, m, e1, hx, v, m', e2, hy, _⟩ := hl
    have ht := at0 hts
    have ha := at0 e1
    have hb := at1 (by rw [e1, e2] : as.toList = u :: v :: m')
    split at h
    case h_1 => cases h
    case h_2 i hi =>
    split at h
    case h_2 => cases h
    case h_1 e hd =>
    split at h
    case h_1 => cases h
    case h_2 j hj =>
    split at h
    case h_2 => cases h
    case h_1 dl sl hdl hsl =>
    split at h
    case h_1 => cases h
    case h_2 news hnews =>
    have hun := run_under hi w
    rw [hd] at hun
    obtain ⟨vs, hv1, hv2⟩ := firstAV_ok (P := P) hs hnews hy
    have hlen := lenAV_ok (P := P) hsl hy w
    refine wrapv ?_
    split at h
    case h_1 =>
      cases h
      cases hx
      cases hdl
      refine .stay hs (u := goInt (0 : Nat)) ?_ rfl
      have hv1' : (Builtin.firstCells j.size (Nat.min sl 0) v).run P w = .ok vs.toArray w := hv1 w rfl
      simp only [Builtin.copy_, ht, ha, hb, Sem.run_bind, hun, Result.andThen_ok, Sem.run_pure, hlen, run_size hj, hv1']
      simp
    case h_2 b' off len cap =>
      split at h
      case h_2 => cases h
      case h_1 s1 hst =>
      cases h
      cases hdl
      obtain ⟨nb, tt, c, hbe, rfl, _⟩ := hx
      obtain ⟨w', q1, q2⟩ := storeAt_ok (P := P) hs hst hbe hv2
      refine ⟨goInt (Nat.min sl dl : Nat), w', β, ?_, q2, rfl⟩
      have hv1' : (Builtin.firstCells j.size (Nat.min sl dl) v).run P w = .ok vs.toArray w := hv1 w rfl
      simp only [Builtin.copy_, ht, ha, hb, Sem.run_bind, hun, Result.andThen_ok, Sem.run_pure, hlen, run_size hj, hv1', q1]
    case h_3 => cases h
  case h_7 t rest x =>
    obtain ⟨u, m, e1, hx, _⟩ := hl
    have ht := at0 hts
    have ha := at0 e1
    split at h
    case h_1 => cases h
    case h_2 i hi =>
    split at h
    case h_2 => cases h
    case h_1 e hd =>
    split at h
    case h_1 => cases h
    case h_2 j hj =>
    have hun := run_under hi w
    rw [hd] at hun
    refine wrapv ?_
    split at h
    case h_1 =>
      cases h; cases hx
      exact .stay hs (u := .tuple #[]) (by simp only [Builtin.clear_, ht, ha, Sem.run_bind, hun, Result.andThen_ok, Sem.run_pure]) ⟨_, rfl, rfl⟩
    case h_2 =>
      cases h
      obtain ⟨a, c, rfl⟩ := hx
      exact .stay hs (u := .tuple #[]) (by simp only [Builtin.clear_, ht, ha, Sem.run_bind, hun, Result.andThen_ok, Sem.run_pure]) ⟨_, rfl, rfl⟩
    case h_3 b' off len cap =>
      split at h
      case h_2 => cases h
      case h_1 s1 hst =>
      cases h
      obtain ⟨nb, tt, c, hbe, rfl, _⟩ := hx
      obtain ⟨z, hz⟩ := run_zero hj
      have hcyc := cycle_reps ((hz w).2 β) len
      have hzl := Reps.length ((hz w).2 β)
      rw [Array.length_toList] at hzl
      have hzc : Builtin.zeroCells z.cells len = (Array.range (len * j.zero.length)).map (z.cells[· % z.cells.size]!) := by unfold Builtin.zeroCells; rw [hzl]
      obtain ⟨w', q1, q2⟩ := storeAt_ok (P := P) hs hst hbe hcyc
      rw [← hzc] at q1
      refine ⟨.tuple #[], w', β, ?_, q2, ⟨_, rfl, rfl⟩⟩
      cases len with
      | zero =>
        have hnil : (Builtin.zeroCells z.cells 0).toList = [] := by simp [Builtin.zeroCells]
        rw [hnil] at q1
        cases q1
        simp only [Builtin.clear_, ht, ha, Sem.run_bind, hun, Result.andThen_ok, Sem.run_pure]
      | succ len =>
        simp only [Builtin.clear_, ht, ha, Sem.run_bind, hun, Result.andThen_ok, Sem.run_pure, (hz _).1, q1]
    case h_4 => cases h
  case h_8 => cases h
end
end Ev
end Go.Proofs.Ytnelncafocgfhaa
