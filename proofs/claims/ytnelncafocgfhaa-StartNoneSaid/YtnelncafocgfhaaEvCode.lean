/- Code and calls: what the runner answers is so in the model. -/
import Derived.Test.YtnelncafocgfhaaEvDraw4
namespace Go.Proofs.Ytnelncafocgfhaa
open Go.RowKit
namespace Ev
set_option linter.unusedSectionVars false
variable [Env]
section
variable {P : Program} {β : Beta} {w : World} {s : St} {lo nt : Nat} {fr : Tr AV} {a : Act}
/-! Code and calls. -/
theorem start_ok {args : List AV} {vs : Array Value} (h : Reps β args vs.toList) {n : Nat} (hn : args.length ≤ n) : FRep β n (startFr args) { tmps := vs ++ Array.replicate (n - vs.size) undef, defers := [] } := by
  have hl := Reps.length h
  rw [Array.length_toList] at hl
  refine ⟨by simp; omega, rfl, fun t => ?_⟩
  simp only [startFr, get_storeL, get_lf]
  by_cases ht : t < args.length
  · obtain ⟨u, hu, hr⟩ := h.at t args[t] (List.getElem?_eq_getElem ht)
    rw [if_pos ⟨Nat.zero_le _, by omega⟩, Nat.sub_zero]
    have e1 : (vs ++ Array.replicate (n - vs.size) undef).getD t undef = u := by
      rw [Array.getD_eq_getD_getElem?, Array.getElem?_append_left (by omega)]
      rw [Array.getElem?_toList] at hu
      rw [hu]; rfl
    rw [e1, List.getElem?_eq_getElem ht]
    exact hr
  · rw [if_neg (by omega)]
    have e1 : (vs ++ Array.replicate (n - vs.size) undef).getD t undef = undef := by
      rw [Array.getD_eq_getD_getElem?, Array.getElem?_append_right (by omega)]
      by_cases h2 : t - vs.size < n - vs.size
      · rw [Array.getElem?_replicate, if_pos h2]; rfl
      · rw [Array.getElem?_replicate, if_neg h2]; rfl
    rw [e1]
    exact ⟨#[], rfl, rfl⟩
theorem evF_call_ok {ih : Nat → Job → Option Out} (hcode : CodeOk P ih) : CallOk P (fun lo j => evF P ih lo j) := by
  intro lo f args s v s' h β w vs hs hg ha
  simp only [evF] at h
  split at h
  case h_1 => cases h
  case h_2 fn hfn =>
  split at h
  case h_1 => cases h
  case h_2 c hb =>
  cases hn : (!Nat.ble args.length fn.ntmps) with
  | true => rw [hn] at h; cases h
  | false =>
  rw [hn] at h
  simp only [cond_false] at h
  have hn' : args.length ≤ fn.ntmps := by simpa [Nat.ble_eq] using hn
  split at h
  case h_2 => cases h
  case h_1 e fr' s1 hih =>
  cases he : exNrm e with
  | false => rw [he] at h; cases h
  | true =>
  rw [he] at h
  simp only [cond_true] at h
  split at h
  case h_2 => cases h
  case h_1 as has =>
  cases h
  refine calls_of_wp hfn hb (hcode lo fn.ntmps c (startFr args) s e fr' s' hih β w _ hs hg (start_ok ha hn') _ ?_)
  intro a' w' β' hx hf'
  obtain ⟨u, h1, h2⟩ := results_ok hx.sit hf' has
  have fin : a'.defers = [] ∧ ∃ v, (results fn a'.tmps).run P w' = .ok v w' ∧ ∃ u β', Ending.returned v = .returned u ∧ Ext lo β s w β' s' w' ∧ Rep β' (oneOf as) u := ⟨hf'.defers, u, h1, u, β', rfl, hx, h2⟩
  cases e with
  | nrm => exact fin
  | ret => exact fin
  | exit k => cases he
def LoopOk (P : Program) (ih : Nat → Job → Option Out) (n : Nat) : Prop :=
  ∀ lo nt c fr s e fr' s', ih lo (.code nt (.loop c) fr s) = some (.code e fr' s') → ∀ (β : Beta) (w : World) (a : Act), Sit β s w → Globs P β → FRep β nt fr a →
    ∀ Q : Exit → Act → World → Prop, (∀ a' w' β', Ext lo β s w β' s' w' → FRep β' nt fr' a' → Q (exOf e) a' w') → Code.rounds P c Q n a w
theorem evF_loop_ok {ih : Nat → Job → Option Out} {n : Nat} (hcode : CodeOk P ih) (hloop : LoopOk P ih n) : LoopOk P (fun lo j => evF P ih lo j) (n + 1) := by
  intro lo nt c fr s e fr' s' h β w a hs hg hf Q hQ
  simp only [evF] at h
  rw [rounds_succ]
  split at h
  case h_1 fr1 s1 h1 =>
    refine hcode lo nt c fr s _ fr1 s1 h1 β w a hs hg hf _ ?_
    intro a1 w1 β1 hx hf1
    have hle := hx.beta hs
    refine hloop lo nt c fr1 s1 e fr' s' h β1 w1 a1 hx.sit (hg.mono hle) hf1 Q ?_
    intro a2 w2 β2 hx2 hf2
    exact hQ a2 w2 β2 (hx.trans hs hx2) hf2
  case h_2 e1 fr1 s1 hne h1 =>
    cases h
    refine hcode lo nt c fr s _ fr' s' h1 β w a hs hg hf _ ?_
    intro a1 w1 β1 hx hf1
    have := hQ a1 w1 β1 hx hf1
    cases e with
    | nrm => exact (hne rfl).elim
    | exit k => exact this
    | ret => exact this
  case h_3 => cases h
theorem evF_code_ok {ih : Nat → Job → Option Out} {n : Nat} (hcall : CallOk P ih) (hcode : CodeOk P ih) (hloop : LoopOk P ih n) : CodeOk P (fun lo j => evF P ih lo j) := by
  intro lo nt c fr s e fr' s' h β w a hs hg hf Q hQ
  cases c <;> simp only [evF] at h <;> try (cases h; done)
  case skip => cases h; exact wp_skip (hQ a w β (Ext.refl hs) hf)
  case label l => cases h; exact wp_label (hQ a w β (Ext.refl hs) hf)
  case exit k => cases h; exact wp_exit (hQ a w β (Ext.refl hs) hf)
  case ret => cases h; exact wp_ret (hQ a w β (Ext.refl hs) hf)
  case region id ops draw =>
    cases draw with
    | true =>
      simp only [cond_true] at h
      cases hm : P.follows .mixedOrders with
      | false => rw [hm] at h; cases h
      | true =>
        rw [hm] at h
        exact draw_ok hcall hm h hs hg hf hQ
    | false =>
      simp only [cond_false] at h
      exact region_ok hcall h hs hg hf hQ
  case seq x y =>
    refine wp_seq ?_
    split at h
    case h_1 fr1 s1 h1 =>
      refine hcode lo nt x fr s _ fr1 s1 h1 β w a hs hg hf _ ?_
      intro a1 w1 β1 hx hf1
      have hle := hx.beta hs
      refine hcode lo nt y fr1 s1 e fr' s' h β1 w1 a1 hx.sit (hg.mono hle) hf1 Q ?_
      intro a2 w2 β2 hx2 hf2
      exact hQ a2 w2 β2 (hx.trans hs hx2) hf2
    case h_2 e1 fr1 s1 hne h1 =>
      cases h
      refine hcode lo nt x fr s _ fr' s' h1 β w a hs hg hf _ ?_
      intro a1 w1 β1 hx hf1
      have := hQ a1 w1 β1 hx hf1
      cases e with
      | nrm => exact (hne rfl).elim
      | exit k => exact this
      | ret => exact this
    case h_3 => cases h
  case cond x thn els =>
    split at h
    case h_2 => cases h
    case h_1 t ht =>
    have hv : a.eval x = .bool t := opnd_ok hf hg ht
    refine wp_cond hv ?_
    have := hcode lo nt _ fr s e fr' s' h β w a hs hg hf Q hQ
    cases t <;> exact this
  case block id c =>
    refine wp_block ?_
    split at h
    case h_1 k fr1 s1 h1 =>
      refine hcode lo nt c fr s _ fr1 s1 h1 β w a hs hg hf _ ?_
      intro a1 w1 β1 hx hf1
      cases hk : (k == id) with
      | true =>
        rw [hk] at h
        cases h
        have := eq_of_beq hk
        simp only [exOf, Exit.inBlock, this, if_true]
        exact hQ a1 w1 β1 hx hf1
      | false =>
        rw [hk] at h
        cases h
        have : ¬ k = id := by simpa using hk
        simp only [exOf, Exit.inBlock, this, if_false]
        exact hQ a1 w1 β1 hx hf1
    case h_2 e1 fr1 s1 hne h1 =>
      cases h
      refine hcode lo nt c fr s _ fr' s' h1 β w a hs hg hf _ ?_
      intro a1 w1 β1 hx hf1
      have := hQ a1 w1 β1 hx hf1
      cases e with
      | nrm => exact this
      | exit k => exact (hne _ rfl).elim
      | ret => exact this
    case h_3 => cases h
  case loop c => exact wp_loop_rounds (n + 1) (evF_loop_ok hcode hloop lo nt c fr s e fr' s' h β w a hs hg hf Q hQ)
  case scope c =>
    refine wp_scope_straight ?_
    refine hcode lo nt c fr s e fr' s' h β w a hs hg hf _ ?_
    intro a1 w1 β1 hx hf1
    have := hQ a1 w1 β1 hx hf1
    cases e <;> exact this
theorem ev_ok (P : Program) : ∀ n, CallOk P (ev P n) ∧ CodeOk P (ev P n) ∧ LoopOk P (ev P n) n
  | 0 => ⟨fun _ _ _ _ _ _ h => (by cases h), fun _ _ _ _ _ _ _ _ h => (by cases h), fun _ _ _ _ _ _ _ _ h => (by cases h)⟩
  | n + 1 => ⟨evF_call_ok (ev_ok P n).2.1, evF_code_ok (ev_ok P n).1 (ev_ok P n).2.1 (ev_ok P n).2.2, evF_loop_ok (ev_ok P n).2.1 (ev_ok P n).2.2⟩
end
/-! A call without arguments that says true. -/
def tabBlk (L : List Int) : Blk := .cells 0 L.length [] (storeL .lf 0 (L.map (AV.int .i64))) false false
def heapOf : List (Nat × List Int) → Tr Blk
  | [] => .lf
  | (g, L) :: l => (heapOf l).set (some (tabBlk L)) (path g)
def saysTrue : Option Out → Bool
  | some (.call (.bool b) _) => b
  | _ => false
/-- A variable that holds just these numbers. -/
def HoldsAt (W : World) (g : Nat) (L : List Int) : Prop := ∃ t fr, W.heap[g]? = some (.cells (L.map (Value.int .i64)).toArray t fr)
theorem heapOf_get : ∀ {l : List (Nat × List Int)} {g : Nat} {b : Blk}, (heapOf l).get (path g) = some b → ∃ L, (g, L) ∈ l ∧ b = tabBlk L
  | [], g, b, h => by rw [heapOf, get_lf] at h; cases h
  | (k, L) :: l, g, b, h => by
    rw [heapOf, get_put] at h
    by_cases e : g = k
    · rw [if_pos e] at h; cases h; exact ⟨L, by simp [e], rfl⟩
    · rw [if_neg e] at h
      obtain ⟨M, h1, h2⟩ := heapOf_get h
      exact ⟨M, by simp [h1], h2⟩
theorem ints_reps (β : Beta) : ∀ L : List Int, Reps β (L.map (AV.int .i64)) (L.map (Value.int .i64))
  | [] => rfl
  | n :: L => ⟨_, _, rfl, rfl, ints_reps β L⟩
def sizeAt (W : World) (g : Nat) : Nat := match W.heap[g]? with | some (.cells cs _ _) => cs.size | _ => 0
/-- The start: the listed variables, and the place of each of the others. -/
theorem sit_start {P : Program} {W : World} (hsh : W.ShapedOpen P) {tabs : List (Nat × List Int)} (ht : ∀ x ∈ tabs, HoldsAt W x.1 x.2 ∧ x.1 < P.globals.size) :
    Sit (fun g => if g < P.globals.size then some (g, sizeAt W g) else none) ⟨heapOf tabs, P.globals.size⟩ W ∧ Globs P (fun g => if g < P.globals.size then some (g, sizeAt W g) else none) := by
  have hlt : P.globals.size < W.heap.size := by
    obtain ⟨o, _, h1, _⟩ := hsh.2 P.globals.size (Nat.le_refl _) (by simp [begin]; omega)
    exact (Array.getElem?_eq_some_iff.1 h1).1
  refine ⟨⟨?_, ?_, ?_⟩, fun g hg => ⟨_, if_pos hg⟩⟩
  · intro i b hb
    obtain ⟨L, h1, rfl⟩ := heapOf_get hb
    obtain ⟨⟨t, fr, hw⟩, hg⟩ := ht _ h1
    refine ⟨_, if_pos hg, ?_⟩
    have hs : sizeAt W i = L.length := by unfold sizeAt; rw [hw]; simp
    simp only at hw
    refine ⟨_, t, fr, hw, by rw [hs]; simp, by rw [hs]; exact Nat.le_refl _, fun _ => hs, fun e => (by cases e), ?_⟩
    intro k v hk
    have hk' : (L.map (AV.int .i64))[k]? = some v := by
      have hlen : (L.map (AV.int .i64)).length = L.length := by simp
      have := hk
      rw [← hlen] at this
      exact cellAt_rowOf this
    obtain ⟨u, hu, hr⟩ := (ints_reps _ L).at k v hk'
    exact ⟨u, by rw [List.getElem?_toArray]; exact hu, hr⟩
  · intro i j p q _ _ hp hq hpq
    by_cases hi : i < P.globals.size
    · by_cases hj : j < P.globals.size
      · rw [if_pos hi] at hp
        rw [if_pos hj] at hq
        cases hp
        cases hq
        exact hpq
      · rw [if_neg hj] at hq; cases hq
    · rw [if_neg hi] at hp; cases hp
  · intro i p hp
    by_cases hi : i < P.globals.size
    · rw [if_pos hi] at hp
      cases hp
      exact ⟨hi, by simp only; omega⟩
    · rw [if_neg hi] at hp; cases hp
theorem closed_true {P : Program} {W : World} (hsh : W.ShapedOpen P) {tabs : List (Nat × List Int)} (ht : ∀ x ∈ tabs, HoldsAt W x.1 x.2 ∧ x.1 < P.globals.size) {n : Nat} {f : FuncId} (h : saysTrue (ev P n P.globals.size (.call f [] ⟨heapOf tabs, P.globals.size⟩)) = true) :
    Calls P f #[] W fun e w' => e = .returned (.bool true) ∧ Below W.heap.size W w' := by
  obtain ⟨hs, hg⟩ := sit_start hsh ht
  unfold saysTrue at h
  split at h
  case h_2 => cases h
  case h_1 b s' he =>
  subst h
  refine ((ev_ok P n).1 _ f [] _ _ s' he _ W #[] hs hg rfl).mono ?_
  rintro e w' ⟨u, β', rfl, hx, hr⟩
  refine ⟨by rw [show u = .bool true from hr], hx.os, hx.tape, hx.output, hx.size, fun k hk => hx.keep k hk ?_⟩
  intro i p hi hl hp
  obtain ⟨c, hc⟩ := hl
  obtain ⟨q, hq, _⟩ := hs.blk i c hc
  have := (hs.low i q hq).1
  simp only at this
  omega
#print axioms closed_true
end Ev
end Go.Proofs.Ytnelncafocgfhaa
