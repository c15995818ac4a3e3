/- Long runs, cut: a body is run piece by piece, each piece from a memory that is told in full. -/
import Derived.Test.YtnelncafocgfhaaEvSum
namespace Go.Proofs.Ytnelncafocgfhaa
open Go.RowKit
namespace Ev
set_option linter.unusedSectionVars false
variable [Env]
/-! A body's parts. -/
inductive Dir where
  | l | r | i
def codeAt : List Dir → Code → Code
  | [], c => c
  | .l :: p, .seq a _ => codeAt p a
  | .r :: p, .seq _ b => codeAt p b
  | .l :: p, .cond _ a _ => codeAt p a
  | .r :: p, .cond _ _ b => codeAt p b
  | .i :: p, .block _ c => codeAt p c
  | .i :: p, .loop c => codeAt p c
  | .i :: p, .scope c => codeAt p c
  | _ :: _, _ => .skip
def bodyOf (P : Program) (f : FuncId) : Code := match P.funcs[f]? with
  | some fn => match fn.body with
    | some c => c
    | none => .skip
  | none => .skip
/-! Values that are the same, parts of parts too. -/
mutual
def sameD : AV → AV → Bool
  | .agg l, .agg r => sameDs l r
  | .tup l, .tup r => sameDs l r
  | .fn f l, .fn g r => f == g && sameDs l r
  | .ifc t a, .ifc u b => t == u && sameD a b
  | a, b => sameSc a b
def sameDs : List AV → List AV → Bool
  | [], [] => true
  | a :: l, b :: r => sameD a b && sameDs l r
  | _, _ => false
end
mutual
theorem sameD_eq : ∀ (a b : AV), sameD a b = true → a = b
  | .agg l, b, h => by
    cases b <;> simp only [sameD, sameSc, Bool.false_eq_true] at h
    rw [sameDs_eq _ _ h]
  | .tup l, b, h => by
    cases b <;> simp only [sameD, sameSc, Bool.false_eq_true] at h
    rw [sameDs_eq _ _ h]
  | .fn f l, b, h => by
    cases b <;> simp only [sameD, sameSc, Bool.false_eq_true, Bool.and_eq_true, beq_iff_eq] at h
    rw [h.1, sameDs_eq _ _ h.2]
  | .ifc t a, b, h => by
    cases b <;> simp only [sameD, sameSc, Bool.false_eq_true, Bool.and_eq_true, beq_iff_eq] at h
    rw [h.1, sameD_eq _ _ h.2]
  | .sym .., b, h => sameSc_eq (by cases b <;> first | exact h | (simp only [sameD, sameSc] at h; cases h))
  | .int .., b, h => sameSc_eq (by cases b <;> first | exact h | (simp only [sameD, sameSc] at h; cases h))
  | .bool .., b, h => sameSc_eq (by cases b <;> first | exact h | (simp only [sameD, sameSc] at h; cases h))
  | .str .., b, h => sameSc_eq (by cases b <;> first | exact h | (simp only [sameD, sameSc] at h; cases h))
  | .flt .., b, h => sameSc_eq (by cases b <;> first | exact h | (simp only [sameD, sameSc] at h; cases h))
  | .ptr .., b, h => sameSc_eq (by cases b <;> first | exact h | (simp only [sameD, sameSc] at h; cases h))
  | .nilp, b, h => sameSc_eq (by cases b <;> first | exact h | (simp only [sameD, sameSc] at h; cases h))
  | .slc .., b, h => sameSc_eq (by cases b <;> first | exact h | (simp only [sameD, sameSc] at h; cases h))
  | .nils, b, h => sameSc_eq (by cases b <;> first | exact h | (simp only [sameD, sameSc] at h; cases h))
  | .emp, b, h => sameSc_eq (by cases b <;> first | exact h | (simp only [sameD, sameSc] at h; cases h))
  | .map .., b, h => sameSc_eq (by cases b <;> first | exact h | (simp only [sameD, sameSc] at h; cases h))
  | .nilm, b, h => sameSc_eq (by cases b <;> first | exact h | (simp only [sameD, sameSc] at h; cases h))
  | .nilf, b, h => sameSc_eq (by cases b <;> first | exact h | (simp only [sameD, sameSc] at h; cases h))
  | .nili, b, h => sameSc_eq (by cases b <;> first | exact h | (simp only [sameD, sameSc] at h; cases h))
theorem sameDs_eq : ∀ (l r : List AV), sameDs l r = true → l = r
  | [], [], _ => rfl
  | a :: l, b :: r, h => by
    simp only [sameDs, Bool.and_eq_true] at h
    rw [sameD_eq _ _ h.1, sameDs_eq _ _ h.2]
  | [], _ :: _, h => by simp [sameDs] at h
  | _ :: _, [], h => by simp [sameDs] at h
end
/-! A state, told in full: what the frame holds, the blocks, how many names there are. -/
structure Told where
  fr : List (Nat × AV)
  bl : List (Nat × Blk)
  n : Nat
noncomputable def frameOf : List (Nat × AV) → Tr AV
  | [] => .lf
  | (i, v) :: l => setF (some v) (path i) (frameOf l)
noncomputable def blocksOf : List (Nat × Blk) → Tr Blk
  | [] => .lf
  | (i, b) :: l => setF (some b) (path i) (blocksOf l)
noncomputable def Told.st (L : Told) : St := ⟨blocksOf L.bl, L.n⟩
noncomputable def Told.frame (L : Told) : Tr AV := frameOf L.fr
theorem blocksOf_get {i : Nat} {b : Blk} : ∀ {l : List (Nat × Blk)}, (blocksOf l).get (path i) = some b → (i, b) ∈ l
  | [], h => by rw [blocksOf, get_lf] at h; cases h
  | (j, c) :: l, h => by
    simp only [blocksOf, setF_eq, get_put] at h
    split at h
    · rename_i e
      cases h
      rw [e]
      simp
    · exact List.mem_cons_of_mem _ (blocksOf_get h)
def keysBelow (n : Nat) : List (Nat × AV) → Bool
  | [] => true
  | (i, _) :: l => Nat.blt i n && keysBelow n l
theorem frameOf_above {n i : Nat} (hi : n ≤ i) : ∀ {l : List (Nat × AV)}, keysBelow n l = true → (frameOf l).get (path i) = none
  | [], _ => get_lf _
  | (j, v) :: l, h => by
    simp only [keysBelow, Bool.and_eq_true, Nat.blt, Nat.ble_eq] at h
    simp only [frameOf, setF_eq, get_put]
    rw [if_neg (by have := h.1; simp at this; omega)]
    exact frameOf_above hi h.2
def sameOD (a b : Option AV) : Bool := match a, b with
  | none, none => true
  | some a, some b => sameD a b
  | _, _ => false
theorem sameOD_eq {a b : Option AV} (h : sameOD a b = true) : a = b := by
  cases a <;> cases b <;> simp only [sameOD, reduceCtorEq] at h ⊢
  · rw [sameD_eq _ _ h]
noncomputable def sameFr (a b : Tr AV) : Nat → Bool
  | 0 => true
  | k + 1 => sameOD (getF (path k) a) (getF (path k) b) && sameFr a b k
theorem sameFr_at {a b : Tr AV} : ∀ {k : Nat}, sameFr a b k = true → ∀ i, i < k → a.get (path i) = b.get (path i)
  | 0, _, i, hi => by omega
  | k + 1, h, i, hi => by
    simp only [sameFr, Bool.and_eq_true, getF_eq] at h
    by_cases e : i = k
    · rw [e]; exact sameOD_eq h.1
    · exact sameFr_at h.2 i (by omega)
def sameEx : Ex → Ex → Bool
  | .nrm, .nrm => true
  | .ret, .ret => true
  | .exit a, .exit b => Nat.beq a b
  | _, _ => false
theorem sameEx_eq {a b : Ex} (h : sameEx a b = true) : a = b := by
  cases a <;> cases b <;> simp only [sameEx, Bool.false_eq_true, Nat.beq_eq] at h <;> first | rfl | rw [h]
/-- what a run came to holds what is told. -/
noncomputable def fitsT (nt : Nat) (e : Ex) (L : Told) : Option (Ex × Tr AV × St) → Bool
  | some (e', fr, s) => sameEx e' e && sameFr fr L.frame nt && keysBelow nt L.fr && Nat.ble s.n L.n && blksIn 0 s.h L.bl
  | none => false
/-! What a body does, from a state to a state. -/
def CutOk (P : Program) (nt lo : Nat) (code : Code) (fr : Tr AV) (s : St) (e : Ex) (fr' : Tr AV) (s' : St) : Prop :=
  ∀ (β : Beta) (w : World) (a : Act), Sit β s w → Globs P β → FRep β nt fr a →
    ∀ Q : Exit → Act → World → Prop, (∀ a' w' β', Ext lo β s w β' s' w' → FRep β' nt fr' a' → Q (exOf e) a' w') → code.wp P Q a w
def RndsOk (P : Program) (nt lo : Nat) (code : Code) (fr : Tr AV) (s : St) (e : Ex) (fr' : Tr AV) (s' : St) : Prop :=
  ∃ m, ∀ (β : Beta) (w : World) (a : Act), Sit β s w → Globs P β → FRep β nt fr a →
    ∀ Q : Exit → Act → World → Prop, (∀ a' w' β', Ext lo β s w β' s' w' → FRep β' nt fr' a' → Q (exOf e) a' w') → Code.rounds P code Q m a w
section
variable {P : Program} {nt lo n : Nat} {c : CallF} {fr fr1 fr2 : Tr AV} {s s1 s2 : St} {e : Ex}
theorem told_sit {β : Beta} {w : World} {L : Told} (hs : Sit β s1 w) (hb : blksIn 0 s1.h L.bl = true) (hn : s1.n ≤ L.n) : Sit β L.st w ∧ ∀ i, Live L.st.h i → Live s1.h i := by
  have at_ : ∀ i b, L.st.h.get (path i) = some b → ∃ a, s1.h.get (path i) = some a ∧ sameBlk a b = true := fun i b h => (blksIn_at hb i b (blocksOf_get h)).2
  have live : ∀ i, Live L.st.h i → Live s1.h i := fun i ⟨b, h⟩ => let ⟨a, h1, _⟩ := at_ i b h; ⟨a, h1⟩
  refine ⟨⟨?_, ?_, ?_⟩, live⟩
  · intro i b h
    obtain ⟨a, h1, h2⟩ := at_ i b h
    obtain ⟨p, h3, h4⟩ := hs.blk i a h1
    exact ⟨p, h3, sameBlk_rep h2 h4⟩
  · intro i j p q hi hj hp hq
    exact hs.inj i j p q (live i hi) (live j hj) hp hq
  · intro i p hp
    have := hs.low i p hp
    exact ⟨by show i < L.n; omega, this.2⟩
theorem told_ext {β β1 : Beta} {w w1 : World} {L : Told} (hx : Ext lo β s w β1 s1 w1) (hb : blksIn 0 s1.h L.bl = true) (hn : s1.n ≤ L.n) : Ext lo β s w β1 L.st w1 := by
  obtain ⟨h1, h2⟩ := told_sit hx.sit hb hn
  exact ⟨h1, hx.os, hx.tape, hx.output, hx.size, hx.same, Nat.le_trans hx.le hn, hx.keep, hx.new, fun i hi hl => hx.old i hi (h2 i hl)⟩
theorem told_frame {β : Beta} {a : Act} {L : Told} (hf : FRep β nt fr1 a) (hs : sameFr fr1 L.frame nt = true) (hk : keysBelow nt L.fr = true) : FRep β nt L.frame a := by
  refine ⟨hf.size, hf.defers, fun t => ?_⟩
  by_cases ht : t < nt
  · rw [← sameFr_at hs t ht]
    exact hf.at_ t
  · have h1 : L.frame.get (path t) = none := frameOf_above (by omega) hk
    rw [h1]
    have h2 : a.tmps.getD t undef = undef := by
      rw [Array.getD_eq_getD_getElem?, Array.getElem?_eq_none (by rw [hf.size]; omega)]
      rfl
    rw [h2]
    exact ⟨#[], rfl, rfl⟩
/-- what fits what is told may be taken for it. -/
theorem CutOk.told {code : Code} {L : Told} (h : CutOk P nt lo code fr s e fr1 s1) {e1 : Ex} (hf : fitsT nt e1 L (some (e, fr1, s1)) = true) : CutOk P nt lo code fr s e1 L.frame L.st := by
  simp only [fitsT, Bool.and_eq_true, Nat.ble_eq] at hf
  obtain ⟨⟨⟨⟨h1, h2⟩, h3⟩, h4⟩, h5⟩ := hf
  obtain rfl := sameEx_eq h1
  intro β w a hs hg hfr Q hQ
  exact h β w a hs hg hfr Q fun a' w' β' hx hf' => hQ a' w' β' (told_ext hx h5 h4) (told_frame hf' h2 h3)
theorem cut_run {code : Code} {L : Told} (hc : FCallOk P c) (h : fitsT nt e L ((cCode P nt code).run c n lo fr s) = true) : CutOk P nt lo code fr s e L.frame L.st := by
  cases hr : (cCode P nt code).run c n lo fr s with
  | none => rw [hr] at h; cases h
  | some r =>
    obtain ⟨e', fr', s'⟩ := r
    rw [hr] at h
    exact CutOk.told (fun β w a hs hg hf Q hQ => cCode_ok hc n lo code fr s e' fr' s' hr β w a hs hg hf Q hQ) h
theorem cut_seq {code x y : Code} (hcode : code = .seq x y) (hx : CutOk P nt lo x fr s .nrm fr1 s1) (hy : CutOk P nt lo y fr1 s1 e fr2 s2) : CutOk P nt lo code fr s e fr2 s2 := by
  subst hcode
  intro β w a hs hg hf Q hQ
  refine wp_seq (hx β w a hs hg hf _ ?_)
  intro a1 w1 β1 hx1 hf1
  have hle := hx1.beta hs
  exact hy β1 w1 a1 hx1.sit (hg.mono hle) hf1 Q fun a2 w2 β2 hx2 hf2 => hQ a2 w2 β2 (hx1.trans hs hx2) hf2
theorem cut_seq_out {code x y : Code} (hcode : code = .seq x y) (he : sameEx e .nrm = false) (hx : CutOk P nt lo x fr s e fr1 s1) : CutOk P nt lo code fr s e fr1 s1 := by
  subst hcode
  intro β w a hs hg hf Q hQ
  refine wp_seq (hx β w a hs hg hf _ ?_)
  intro a1 w1 β1 hx1 hf1
  have := hQ a1 w1 β1 hx1 hf1
  cases e with
  | nrm => cases he
  | exit k => exact this
  | ret => exact this
theorem cut_block {code x : Code} {id : Nat} (hcode : code = .block id x) (hx : CutOk P nt lo x fr s (.exit id) fr1 s1) : CutOk P nt lo code fr s .nrm fr1 s1 := by
  subst hcode
  intro β w a hs hg hf Q hQ
  refine wp_block (hx β w a hs hg hf _ ?_)
  intro a1 w1 β1 hx1 hf1
  simp only [exOf, Exit.inBlock, if_true]
  exact hQ a1 w1 β1 hx1 hf1
theorem cut_block_out {code x : Code} {id : Nat} (hcode : code = .block id x) (he : sameEx e (.exit id) = false) (hx : CutOk P nt lo x fr s e fr1 s1) : CutOk P nt lo code fr s e fr1 s1 := by
  subst hcode
  intro β w a hs hg hf Q hQ
  refine wp_block (hx β w a hs hg hf _ ?_)
  intro a1 w1 β1 hx1 hf1
  have := hQ a1 w1 β1 hx1 hf1
  cases e with
  | nrm => exact this
  | ret => exact this
  | exit k =>
    have : ¬ k = id := by
      intro h
      subst h
      simp only [sameEx] at he
      rw [Nat.beq_refl] at he
      cases he
    simp only [exOf, Exit.inBlock, this, if_false]
    assumption
theorem cut_scope {code x : Code} (hcode : code = .scope x) (hx : CutOk P nt lo x fr s e fr1 s1) : CutOk P nt lo code fr s e fr1 s1 := by
  subst hcode
  intro β w a hs hg hf Q hQ
  refine wp_scope_straight (hx β w a hs hg hf _ ?_)
  intro a1 w1 β1 hx1 hf1
  have := hQ a1 w1 β1 hx1 hf1
  cases e <;> exact this
theorem cut_loop {code x : Code} (hcode : code = .loop x) (hx : RndsOk P nt lo x fr s e fr1 s1) : CutOk P nt lo code fr s e fr1 s1 := by
  subst hcode
  intro β w a hs hg hf Q hQ
  obtain ⟨m, h⟩ := hx
  exact wp_loop_rounds m (h β w a hs hg hf Q hQ)
theorem loop_out {x : Code} (he : sameEx e .nrm = false) (hx : CutOk P nt lo x fr s e fr1 s1) : RndsOk P nt lo x fr s e fr1 s1 := by
  refine ⟨1, fun β w a hs hg hf Q hQ => ?_⟩
  rw [rounds_succ]
  refine hx β w a hs hg hf _ ?_
  intro a1 w1 β1 hx1 hf1
  have := hQ a1 w1 β1 hx1 hf1
  cases e with
  | nrm => cases he
  | exit k => exact this
  | ret => exact this
theorem loop_round {x : Code} (hx : CutOk P nt lo x fr s .nrm fr1 s1) (hl : RndsOk P nt lo x fr1 s1 e fr2 s2) : RndsOk P nt lo x fr s e fr2 s2 := by
  obtain ⟨m, hm⟩ := hl
  refine ⟨m + 1, fun β w a hs hg hf Q hQ => ?_⟩
  rw [rounds_succ]
  refine hx β w a hs hg hf _ ?_
  intro a1 w1 β1 hx1 hf1
  have hle := hx1.beta hs
  exact hm β1 w1 a1 hx1.sit (hg.mono hle) hf1 Q fun a2 w2 β2 hx2 hf2 => hQ a2 w2 β2 (hx1.trans hs hx2) hf2
/-- so many rounds. -/
noncomputable def roundsF (b : Tr AV → St → Option (Ex × Tr AV × St)) (k : Nat) : Tr AV → St → Option (Ex × Tr AV × St) :=
  Nat.rec (motive := fun _ => Tr AV → St → Option (Ex × Tr AV × St)) (fun fr s => some (.nrm, fr, s)) (fun _ ih fr s => match b fr s with
    | some (.nrm, fr', s') => ih fr' s'
    | _ => none) k
theorem roundsF_succ (b : Tr AV → St → Option (Ex × Tr AV × St)) (k : Nat) (fr : Tr AV) (s : St) : roundsF b (k + 1) fr s = match b fr s with
    | some (.nrm, fr', s') => roundsF b k fr' s'
    | _ => none := rfl
theorem rounds_run {x : Code} (hc : FCallOk P c) {L : Told} (hl : RndsOk P nt lo x L.frame L.st e fr2 s2) : ∀ (k : Nat) (fr : Tr AV) (s : St), fitsT nt .nrm L (roundsF ((cCode P nt x).run c n lo) k fr s) = true → RndsOk P nt lo x fr s e fr2 s2
  | 0, fr, s, h => by
    have h : fitsT nt .nrm L (some (.nrm, fr, s)) = true := h
    simp only [fitsT, Bool.and_eq_true, Nat.ble_eq] at h
    obtain ⟨⟨⟨⟨_, h2⟩, h3⟩, h4⟩, h5⟩ := h
    obtain ⟨m, hm⟩ := hl
    refine ⟨m, fun β w a hs hg hf Q hQ => ?_⟩
    have hx := told_ext (Ext.refl (lo := lo) hs) h5 h4
    exact hm β w a hx.sit hg (told_frame hf h2 h3) Q fun a' w' β' hx2 hf2 => hQ a' w' β' (hx.trans hs hx2) hf2
  | k + 1, fr, s, h => by
    rw [roundsF_succ] at h
    split at h
    case h_2 => cases h
    case h_1 fr1 s1 h1 =>
      exact loop_round (fun β w a hs hg hf Q hQ => cCode_ok hc n lo x fr s _ fr1 s1 h1 β w a hs hg hf Q hQ) (rounds_run hc hl k fr1 s1 h)
theorem loop_end {x : Code} (hc : FCallOk P c) {L : Told} : ∀ (k : Nat) (fr : Tr AV) (s : St), fitsT nt e L (loopF ((cCode P nt x).run c n lo) k fr s) = true → RndsOk P nt lo x fr s e L.frame L.st
  | 0, fr, s, h => by cases h
  | k + 1, fr, s, h => by
    rw [loopF_succ] at h
    split at h
    case h_1 fr1 s1 h1 =>
      exact loop_round (fun β w a hs hg hf Q hQ => cCode_ok hc n lo x fr s _ fr1 s1 h1 β w a hs hg hf Q hQ) (loop_end hc k fr1 s1 h)
    case h_2 hne =>
      have h2 : CutOk P nt lo x fr s e L.frame L.st := cut_run hc h
      refine loop_out ?_ h2
      cases e with
      | exit k => rfl
      | ret => rfl
      | nrm =>
        exfalso
        unfold fitsT at h
        split at h
        case h_2 => cases h
        case h_1 e' fr' s' hr =>
          simp only [Bool.and_eq_true] at h
          obtain rfl := sameEx_eq h.1.1.1.1
          exact hne _ _ hr
/-! The first steps of a body. -/
def restOf : Nat → Code → Code
  | k + 1, .seq _ b => restOf k b
  | _, c => c
noncomputable def stepsF (P : Program) (nt : Nat) : Nat → Code → CodeF
  | k + 1, .seq a b => seqF ((cCode P nt a).run) (stepsF P nt k b)
  | _, _ => fun _ _ _ fr s => some (.nrm, fr, s)
theorem cut_steps {L : Told} (hc : FCallOk P c) {e : Ex} : ∀ (k : Nat) (code : Code) (fr : Tr AV) (s : St), fitsT nt .nrm L (stepsF P nt k code c n lo fr s) = true → CutOk P nt lo (restOf k code) L.frame L.st e fr2 s2 → CutOk P nt lo code fr s e fr2 s2 := by
  have base : ∀ (code : Code) (fr : Tr AV) (s : St), fitsT nt .nrm L (some (.nrm, fr, s)) = true → CutOk P nt lo code L.frame L.st e fr2 s2 → CutOk P nt lo code fr s e fr2 s2 := by
    intro code fr s h hr
    simp only [fitsT, Bool.and_eq_true, Nat.ble_eq] at h
    obtain ⟨⟨⟨⟨_, h2⟩, h3⟩, h4⟩, h5⟩ := h
    intro β w a hs hg hf Q hQ
    have hx := told_ext (Ext.refl (lo := lo) hs) h5 h4
    exact hr β w a hx.sit hg (told_frame hf h2 h3) Q fun a' w' β' hx2 hf2 => hQ a' w' β' (hx.trans hs hx2) hf2
  intro k
  induction k with
  | zero => intro code fr s h hr; exact base code fr s (by cases code <;> exact h) (by cases code <;> exact hr)
  | succ k ih =>
    intro code fr s h hr
    cases code with
    | seq x y =>
      simp only [stepsF, seqF, restOf] at h hr
      split at h
      case h_1 fr1 s1 h1 =>
        exact cut_seq rfl (fun β w a hs hg hf Q hQ => cCode_ok hc n lo x fr s _ fr1 s1 h1 β w a hs hg hf Q hQ) (ih y fr1 s1 h hr)
      case h_2 hne =>
        exfalso
        unfold fitsT at h
        split at h
        case h_2 => cases h
        case h_1 e' fr' s' hr' =>
          simp only [Bool.and_eq_true] at h
          obtain rfl := sameEx_eq h.1.1.1.1
          exact hne _ _ hr'
    | _ => exact base _ fr s h hr
theorem cut_steps' {L : Told} (hc : FCallOk P c) {e : Ex} {k : Nat} {code rest : Code} (hrest : restOf k code = rest) (h : fitsT nt .nrm L (stepsF P nt k code c n lo fr s) = true) (hr : CutOk P nt lo rest L.frame L.st e fr2 s2) : CutOk P nt lo code fr s e fr2 s2 :=
  cut_steps hc k code fr s h (hrest ▸ hr)
def condIs (P : Program) (fr : Tr AV) (t : Bool) : Code → Bool
  | .cond x _ _ => match opnd P fr x with
    | some (.bool b) => b == t
    | _ => false
  | _ => false
theorem cut_cond {code x : Code} {t : Bool} (hx : condIs P fr t code = true) (hcode : codeAt [bif t then .l else .r] code = x) (h : CutOk P nt lo x fr s e fr1 s1) : CutOk P nt lo code fr s e fr1 s1 := by
  subst hcode
  cases code with
  | cond o y z =>
    simp only [condIs] at hx
    split at hx
    case h_2 => cases hx
    case h_1 b hb =>
    obtain rfl := eq_of_beq hx
    intro β w a hs hg hf Q hQ
    refine wp_cond (opnd_ok hf hg hb) ?_
    cases b with
    | true => exact h β w a hs hg hf Q hQ
    | false => exact h β w a hs hg hf Q hQ
  | _ => cases hx
/-- a call, out of its body's run. -/
theorem call_cut {f : FuncId} {fn : Func} {body : Code} {args as : List AV} (hfn : P.funcs[f]? = some fn) (hb : fn.body = some body) (hn : args.length ≤ fn.ntmps) (hcut : CutOk P fn.ntmps lo body (startFr args) s e fr1 s1) (he : exNrm e = true) (hr : ress P s1 fr1 fn.results.toList = some as) {β : Beta} {w : World} {vs : Array Value} (hs : Sit β s w) (hg : Globs P β) (ha : Reps β args vs.toList) :
    Calls P f vs w fun e w' => ∃ u β', e = .returned u ∧ Ext lo β s w β' s1 w' ∧ Rep β' (oneOf as) u := by
  refine calls_of_wp hfn hb (hcut β w _ hs hg (start_ok ha hn) _ ?_)
  intro a' w' β' hx hf'
  obtain ⟨u, h1, h2⟩ := results_ok hx.sit hf' hr
  have fin : a'.defers = [] ∧ ∃ v, (results fn a'.tmps).run P w' = .ok v w' ∧ ∃ u β', Ending.returned v = .returned u ∧ Ext lo β s w β' s1 w' ∧ Rep β' (oneOf as) u := ⟨hf'.defers, u, h1, u, β', rfl, hx, h2⟩
  cases e with
  | nrm => exact fin
  | ret => exact fin
  | exit k => cases he
/-! A call at a told state, known by its body's pieces. -/
noncomputable def memoF (P : Program) (f0 : FuncId) (as0 : List AV) (L : Told) (v0 : AV) (L1 : Told) (c : CallF) : CallF := fun lo f args s =>
  bif Nat.beq f f0 && Nat.beq lo P.globals.size && sameDs args as0 && Nat.ble s.n L.n && blksIn 0 s.h L.bl then some (v0, L1.st) else c lo f args s
def resIs (v : AV) : Option (List AV) → Bool
  | some l => sameD (oneOf l) v
  | none => false
/-- what a called body's pieces come to. -/
def KnowOk (P : Program) (f0 : FuncId) (as0 : List AV) (L : Told) (v0 : AV) (L1 : Told) : Prop :=
  ∃ fn body fr1 e, P.funcs[f0]? = some fn ∧ fn.body = some body ∧ as0.length ≤ fn.ntmps ∧ exNrm e = true ∧ CutOk P fn.ntmps P.globals.size body (startFr as0) L.st e fr1 L1.st ∧ resIs v0 (ress P L1.st fr1 fn.results.toList) = true
theorem know {f0 : FuncId} {as0 : List AV} {L : Told} {v0 : AV} {L1 : Told} {fn : Func} {body : Code} {fr1 : Tr AV} {e : Ex} {nt gs : Nat} (hfn : P.funcs[f0]? = some fn) (hb : fn.body = some body) (hnt : fn.ntmps = nt) (hn : Nat.ble as0.length nt = true) (hgs : P.globals.size = gs) (he : exNrm e = true) (hcut : CutOk P nt gs body (startFr as0) L.st e fr1 L1.st) (hr : resIs v0 (ress P L1.st fr1 fn.results.toList) = true) : KnowOk P f0 as0 L v0 L1 := by
  subst hnt hgs
  exact ⟨fn, body, fr1, e, hfn, hb, Nat.le_of_ble_eq_true hn, he, hcut, hr⟩
theorem memoF_ok {f0 : FuncId} {as0 : List AV} {L : Told} {v0 : AV} {L1 : Told} (hk : KnowOk P f0 as0 L v0 L1) (hc : FCallOk P c) : FCallOk P (memoF P f0 as0 L v0 L1 c) := by
  intro lo f args s v s' h β w vs hs hg ha
  unfold memoF at h
  rw [Bool.cond_eq_ite] at h
  split at h
  case isFalse => exact hc lo f args s v s' h β w vs hs hg ha
  case isTrue hcond =>
  simp only [Bool.and_eq_true, Nat.beq_eq, Nat.ble_eq] at hcond
  obtain ⟨⟨⟨⟨rfl, rfl⟩, h3⟩, h4⟩, h5⟩ := hcond
  obtain rfl := sameDs_eq _ _ h3
  cases h
  obtain ⟨fn, body, fr1, e, hfn, hb, hn, he, hcut, hr⟩ := hk
  have hx := told_ext (lo := P.globals.size) (Ext.refl hs) h5 h4
  unfold resIs at hr
  split at hr
  case h_2 => cases hr
  case h_1 l hl =>
  obtain rfl := sameD_eq _ _ hr
  refine (call_cut hfn hb hn hcut he hl hx.sit hg ha).mono ?_
  rintro e w' ⟨u, β', rfl, hx2, hr2⟩
  exact ⟨u, β', rfl, hx.trans hs hx2, hr2⟩
def isTrueR : Option (List AV) → Bool
  | some [.bool b] => b
  | _ => false
theorem true_cut {W : World} (hsh : W.ShapedOpen P) {tabs : List (Nat × List Int)} (ht : ∀ x ∈ tabs, HoldsAt W x.1 x.2 ∧ x.1 < P.globals.size) {f : FuncId} {fn : Func} {body : Code} {args : List AV} {vs : Array Value} (ha : ∀ β, Reps β args vs.toList)
    (hfn : P.funcs[f]? = some fn) (hb : fn.body = some body) (hn : Nat.ble args.length fn.ntmps = true) {L : Told} (hcut : CutOk P fn.ntmps P.globals.size body (startFr args) ⟨heapOf tabs, P.globals.size⟩ .ret L.frame L.st) (hr : isTrueR (ress P L.st L.frame fn.results.toList) = true) :
    Calls P f vs W fun e w' => e = .returned (.bool true) ∧ Below W.heap.size W w' := by
  obtain ⟨hs, hg⟩ := sit_start hsh ht
  unfold isTrueR at hr
  split at hr
  case h_2 => cases hr
  case h_1 b he =>
  subst hr
  refine (call_cut hfn hb (Nat.le_of_ble_eq_true hn) hcut rfl he hs hg (ha _)).mono ?_
  rintro e w' ⟨u, β', rfl, hx, hr⟩
  refine ⟨by rw [show u = .bool true from hr], hx.os, hx.tape, hx.output, hx.size, fun k hk => hx.keep k hk ?_⟩
  intro i p hi hl hp
  obtain ⟨c, hc⟩ := hl
  obtain ⟨q, hq, _⟩ := hs.blk i c hc
  have := (hs.low i q hq).1
  simp only at this
  omega
end
end Ev
#print axioms Ev.true_cut
end Go.Proofs.Ytnelncafocgfhaa
