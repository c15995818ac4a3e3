/- The abstract memory and what it stands for. -/
import Derived.Test.YtnelncafocgfhaaEv
import Derived.Below
namespace Go.Proofs.Ytnelncafocgfhaa
namespace Ev
/-! Tries. -/
theorem get_lf {α : Type} (k : Pth) : Tr.get k (.lf : Tr α) = none := by cases k <;> rfl
theorem get_set_same {α : Type} (x : Option α) (k : Pth) : ∀ t : Tr α, Tr.get k (Tr.set x k t) = x := by
  induction k with
  | h => intro t; cases t <;> rfl
  | o p ih => intro t; cases t <;> exact ih _
  | i p ih => intro t; cases t <;> exact ih _
theorem get_set_other {α : Type} (x : Option α) (k : Pth) : ∀ (k' : Pth) (t : Tr α), k' ≠ k → Tr.get k' (Tr.set x k t) = Tr.get k' t := by
  induction k with
  | h => intro k' t hk; cases k' <;> cases t <;> first | exact absurd rfl hk | simp [Tr.set, Tr.get, get_lf]
  | o p ih =>
    intro k' t hk
    cases k' with
    | h => cases t <;> rfl
    | o q => cases t <;> simp only [Tr.set, Tr.get] <;> rw [ih _ _ (fun e => hk (by rw [e]))] <;> simp [get_lf]
    | i q => cases t <;> simp [Tr.set, Tr.get, get_lf]
  | i p ih =>
    intro k' t hk
    cases k' with
    | h => cases t <;> rfl
    | o q => cases t <;> simp [Tr.set, Tr.get, get_lf]
    | i q => cases t <;> simp only [Tr.set, Tr.get] <;> rw [ih _ _ (fun e => hk (by rw [e]))] <;> simp [get_lf]
def Pth.val : Pth → Nat
  | .h => 0
  | .o p => 2 * p.val + 1
  | .i p => 2 * p.val + 2
theorem val_next : ∀ p : Pth, p.next.val = p.val + 1
  | .h => rfl
  | .o p => by simp [Pth.next, Pth.val]
  | .i p => by simp only [Pth.next, Pth.val]; rw [val_next p]; omega
theorem val_pathV : ∀ k v : Nat, 2 ^ k ≤ v → v < 2 ^ (k + 1) → (pathV k v).val = v - 1
  | 0, v, h1, h2 => by
    have : v = 1 := by omega
    subst this
    rfl
  | k + 1, v, h1, h2 => by
    have ih := val_pathV k (v / 2) (by rw [Nat.pow_succ] at h1; omega) (by rw [Nat.pow_succ] at h2; omega)
    have hp : 1 ≤ 2 ^ k := Nat.one_le_two_pow
    have h3 : 2 ≤ v := by rw [Nat.pow_succ] at h1; omega
    have e1 : Nat.mod v 2 = v % 2 := rfl
    have e2 : Nat.div v 2 = v / 2 := rfl
    rw [pathV, e1, e2]
    by_cases h : v % 2 = 0
    · rw [h]
      show 2 * (pathV k (v / 2)).val + 1 = v - 1
      rw [ih]
      omega
    · rw [show Nat.beq (v % 2) 0 = false by rw [Bool.eq_false_iff]; intro e; exact h (Nat.eq_of_beq_eq_true e)]
      show 2 * (pathV k (v / 2)).val + 2 = v - 1
      rw [ih]
      omega
theorem val_path (n : Nat) : (path n).val = n := by
  have h0 : Nat.succ n ≠ 0 := by omega
  rw [path, val_pathV _ _ (Nat.log2_self_le h0) Nat.lt_log2_self]
  rfl
theorem path_inj {a b : Nat} (h : path a = path b) : a = b := by rw [← val_path a, h, val_path b]
theorem get_put {α : Type} (x : Option α) (a b : Nat) (t : Tr α) : Tr.get (path b) (Tr.set x (path a) t) = if b = a then x else Tr.get (path b) t := by
  by_cases h : b = a
  · subst h; rw [if_pos rfl, get_set_same]
  · rw [if_neg h, get_set_other _ _ _ _ (fun e => h (path_inj e))]
/-! Values. -/
abbrev Beta := Nat → Option (Nat × Nat)
def CapOk (off c t : Nat) : ACap → Prop
  | .fix k => c = k
  | .opn size least => least ≤ c ∧ off + c * size = t ∧ 0 < size ∧ c ≤ maxLen
/-- what is not known. -/
class Env where
  num : Int
  txt : Nat → List UInt8
def Env.of [Env] (low : Bool) : Int := bif low then Env.num % 1048576 else Env.num
set_option linter.unusedSectionVars false
variable [Env]
def SymRep : Sym → Value → Prop
  | .txt i l, v => v = .string ⟨(Env.txt i).toArray⟩ ∧ ∀ x ∈ l, Env.txt i ≠ x
  | .lin l a b, v => v = .int .i64 (IntKind.i64.wrap (a + b * Env.of l))
  | .res n r, v => ∃ z : Int, v = .int .i64 z ∧ z.tmod n = r
  | .rng k lo hi, v => ∃ z : Int, v = .int k z ∧ lo ≤ z ∧ z ≤ hi
theorem SymRep.one {s : Sym} {v : Value} (h : SymRep s v) : v.oneCell' = true ∧ v.cells = #[v] := by
  cases s with
  | txt i l => obtain ⟨rfl, _⟩ := h; exact ⟨rfl, rfl⟩
  | lin l a b => obtain rfl := h; exact ⟨rfl, rfl⟩
  | res n r => obtain ⟨z, rfl, _⟩ := h; exact ⟨rfl, rfl⟩
  | rng k lo hi => obtain ⟨z, rfl, _⟩ := h; exact ⟨rfl, rfl⟩
mutual
def Rep (β : Beta) : AV → Value → Prop
  | .sym s, v => SymRep s v
  | .int k n, v => v = .int k n
  | .bool b, v => v = .bool b
  | .str s, v => v = .string ⟨s.toArray⟩
  | .flt k b, v => v = .float k b
  | .ptr b off, v => ∃ n t, β b = some (n, t) ∧ v = .pointer (some ⟨n, off, none⟩)
  | .nilp, v => v = .pointer none
  | .slc b off len cap, v => ∃ n t c, β b = some (n, t) ∧ v = .slice (some ⟨n, off, none⟩) len c ∧ len ≤ c ∧ CapOk off c t cap
  | .nils, v => v = .slice none 0 0
  | .emp, v => ∃ a c, v = .slice (some a) 0 c
  | .map b, v => ∃ n t, β b = some (n, t) ∧ v = .map (some n)
  | .nilm, v => v = .map none
  | .fn f cap, v => ∃ vs : Array Value, v = .func (.func f) #[] vs ∧ Reps β cap vs.toList
  | .nilf, v => v = .nilFunc
  | .ifc t a, v => ∃ u, v = .iface t u ∧ Rep β a u
  | .nili, v => v = .nilIface
  | .agg l, v => ∃ vs : Array Value, v = .agg vs ∧ Reps β l vs.toList
  | .tup l, v => ∃ vs : Array Value, v = .tuple vs ∧ Reps β l vs.toList
def Reps (β : Beta) : List AV → List Value → Prop
  | [], vs => vs = []
  | a :: l, vs => ∃ u r, vs = u :: r ∧ Rep β a u ∧ Reps β l r
end
def Beta.le (β β' : Beta) : Prop := ∀ i p, β i = some p → β' i = some p
theorem Beta.le_refl (β : Beta) : β.le β := fun _ _ h => h
theorem Beta.le_trans {a b c : Beta} (h : a.le b) (k : b.le c) : a.le c := fun i p e => k i p (h i p e)
mutual
theorem Rep.mono {β β' : Beta} (h : β.le β') : ∀ (a : AV) (v : Value), Rep β a v → Rep β' a v
  | .sym _, _, e => e
  | .int .., _, e => e
  | .bool _, _, e => e
  | .str _, _, e => e
  | .flt .., _, e => e
  | .ptr .., _, ⟨n, t, e, r⟩ => ⟨n, t, h _ _ e, r⟩
  | .nilp, _, e => e
  | .slc .., _, ⟨n, t, c, e, r⟩ => ⟨n, t, c, h _ _ e, r⟩
  | .nils, _, e => e
  | .emp, _, e => e
  | .map _, _, ⟨n, t, e, r⟩ => ⟨n, t, h _ _ e, r⟩
  | .nilm, _, e => e
  | .fn _ cap, _, ⟨vs, e, r⟩ => ⟨vs, e, Reps.mono h cap _ r⟩
  | .nilf, _, e => e
  | .ifc _ a, _, ⟨u, e, r⟩ => ⟨u, e, Rep.mono h a u r⟩
  | .nili, _, e => e
  | .agg l, _, ⟨vs, e, r⟩ => ⟨vs, e, Reps.mono h l _ r⟩
  | .tup l, _, ⟨vs, e, r⟩ => ⟨vs, e, Reps.mono h l _ r⟩
theorem Reps.mono {β β' : Beta} (h : β.le β') : ∀ (l : List AV) (vs : List Value), Reps β l vs → Reps β' l vs
  | [], _, e => e
  | a :: l, _, ⟨u, r, e, ha, hl⟩ => ⟨u, r, e, Rep.mono h a u ha, Reps.mono h l r hl⟩
end
theorem Rep.mono' {β β' : Beta} {a : AV} {v : Value} (r : Rep β a v) (h : β.le β') : Rep β' a v := Rep.mono h a v r
theorem Reps.mono' {β β' : Beta} {l : List AV} {vs : List Value} (r : Reps β l vs) (h : β.le β') : Reps β' l vs := Reps.mono h l vs r
theorem Reps.length {β : Beta} : ∀ {l : List AV} {vs : List Value}, Reps β l vs → vs.length = l.length
  | [], _, e => by rw [e]; rfl
  | _ :: _, _, ⟨_, _, e, _, hl⟩ => by rw [e, List.length_cons, List.length_cons, Reps.length hl]
theorem Reps.at {β : Beta} : ∀ {l : List AV} {vs : List Value}, Reps β l vs → ∀ (i : Nat) (a : AV), l[i]? = some a → ∃ u, vs[i]? = some u ∧ Rep β a u
  | a :: l, _, ⟨u, r, e, ha, hl⟩, 0, b, hb => ⟨u, by rw [e]; rfl, by simp at hb; rw [← hb]; exact ha⟩
  | a :: l, _, ⟨u, r, e, ha, hl⟩, i + 1, b, hb => by rw [e]; simpa using Reps.at hl i b (by simpa using hb)
theorem Reps.append {β : Beta} : ∀ {l m : List AV} {vs us : List Value}, Reps β l vs → Reps β m us → Reps β (l ++ m) (vs ++ us)
  | [], _, _, _, e, h => by rw [e]; exact h
  | _ :: _, _, _, _, ⟨u, r, e, ha, hl⟩, h => ⟨u, r ++ _, by rw [e]; rfl, ha, Reps.append hl h⟩
theorem Reps.take {β : Beta} : ∀ {l : List AV} {vs : List Value} (n : Nat), Reps β l vs → Reps β (l.take n) (vs.take n)
  | [], _, n, e => by rw [e]; simp [Reps]
  | _ :: _, _, 0, _ => by simp [Reps]
  | _ :: _, _, n + 1, ⟨u, r, e, ha, hl⟩ => ⟨u, r.take n, by rw [e]; rfl, ha, Reps.take n hl⟩
theorem Reps.drop {β : Beta} : ∀ {l : List AV} {vs : List Value} (n : Nat), Reps β l vs → Reps β (l.drop n) (vs.drop n)
  | [], _, n, e => by rw [e]; simp [Reps]
  | _ :: _, _, 0, h => by simpa using h
  | _ :: _, _, n + 1, ⟨u, r, e, ha, hl⟩ => by rw [e]; simpa using Reps.drop n hl
theorem Reps.of_at {β : Beta} : ∀ {l : List AV} {vs : List Value}, vs.length = l.length → (∀ (i : Nat) (a : AV) (u : Value), l[i]? = some a → vs[i]? = some u → Rep β a u) → Reps β l vs
  | [], vs, e, _ => by simpa [Reps] using e
  | a :: l, [], e, _ => by simp at e
  | a :: l, u :: r, e, h => ⟨u, r, rfl, h 0 a u rfl rfl, Reps.of_at (by simpa using e) fun i b v hb hv => h (i + 1) b v (by simpa using hb) (by simpa using hv)⟩
theorem nthA_eq : ∀ (l : List AV) (n : Nat), nthA l n = l[n]?
  | [], _ => by simp [nthA]
  | _ :: _, 0 => rfl
  | _ :: l, n + 1 => by simpa [nthA] using nthA_eq l n
theorem Reps.nth {β : Beta} {l : List AV} {vs : List Value} (h : Reps β l vs) {i : Nat} {a : AV} (e : nthA l i = some a) : ∃ u, vs[i]? = some u ∧ Rep β a u :=
  h.at i a (by rw [← nthA_eq]; exact e)
theorem Reps.rep {β : Beta} {l : List AV} {vs : List Value} (h : Reps β l vs) (n : Nat) : Reps β (rep l n) (List.flatten (List.replicate n vs)) := by
  induction n with
  | zero => simp [Ev.rep, Reps]
  | succ n ih => rw [Ev.rep, List.replicate_succ, List.flatten_cons]; exact h.append ih
theorem cells_rep {β : Beta} {a : AV} {v : Value} (h : Rep β a v) : Reps β a.cells v.cells.toList := by
  cases a with
  | sym s => exact ⟨v, [], by rw [(SymRep.one h).2], h, rfl⟩
  | agg l => obtain ⟨vs, rfl, hl⟩ := h; exact hl
  | tup l => obtain ⟨vs, rfl, hl⟩ := h; exact ⟨_, [], rfl, ⟨vs, rfl, hl⟩, rfl⟩
  | int k n => cases h; exact ⟨_, [], rfl, rfl, rfl⟩
  | bool b => cases h; exact ⟨_, [], rfl, rfl, rfl⟩
  | str s => cases h; exact ⟨_, [], rfl, rfl, rfl⟩
  | flt k b => cases h; exact ⟨_, [], rfl, rfl, rfl⟩
  | ptr b off => obtain ⟨n, t, e, rfl⟩ := h; exact ⟨_, [], rfl, ⟨n, t, e, rfl⟩, rfl⟩
  | nilp => cases h; exact ⟨_, [], rfl, rfl, rfl⟩
  | slc b off len cap => obtain ⟨n, t, c, e, rfl, r⟩ := h; exact ⟨_, [], rfl, ⟨n, t, c, e, rfl, r⟩, rfl⟩
  | nils => cases h; exact ⟨_, [], rfl, rfl, rfl⟩
  | emp => obtain ⟨x, c, rfl⟩ := h; exact ⟨_, [], rfl, ⟨x, c, rfl⟩, rfl⟩
  | map b => obtain ⟨n, t, e, rfl⟩ := h; exact ⟨_, [], rfl, ⟨n, t, e, rfl⟩, rfl⟩
  | nilm => cases h; exact ⟨_, [], rfl, rfl, rfl⟩
  | fn f cap => obtain ⟨vs, rfl, r⟩ := h; exact ⟨_, [], rfl, ⟨vs, rfl, r⟩, rfl⟩
  | nilf => cases h; exact ⟨_, [], rfl, rfl, rfl⟩
  | ifc t a => obtain ⟨u, rfl, r⟩ := h; exact ⟨_, [], rfl, ⟨u, rfl, r⟩, rfl⟩
  | nili => cases h; exact ⟨_, [], rfl, rfl, rfl⟩
theorem oneCell_of {β : Beta} {a : AV} {v : Value} (hs : a.scalar = true) (h : Rep β a v) : v.oneCell' = true := by
  cases a with
  | sym s => exact (SymRep.one h).1
  | agg l => cases hs
  | tup l => cases hs
  | ptr b off => obtain ⟨n, t, e, rfl⟩ := h; rfl
  | slc b off len cap => obtain ⟨n, t, c, e, rfl, r⟩ := h; rfl
  | emp => obtain ⟨x, c, rfl⟩ := h; rfl
  | map b => obtain ⟨n, t, e, rfl⟩ := h; rfl
  | fn f cap => obtain ⟨vs, rfl, r⟩ := h; rfl
  | ifc t a => obtain ⟨u, rfl, r⟩ := h; rfl
  | _ => cases h; rfl
theorem ofCell_rep {β : Beta} {v : Value} {a : AV} (h : ofCell v = some a) : Rep β a v := by
  unfold ofCell at h
  split at h <;> first | (cases h; done) | (cases h; first | rfl | (simp [Rep]; done))
theorem ofCells_rep {β : Beta} : ∀ {l : List Value} {as : List AV}, ofCells l = some as → Reps β as l
  | [], _, h => by cases h; rfl
  | v :: l, as, h => by
    simp only [ofCells] at h
    split at h
    · rename_i a ha
      split at h
      · rename_i r hr
        cases h
        exact ⟨v, l, rfl, ofCell_rep ha, ofCells_rep hr⟩
      · cases h
    · cases h
theorem ofV_rep {β : Beta} {v : Value} {a : AV} (h : ofV v = some a) : Rep β a v := by
  unfold ofV at h
  split at h
  · rename_i cs
    cases hc : ofCells cs.toList with
    | none => rw [hc] at h; cases h
    | some l => rw [hc] at h; cases h; exact ⟨cs, rfl, ofCells_rep hc⟩
  · rename_i cs
    cases hc : ofCells cs.toList with
    | none => rw [hc] at h; cases h
    | some l => rw [hc] at h; cases h; exact ⟨cs, rfl, ofCells_rep hc⟩
  · exact ofCell_rep h
/-! Memory. -/
def MapRep (β : Beta) : List (AV × AV) → List MapEntry → Prop
  | [], es => es = []
  | (k, v) :: l, es => ∃ e r, es = e :: r ∧ Rep β k e.key ∧ Rep β v e.val ∧ MapRep β l r
theorem MapRep.mono {β β' : Beta} (h : β.le β') : ∀ (l : List (AV × AV)) (es : List MapEntry), MapRep β l es → MapRep β' l es
  | [], _, e => e
  | (_, _) :: l, _, ⟨e, r, he, hk, hv, hl⟩ => ⟨e, r, he, Rep.mono h _ _ hk, Rep.mono h _ _ hv, MapRep.mono h l r hl⟩
theorem MapRep.length {β : Beta} : ∀ {l : List (AV × AV)} {es : List MapEntry}, MapRep β l es → es.length = l.length
  | [], _, e => by rw [e]; rfl
  | (_, _) :: _, _, ⟨_, _, e, _, _, hl⟩ => by rw [e, List.length_cons, List.length_cons, MapRep.length hl]
def BRep (β : Beta) : Blk → Option Obj → Nat → Prop
  | .cells T n zs t opn rw, o, total => ∃ cs T' fr, o = some (.cells cs T' fr) ∧ cs.size = total ∧ n ≤ total ∧ (opn = false → total = n) ∧ (rw = true → T' = T ∧ fr = (0, 0)) ∧ ∀ i v, cellAt n zs t i = some v → ∃ u, cs[i]? = some u ∧ Rep β v u
  | .map l, o, _ => ∃ es clock, o = some (.map es clock) ∧ MapRep β l es.toList
  | .iter s pos, o, _ => ∃ full : ByteArray, o = some (.stringIter full pos) ∧ full.data.toList.drop pos = s
theorem BRep.mono {β β' : Beta} (h : β.le β') : ∀ {b : Blk} {o : Option Obj} {t : Nat}, BRep β b o t → BRep β' b o t
  | .cells .., _, _, ⟨cs, T', fr, a, b, c, d, e, f⟩ => ⟨cs, T', fr, a, b, c, d, e, fun i v hv => let ⟨u, h1, h2⟩ := f i v hv; ⟨u, h1, Rep.mono h _ _ h2⟩⟩
  | .map _, _, _, ⟨es, cl, a, b⟩ => ⟨es, cl, a, MapRep.mono h _ _ b⟩
  | .iter .., _, _, h => h
def Live (h : Tr Blk) (i : Nat) : Prop := ∃ b, h.get (path i) = some b
structure Sit (β : Beta) (s : St) (w : World) : Prop where
  blk : ∀ i b, s.h.get (path i) = some b → ∃ p, β i = some p ∧ BRep β b w.heap[p.1]? p.2
  inj : ∀ i j p q, Live s.h i → Live s.h j → β i = some p → β j = some q → p.1 = q.1 → i = j
  low : ∀ i p, β i = some p → i < s.n ∧ p.1 < w.heap.size
structure Ext (lo : Nat) (β : Beta) (s : St) (w : World) (β' : Beta) (s' : St) (w' : World) : Prop where
  sit : Sit β' s' w'
  os : w'.os = w.os
  tape : w'.tape = w.tape
  output : w'.output = w.output
  size : w.heap.size ≤ w'.heap.size
  same : ∀ i, i < s.n → β' i = β i
  le : s.n ≤ s'.n
  keep : ∀ b, b < w.heap.size → (∀ i p, lo ≤ i → Live s.h i → β i = some p → p.1 ≠ b) → w'.heap[b]? = w.heap[b]?
  new : ∀ i p, s.n ≤ i → β' i = some p → w.heap.size ≤ p.1 ∨ ∃ j q, lo ≤ j ∧ Live s.h j ∧ β j = some q ∧ q.1 = p.1
  old : ∀ i, i < s.n → Live s'.h i → Live s.h i
theorem Ext.beta {lo : Nat} {β β' : Beta} {s s' : St} {w w' : World} (hs : Sit β s w) (h : Ext lo β s w β' s' w') : β.le β' := fun i p e => by
  rw [h.same i (hs.low i p e).1]; exact e
theorem Ext.refl {lo : Nat} {β : Beta} {s : St} {w : World} (h : Sit β s w) : Ext lo β s w β s w :=
  ⟨h, rfl, rfl, rfl, Nat.le_refl _, fun _ _ => rfl, Nat.le_refl _, fun _ _ _ => rfl, fun i p hi e => absurd (h.low i p e).1 (by omega), fun _ _ h => h⟩
theorem Ext.trans {lo : Nat} {β β1 β2 : Beta} {s s1 s2 : St} {w w1 w2 : World} (h0 : Sit β s w) (h : Ext lo β s w β1 s1 w1) (k : Ext lo β1 s1 w1 β2 s2 w2) : Ext lo β s w β2 s2 w2 := by
  refine ⟨k.sit, k.os.trans h.os, k.tape.trans h.tape, k.output.trans h.output, Nat.le_trans h.size k.size, fun i hi => (k.same i (Nat.lt_of_lt_of_le hi h.le)).trans (h.same i hi), Nat.le_trans h.le k.le, ?_, ?_, fun i hi hl => h.old i hi (k.old i (Nat.lt_of_lt_of_le hi h.le) hl)⟩
  · intro b hb hn
    refine (k.keep b (Nat.lt_of_lt_of_le hb h.size) ?_).trans (h.keep b hb hn)
    intro i p hi hl hp
    by_cases hin : i < s.n
    · exact hn i p hi (h.old i hin hl) (by rw [← h.same i hin]; exact hp)
    · rcases h.new i p (by omega) hp with hge | ⟨j, q, hj, hlj, hq, hqp⟩
      · omega
      · rw [← hqp]; exact hn j q hj hlj hq
  · intro i p hi hp
    by_cases hin : i < s1.n
    · exact h.new i p hi (by rw [← k.same i hin]; exact hp)
    · rcases k.new i p (by omega) hp with hge | ⟨j, q, hj, hlj, hq, hqp⟩
      · exact .inl (Nat.le_trans h.size hge)
      · by_cases hjn : j < s.n
        · exact .inr ⟨j, q, hj, h.old j hjn hlj, by rw [← h.same j hjn]; exact hq, hqp⟩
        · rcases h.new j q (by omega) hq with hge | ⟨j', q', a, b, c, d⟩
          · exact .inl (by omega)
          · exact .inr ⟨j', q', a, b, c, by omega⟩
end Ev
end Go.Proofs.Ytnelncafocgfhaa
