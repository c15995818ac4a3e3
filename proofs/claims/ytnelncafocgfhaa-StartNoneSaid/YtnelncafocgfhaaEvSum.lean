/- Summaries: a closed call is run once; wherever it is called again, what it made is laid under new names. -/
import Derived.Test.YtnelncafocgfhaaEvFast
namespace Go.Proofs.Ytnelncafocgfhaa
open Go.RowKit
namespace Ev
set_option linter.unusedSectionVars false
variable [Env]
/-! Other names. -/
mutual
def ren (r : Nat → Nat) : AV → AV
  | .sym s => .sym s
  | .ptr b off => .ptr (r b) off
  | .slc b off len cap => .slc (r b) off len cap
  | .map b => .map (r b)
  | .fn f cap => .fn f (rens r cap)
  | .ifc t a => .ifc t (ren r a)
  | .agg l => .agg (rens r l)
  | .tup l => .tup (rens r l)
  | .int k n => .int k n
  | .bool b => .bool b
  | .str s => .str s
  | .flt k b => .flt k b
  | .nilp => .nilp
  | .nils => .nils
  | .emp => .emp
  | .nilm => .nilm
  | .nilf => .nilf
  | .nili => .nili
def rens (r : Nat → Nat) : List AV → List AV
  | [] => []
  | a :: l => ren r a :: rens r l
end
def mapT {α β : Type} (f : α → β) : Tr α → Tr β
  | .lf => .lf
  | .nd l v r => .nd (mapT f l) (match v with | some x => some (f x) | none => none) (mapT f r)
def renM (r : Nat → Nat) : List (AV × AV) → List (AV × AV)
  | [] => []
  | (a, b) :: l => (ren r a, ren r b) :: renM r l
def renB (r : Nat → Nat) : Blk → Blk
  | .cells T n zs t opn rw => .cells T n (rens r zs) (mapT (ren r) t) opn rw
  | .map l => .map (renM r l)
  | .iter s pos => .iter s pos
theorem get_mapT {α β : Type} (f : α → β) (k : Pth) : ∀ t : Tr α, Tr.get k (mapT f t) = (Tr.get k t).map f := by
  induction k with
  | h => intro t; cases t with
    | lf => rfl
    | nd l v r => cases v <;> rfl
  | o p ih => intro t; cases t with
    | lf => rfl
    | nd l v r => exact ih l
  | i p ih => intro t; cases t with
    | lf => rfl
    | nd l v r => exact ih r
theorem rens_length (r : Nat → Nat) : ∀ l : List AV, (rens r l).length = l.length
  | [] => rfl
  | _ :: l => by rw [rens, List.length_cons, List.length_cons, rens_length r l]
theorem nthA_rens (r : Nat → Nat) : ∀ (l : List AV) (i : Nat), nthA (rens r l) i = (nthA l i).map (ren r)
  | [], _ => by simp [rens, nthA]
  | _ :: _, 0 => rfl
  | _ :: l, i + 1 => by simpa [rens, nthA] using nthA_rens r l i
theorem cellAt_ren (r : Nat → Nat) (n : Nat) (zs : List AV) (t : Tr AV) (i : Nat) : cellAt n (rens r zs) (mapT (ren r) t) i = (cellAt n zs t i).map (ren r) := by
  unfold cellAt
  cases Nat.blt i n with
  | false => rfl
  | true =>
    simp only [cond_true, get_mapT, rens_length, nthA_rens]
    cases Tr.get (path i) t <;> rfl
section
variable {β β' : Beta} {r : Nat → Nat}
mutual
theorem Rep.ren (hr : ∀ i p, β i = some p → β' (r i) = some p) : ∀ (a : AV) (v : Value), Rep β a v → Rep β' (ren r a) v
  | .sym _, _, e => e
  | .int .., _, e => e
  | .bool _, _, e => e
  | .str _, _, e => e
  | .flt .., _, e => e
  | .ptr .., _, ⟨n, t, e, q⟩ => ⟨n, t, hr _ _ e, q⟩
  | .nilp, _, e => e
  | .slc .., _, ⟨n, t, c, e, q⟩ => ⟨n, t, c, hr _ _ e, q⟩
  | .nils, _, e => e
  | .emp, _, e => e
  | .map _, _, ⟨n, t, e, q⟩ => ⟨n, t, hr _ _ e, q⟩
  | .nilm, _, e => e
  | .fn _ cap, _, ⟨vs, e, q⟩ => ⟨vs, e, Reps.ren hr cap _ q⟩
  | .nilf, _, e => e
  | .ifc _ a, _, ⟨u, e, q⟩ => ⟨u, e, Rep.ren hr a u q⟩
  | .nili, _, e => e
  | .agg l, _, ⟨vs, e, q⟩ => ⟨vs, e, Reps.ren hr l _ q⟩
  | .tup l, _, ⟨vs, e, q⟩ => ⟨vs, e, Reps.ren hr l _ q⟩
theorem Reps.ren (hr : ∀ i p, β i = some p → β' (r i) = some p) : ∀ (l : List AV) (vs : List Value), Reps β l vs → Reps β' (rens r l) vs
  | [], _, e => e
  | a :: l, _, ⟨u, q, e, ha, hl⟩ => ⟨u, q, e, Rep.ren hr a u ha, Reps.ren hr l q hl⟩
end
theorem MapRep.ren (hr : ∀ i p, β i = some p → β' (r i) = some p) : ∀ (l : List (AV × AV)) (es : List MapEntry), MapRep β l es → MapRep β' (renM r l) es
  | [], _, e => e
  | (_, _) :: l, _, ⟨e, q, he, hk, hv, hl⟩ => ⟨e, q, he, Rep.ren hr _ _ hk, Rep.ren hr _ _ hv, MapRep.ren hr l q hl⟩
theorem BRep.ren (hr : ∀ i p, β i = some p → β' (r i) = some p) : ∀ {b : Blk} {o : Option Obj} {t : Nat}, BRep β b o t → BRep β' (renB r b) o t
  | .cells .., _, _, ⟨cs, T', fr, a, b, c, d, e, f⟩ => ⟨cs, T', fr, a, b, c, d, e, fun i v hv => by
      rw [cellAt_ren] at hv
      obtain ⟨v0, h0, rfl⟩ := Option.map_eq_some_iff.1 hv
      obtain ⟨u, h1, h2⟩ := f i v0 h0
      exact ⟨u, h1, Rep.ren hr _ _ h2⟩⟩
  | .map _, _, _, ⟨es, cl, a, b⟩ => ⟨es, cl, a, MapRep.ren hr _ _ b⟩
  | .iter .., _, _, h => h
end
/-! What a call made, told in full. -/
structure Sum where
  v : AV
  blks : List (Nat × Blk)
  n : Nat
def sameM : List (AV × AV) → List (AV × AV) → Bool
  | [], [] => true
  | (a, b) :: l, (c, d) :: r => sameAV a c && sameAV b d && sameM l r
  | _, _ => false
theorem sameM_eq : ∀ {l r : List (AV × AV)}, sameM l r = true → l = r
  | [], [], _ => rfl
  | (a, b) :: l, (c, d) :: r, h => by
    simp only [sameM, Bool.and_eq_true] at h
    rw [sameAV_eq h.1.1, sameAV_eq h.1.2, sameM_eq h.2]
  | [], _ :: _, h => by simp [sameM] at h
  | _ :: _, [], h => by simp [sameM] at h
def sameO (a b : Option AV) : Bool := match a, b with
  | none, none => true
  | some a, some b => sameAV a b
  | _, _ => false
theorem sameO_eq {a b : Option AV} (h : sameO a b = true) : a = b := by
  cases a <;> cases b <;> simp only [sameO, reduceCtorEq] at h ⊢
  · rw [sameAV_eq h]
/-- the first k cells are the same. -/
noncomputable def sameCells (n : Nat) (zs : List AV) (t : Tr AV) (zs' : List AV) (t' : Tr AV) : Nat → Bool
  | 0 => true
  | k + 1 => sameO (cellF n zs t k) (cellF n zs' t' k) && sameCells n zs t zs' t' k
theorem sameCells_at {n : Nat} {zs : List AV} {t : Tr AV} {zs' : List AV} {t' : Tr AV} : ∀ {k : Nat}, sameCells n zs t zs' t' k = true → ∀ i, i < k → cellAt n zs t i = cellAt n zs' t' i
  | 0, _, i, hi => by omega
  | k + 1, h, i, hi => by
    simp only [sameCells, Bool.and_eq_true, cellF_eq] at h
    by_cases e : i = k
    · rw [e]; exact sameO_eq h.1
    · exact sameCells_at h.2 i (by omega)
noncomputable def sameBlk : Blk → Blk → Bool
  | .cells T n zs t o w, .cells T' n' zs' t' o' w' => Nat.beq T T' && Nat.beq n n' && (o == o') && (w == w') && sameCells n zs t zs' t' n
  | .map l, .map l' => sameM l l'
  | _, _ => false
theorem sameBlk_rep {β : Beta} {a b : Blk} {o : Option Obj} {t : Nat} (h : sameBlk a b = true) (hr : BRep β a o t) : BRep β b o t := by
  cases a with
  | iter s p => cases b <;> simp [sameBlk] at h
  | map l => cases b with
    | map l' => rw [← sameM_eq (by simpa [sameBlk] using h : sameM l l' = true)]; exact hr
    | _ => simp [sameBlk] at h
  | cells T n zs tr op w => cases b with
    | cells T' n' zs' tr' op' w' =>
      simp only [sameBlk, Bool.and_eq_true, Nat.beq_eq, beq_iff_eq] at h
      obtain ⟨⟨⟨⟨h1, h2⟩, h3⟩, h4⟩, h5⟩ := h
      subst h1 h2 h3 h4
      obtain ⟨cs, T1, fr, a, b, c, d, e, f⟩ := hr
      refine ⟨cs, T1, fr, a, b, c, d, e, fun i v hv => f i v ?_⟩
      rw [sameCells_at h5 i (cellAt_lt hv)]
      exact hv
    | _ => simp [sameBlk] at h
noncomputable def blksIn (g : Nat) (h : Tr Blk) : List (Nat × Blk) → Bool
  | [] => true
  | (i, b) :: l => Nat.ble g i && (match getF (path i) h with
    | some a => sameBlk a b
    | none => false) && blksIn g h l
theorem blksIn_at {g : Nat} {h : Tr Blk} : ∀ {l : List (Nat × Blk)}, blksIn g h l = true → ∀ i b, (i, b) ∈ l → g ≤ i ∧ ∃ a, h.get (path i) = some a ∧ sameBlk a b = true
  | [], _, _, _, hm => by cases hm
  | (j, c) :: l, hb, i, b, hm => by
    simp only [blksIn, Bool.and_eq_true, getF_eq, Nat.ble_eq] at hb
    obtain ⟨⟨h1, h2⟩, h3⟩ := hb
    rcases List.mem_cons.1 hm with e | e
    · cases e
      refine ⟨h1, ?_⟩
      split at h2
      · rename_i a ha
        exact ⟨a, ha, h2⟩
      · cases h2
    · exact blksIn_at h3 i b e
noncomputable def fits (S : Sum) (g : Nat) : Option (AV × St) → Bool
  | some (v, s) => sameAV v S.v && Nat.ble s.n S.n && blksIn g s.h S.blks
  | none => false
def intsFrom (t : Nat → Option AV) : List Int → Nat → Bool
  | [], _ => true
  | x :: l, i => sameO (t i) (some (.int .i64 x)) && intsFrom t l (i + 1)
theorem intsFrom_at {t : Nat → Option AV} : ∀ {l : List Int} {i : Nat}, intsFrom t l i = true → ∀ j x, l[j]? = some x → t (i + j) = some (.int .i64 x)
  | [], _, _, _, _, hx => by simp at hx
  | y :: l, i, h, 0, x, hx => by
    simp only [intsFrom, Bool.and_eq_true] at h
    simp at hx
    subst hx
    exact sameO_eq h.1
  | y :: l, i, h, j + 1, x, hx => by
    simp only [intsFrom, Bool.and_eq_true] at h
    have := intsFrom_at h.2 j x (by simpa using hx)
    rw [show i + (j + 1) = i + 1 + j by omega]
    exact this
/-- the tables stand. -/
noncomputable def tabsIn (h : Tr Blk) : List (Nat × List Int) → Bool
  | [] => true
  | (g, L) :: l => (match getF (path g) h with
    | some (.cells _ n zs t false _) => Nat.beq n L.length && intsFrom (cellF n zs t) L 0
    | _ => false) && tabsIn h l
theorem tabsIn_at {P : Program} {β : Beta} {s : St} {w : World} (hs : Sit β s w) (hg : Globs P β) : ∀ {l : List (Nat × List Int)}, tabsIn s.h l = true → (∀ x ∈ l, x.1 < P.globals.size) → ∀ x ∈ l, HoldsAt w x.1 x.2 ∧ β x.1 = some (x.1, x.2.length)
  | [], _, _, _, hx => by cases hx
  | (g, L) :: l, h, hlt, x, hx => by
    simp only [tabsIn, Bool.and_eq_true, getF_eq] at h
    rcases List.mem_cons.1 hx with e | e
    · cases e
      have h1 := h.1
      split at h1
      case h_2 => cases h1
      case h_1 T n zs t rw he =>
      simp only [Bool.and_eq_true, Nat.beq_eq] at h1
      obtain ⟨hn, hi⟩ := h1
      obtain ⟨p, hp, cs, T', fr, ho, hsz, _, hop, _, hat⟩ := hs.blk _ _ he
      obtain ⟨t0, ht0⟩ := hg g (hlt (g, L) (by simp))
      rw [hp] at ht0
      cases ht0
      have h3 : t0 = n := hop rfl
      refine ⟨⟨T', fr, ?_⟩, by rw [hp, h3, hn]⟩
      simp only at ho hsz
      rw [ho]
      have hlen : cs.size = L.length := by rw [hsz, h3, hn]
      have : cs = (L.map (Value.int .i64)).toArray := by
        apply Array.ext
        · simp [hlen]
        · intro i h1 h2
          have hiL : i < L.length := by omega
          have := intsFrom_at hi i L[i] (List.getElem?_eq_getElem hiL)
          rw [cellF_eq, Nat.zero_add] at this
          obtain ⟨u, hu, hr⟩ := hat i _ this
          rw [Array.getElem?_eq_getElem h1] at hu
          have hr' : u = .int .i64 L[i] := hr
          simp only [Option.some.injEq] at hu
          rw [hu, hr']
          simp
      rw [this]
    · exact tabsIn_at hs hg h.2 (fun y hy => hlt y (by simp [hy])) x e
noncomputable def addBlks (k : Nat) (g : Nat) (h : Tr Blk) : List (Nat × Blk) → Tr Blk
  | [] => h
  | (i, b) :: l => setF (some (renB (fun j => bif Nat.blt j g then j else Nat.add j k) b)) (path (Nat.add i k)) (addBlks k g h l)
theorem addBlks_get {k g : Nat} {h : Tr Blk} : ∀ {l : List (Nat × Blk)} {i : Nat} {b : Blk}, (addBlks k g h l).get (path i) = some b → (∃ j c, (j, c) ∈ l ∧ i = j + k ∧ b = renB (fun j => bif Nat.blt j g then j else Nat.add j k) c) ∨ h.get (path i) = some b
  | [], _, _, e => .inr e
  | (j, c) :: l, i, b, e => by
    simp only [addBlks, setF_eq, get_put] at e
    split at e
    · rename_i hi
      cases e
      exact .inl ⟨j, c, by simp, hi, rfl⟩
    · rcases addBlks_get e with ⟨j', c', h1, h2, h3⟩ | h1
      · exact .inl ⟨j', c', by simp [h1], h2, h3⟩
      · exact .inr h1
def noArgs : List AV → Bool
  | [] => true
  | _ => false
noncomputable def sumF (P : Program) (tabs : List (Nat × List Int)) (f0 : FuncId) (S : Sum) (c : CallF) : CallF := fun lo f args s =>
  bif Nat.beq f f0 && noArgs args && Nat.beq lo P.globals.size && Nat.ble P.globals.size s.n && tabsIn s.h tabs then
    some (ren (fun j => bif Nat.blt j P.globals.size then j else Nat.add j (s.n - P.globals.size)) S.v, ⟨addBlks (s.n - P.globals.size) P.globals.size s.h S.blks, forceN (s.n + (S.n - P.globals.size))⟩)
  else c lo f args s
theorem sh_lt {g k j : Nat} (h : j < g) : (bif Nat.blt j g then j else Nat.add j k) = j := by
  have : Nat.blt j g = true := blt_of h
  rw [this]; rfl
theorem sh_ge {g k j : Nat} (h : g ≤ j) : (bif Nat.blt j g then j else Nat.add j k) = j + k := by
  have : Nat.blt j g = false := by
    cases e : Nat.blt j g with
    | false => rfl
    | true =>
      have : j < g := by
        have q := e
        simp [Nat.blt, Nat.ble_eq] at q
        omega
      omega
  rw [this]; rfl
/-- At any place where the tables stand, what the call made lies behind all that is there. -/
theorem sum_ext {β β1 : Beta} {s s1 : St} {w w' : World} {g k : Nat} {tabs : List (Nat × List Int)} {L : List (Nat × Blk)} {n1 : Nat}
    (hs : Sit β s w) (hgn : g + k = s.n) (htg : ∀ x ∈ tabs, x.1 < g) (hx : Ext g (fun i => if i < g then β i else none) ⟨heapOf tabs, g⟩ w β1 s1 w') (hL : blksIn g s1.h L = true) (hn : s1.n ≤ n1) :
    ∃ β', Ext g β s w β' ⟨addBlks k g s.h L, n1 + k⟩ w' ∧ (∀ i p, β1 i = some p → β' (bif Nat.blt i g then i else Nat.add i k) = some p) := by
  have live0 : ∀ i, Live (heapOf tabs) i → i < g := by
    rintro i ⟨b, hb⟩
    obtain ⟨M, h1, _⟩ := heapOf_get hb
    exact htg _ h1
  have hfresh : ∀ i p, g ≤ i → β1 i = some p → w.heap.size ≤ p.1 := by
    intro i p hi hp
    rcases hx.new i p hi hp with h | ⟨j, q, h1, h2, _⟩
    · exact h
    · have := live0 j h2; omega
  have hkeep : ∀ b, b < w.heap.size → w'.heap[b]? = w.heap[b]? := by
    intro b hb
    refine hx.keep b hb ?_
    intro i p hi hl
    have := live0 i hl
    omega
  refine ⟨fun i => if i < s.n then β i else β1 (i - k), ?_, ?_⟩
  · have new_of : ∀ j c, (j, c) ∈ L → g ≤ j ∧ ∃ p, β1 j = some p ∧ BRep β1 c w'.heap[p.1]? p.2 ∧ Live s1.h j := by
      intro j c hm
      obtain ⟨h1, a, h2, h3⟩ := blksIn_at hL j c hm
      obtain ⟨p, h4, h5⟩ := hx.sit.blk j a h2
      exact ⟨h1, p, h4, sameBlk_rep h3 h5, a, h2⟩
    have live_of : ∀ i, Live (addBlks k g s.h L) i → (∃ j, i = j + k ∧ g ≤ j ∧ Live s1.h j) ∨ (Live s.h i ∧ i < s.n) := by
      rintro i ⟨b, hb⟩
      rcases addBlks_get hb with ⟨j, c, h1, h2, _⟩ | h1
      · obtain ⟨h3, p, _, _, h4⟩ := new_of j c h1
        exact .inl ⟨j, h2, h3, h4⟩
      · obtain ⟨p, h2, _⟩ := hs.blk i b h1
        exact .inr ⟨⟨b, h1⟩, (hs.low i p h2).1⟩
    have hren : ∀ i p, β1 i = some p → (fun i => if i < s.n then β i else β1 (i - k)) (bif Nat.blt i g then i else Nat.add i k) = some p := by
      intro i p hp
      by_cases hi : i < g
      · rw [sh_lt hi]
        have := hx.same i hi
        try simp only at this
        rw [if_pos hi] at this
        try simp only
        rw [if_pos (by omega), ← this]
        exact hp
      · rw [sh_ge (by omega)]
        try simp only
        rw [if_neg (by omega), Nat.add_sub_cancel]
        exact hp
    have bt : ∀ i p, (if i < s.n then β i else β1 (i - k)) = some p → (i < s.n ∧ β i = some p ∧ p.1 < w.heap.size) ∨ (s.n ≤ i ∧ β1 (i - k) = some p ∧ w.heap.size ≤ p.1) := by
      intro i p hp
      by_cases hi : i < s.n
      · rw [if_pos hi] at hp
        exact .inl ⟨hi, hp, (hs.low i p hp).2⟩
      · rw [if_neg hi] at hp
        exact .inr ⟨by omega, hp, hfresh (i - k) p (by omega) hp⟩
    refine ⟨⟨?_, ?_, ?_⟩, hx.os, hx.tape, hx.output, hx.size, fun i hi => if_pos hi, ?_, fun b hb _ => hkeep b hb, ?_, ?_⟩
    · intro i b hb
      rcases addBlks_get hb with ⟨j, c, h1, h2, h3⟩ | h1
      · obtain ⟨h4, p, h5, h6, _⟩ := new_of j c h1
        subst h2 h3
        refine ⟨p, ?_, BRep.ren hren h6⟩
        rw [if_neg (by omega), Nat.add_sub_cancel]
        exact h5
      · obtain ⟨p, h2, h3⟩ := hs.blk i b h1
        have hlow := hs.low i p h2
        refine ⟨p, ?_, ?_⟩
        · try simp only
          rw [if_pos hlow.1]; exact h2
        · rw [hkeep p.1 hlow.2]
          refine BRep.mono ?_ h3
          intro j q hq
          try simp only
          rw [if_pos (hs.low j q hq).1]; exact hq
    · intro i j p q hi hj hp hq hpq
      try simp only at hp hq
      rcases bt i p hp with ⟨a1, a2, a3⟩ | ⟨a1, a2, a3⟩ <;> rcases bt j q hq with ⟨b1, b2, b3⟩ | ⟨b1, b2, b3⟩
      · rcases live_of i hi with ⟨i', e, hi', _⟩ | ⟨hi', _⟩
        · omega
        · rcases live_of j hj with ⟨j', e, hj', _⟩ | ⟨hj', _⟩
          · omega
          · exact hs.inj i j p q hi' hj' a2 b2 hpq
      · omega
      · omega
      · rcases live_of i hi with ⟨i', e, _, hi'⟩ | ⟨_, hi'⟩
        · rcases live_of j hj with ⟨j', e2, _, hj'⟩ | ⟨_, hj'⟩
          · subst e e2
            rw [Nat.add_sub_cancel] at a2 b2
            have := hx.sit.inj i' j' p q hi' hj' a2 b2 hpq
            omega
          · omega
        · omega
    · intro i p hp
      try simp only at hp
      rcases bt i p hp with ⟨a1, a2, a3⟩ | ⟨a1, a2, a3⟩
      · have := hx.size
        have := hx.le
        try simp only at this
        exact ⟨by show i < n1 + k; omega, by omega⟩
      · have := hx.sit.low (i - k) p a2
        exact ⟨by show i < n1 + k; omega, this.2⟩
    · have := hx.le
      try simp only at this
      show s.n ≤ n1 + k
      omega
    · intro i p hi hp
      try simp only at hp
      rw [if_neg (by omega)] at hp
      exact .inl (hfresh (i - k) p (by omega) hp)
    · intro i hi hl
      rcases live_of i hl with ⟨j, e, h1, _⟩ | ⟨h1, _⟩
      · omega
      · exact h1
  · intro i p hp
    by_cases hi : i < g
    · rw [sh_lt hi]
      have := hx.same i hi
      try simp only at this
      rw [if_pos hi] at this
      try simp only
      rw [if_pos (by omega), ← this]
      exact hp
    · rw [sh_ge (by omega)]
      try simp only
      rw [if_neg (by omega), Nat.add_sub_cancel]
      exact hp
theorem sit_tabs {P : Program} {β : Beta} {s : St} {w : World} (hs : Sit β s w) (hg : Globs P β) {tabs : List (Nat × List Int)} (ht : tabsIn s.h tabs = true) (htg : ∀ x ∈ tabs, x.1 < P.globals.size) :
    Sit (fun i => if i < P.globals.size then β i else none) ⟨heapOf tabs, P.globals.size⟩ w := by
  have at_ : ∀ i p, (if i < P.globals.size then β i else none) = some p → i < P.globals.size ∧ β i = some p ∧ p.1 = i := by
    intro i p hp
    by_cases hi : i < P.globals.size
    · rw [if_pos hi] at hp
      obtain ⟨t, ht⟩ := hg i hi
      rw [hp] at ht
      cases ht
      exact ⟨hi, hp, rfl⟩
    · rw [if_neg hi] at hp; cases hp
  refine ⟨?_, ?_, ?_⟩
  · intro i b hb
    obtain ⟨L, h1, rfl⟩ := heapOf_get hb
    obtain ⟨⟨t, fr, hw⟩, hb2⟩ := tabsIn_at hs hg ht htg _ h1
    have hi : i < P.globals.size := htg _ h1
    refine ⟨(i, L.length), ?_, ?_⟩
    · try simp only
      rw [if_pos hi]
      exact hb2
    · simp only at hw
      refine ⟨_, t, fr, hw, by simp, Nat.le_refl _, fun _ => rfl, fun e => (by cases e), ?_⟩
      intro k v hk
      have hk' : (L.map (AV.int .i64))[k]? = some v := by
        have hlen : (L.map (AV.int .i64)).length = L.length := by simp
        have := hk
        rw [← hlen] at this
        exact cellAt_rowOf this
      obtain ⟨u, hu, hr⟩ := (ints_reps _ L).at k v hk'
      exact ⟨u, by rw [List.getElem?_toArray]; exact hu, hr⟩
  · intro i j p q _ _ hp hq hpq
    obtain ⟨_, _, h1⟩ := at_ i p hp
    obtain ⟨_, _, h2⟩ := at_ j q hq
    omega
  · intro i p hp
    obtain ⟨h1, h2, _⟩ := at_ i p hp
    exact ⟨h1, (hs.low i p h2).2⟩
theorem sumF_ok {P : Program} {tabs : List (Nat × List Int)} (htg : ∀ x ∈ tabs, x.1 < P.globals.size) {f0 : FuncId} {S : Sum} {c0 : CallF} (h0 : FCallOk P c0)
    (hfit : fits S P.globals.size (c0 P.globals.size f0 [] ⟨heapOf tabs, P.globals.size⟩) = true) {c : CallF} (hc : FCallOk P c) : FCallOk P (sumF P tabs f0 S c) := by
  intro lo f args s v s' e β w vs hs hg ha
  unfold sumF at e
  rw [Bool.cond_eq_ite] at e
  split at e
  case isFalse => exact hc lo f args s v s' e β w vs hs hg ha
  case isTrue hcond =>
  simp only [Bool.and_eq_true, Nat.beq_eq, Nat.ble_eq] at hcond
  obtain ⟨⟨⟨⟨hf, hna⟩, hlo⟩, hgn⟩, ht⟩ := hcond
  cases args with
  | cons _ _ => cases hna
  | nil =>
  have hvs : vs = #[] := by
    have : vs.toList = [] := ha
    simpa using this
  subst hf hlo hvs
  unfold fits at hfit
  split at hfit
  case h_2 => cases hfit
  case h_1 v0 s1 hrun =>
  simp only [Bool.and_eq_true, Nat.ble_eq] at hfit
  obtain ⟨⟨hv, hn⟩, hL⟩ := hfit
  have hg0 : Globs P (fun i => if i < P.globals.size then β i else none) := fun g hlt => let ⟨t, e⟩ := hg g hlt; ⟨t, by simp only [if_pos hlt, e]⟩
  refine (h0 _ f [] _ v0 s1 hrun _ w #[] (sit_tabs hs hg ht htg) hg0 rfl).mono ?_
  rintro e' w' ⟨u, β1, rfl, hx, hr⟩
  have hle : P.globals.size ≤ s1.n := hx.le
  obtain ⟨β', h1, h2⟩ := sum_ext hs (k := s.n - P.globals.size) (by omega) htg hx hL hn
  have hnn : forceN (s.n + (S.n - P.globals.size)) = S.n + (s.n - P.globals.size) := by rw [forceN_eq]; omega
  rw [hnn] at e
  cases e
  refine ⟨u, β', rfl, h1, ?_⟩
  rw [← sameAV_eq hv]
  exact Rep.ren h2 v0 u hr
/-! The runner, with what is known of calls. -/
noncomputable def stepW (P : Program) (loops : Nat) (c : CallF) : CallF := fun lo f args s => match cFun P f with
  | some (.mk g) => g c loops lo args s
  | none => none
theorem stepW_ok {P : Program} {loops : Nat} {c : CallF} (hih : FCallOk P c) : FCallOk P (stepW P loops c) := by
  intro lo f args s v s' h β w vs hs hg ha
  have h' : (match cFun P f with
    | some (.mk g) => g c loops lo args s
    | none => none) = some (v, s') := h
  unfold cFun at h'
  cases hfn : P.funcs[f]? with
  | none => rw [hfn] at h'; cases h'
  | some fn =>
  rw [hfn] at h'
  simp only at h'
  cases hb : fn.body with
  | none => rw [hb] at h'; cases h'
  | some body =>
  rw [hb] at h'
  simp only at h'
  cases hcode : cCode P fn.ntmps body with
  | mk g =>
  rw [hcode] at h'
  simp only [funF] at h'
  cases hn : (!Nat.ble args.length fn.ntmps) with
  | true => rw [hn] at h'; cases h'
  | false =>
  rw [hn] at h'
  simp only [cond_false] at h'
  have hn' : args.length ≤ fn.ntmps := by simpa [Nat.ble_eq] using hn
  split at h'
  case h_2 => cases h'
  case h_1 e fr' s1 hrun =>
  cases he : exNrm e with
  | false => rw [he] at h'; cases h'
  | true =>
  rw [he] at h'
  simp only [cond_true] at h'
  split at h'
  case h_2 => cases h'
  case h_1 as has =>
  cases h'
  refine calls_of_wp hfn hb (cCode_ok hih loops lo body (startFr args) s e fr' s' (by rw [hcode]; exact hrun) β w _ hs hg (start_ok ha hn') _ ?_)
  intro a' w' β' hx hf'
  obtain ⟨u, h1, h2⟩ := results_ok hx.sit hf' has
  have fin : a'.defers = [] ∧ ∃ v, (results fn a'.tmps).run P w' = .ok v w' ∧ ∃ u β', Ending.returned v = .returned u ∧ Ext lo β s w β' s' w' ∧ Rep β' (oneOf as) u := ⟨hf'.defers, u, h1, u, β', rfl, hx, h2⟩
  cases e with
  | nrm => exact fin
  | ret => exact fin
  | exit k => cases he
noncomputable def runW (P : Program) (loops : Nat) (k : CallF → CallF) (n : Nat) : CallF :=
  Nat.rec (motive := fun _ => CallF) (fun _ _ _ _ => none) (fun _ ih => k (stepW P loops ih)) n
theorem runW_ok {P : Program} {loops : Nat} {k : CallF → CallF} (hk : ∀ c, FCallOk P c → FCallOk P (k c)) : ∀ n, FCallOk P (runW P loops k n)
  | 0 => fun _ _ _ _ _ _ h => by cases h
  | n + 1 => hk _ (stepW_ok (runW_ok hk n))
theorem run_with {P : Program} {W : World} (hsh : W.ShapedOpen P) {tabs : List (Nat × List Int)} (ht : ∀ x ∈ tabs, HoldsAt W x.1 x.2 ∧ x.1 < P.globals.size) {c : CallF} (hc : FCallOk P c) {f : FuncId} {as : List AV} {vs : Array Value} (ha : ∀ β, Reps β as vs.toList) (h : trueF (c P.globals.size f as ⟨heapOf tabs, P.globals.size⟩) = true) :
    Calls P f vs W fun e w' => e = .returned (.bool true) ∧ Below W.heap.size W w' := by
  obtain ⟨hs, hg⟩ := sit_start hsh ht
  unfold trueF at h
  split at h
  case h_2 => cases h
  case h_1 b s' he =>
  subst h
  refine (hc _ f as _ _ s' he _ W vs hs hg (ha _)).mono ?_
  rintro e w' ⟨u, β', rfl, hx, hr⟩
  refine ⟨by rw [show u = .bool true from hr], hx.os, hx.tape, hx.output, hx.size, fun k hk => hx.keep k hk ?_⟩
  intro i p hi hl hp
  obtain ⟨c, hc⟩ := hl
  obtain ⟨q, hq, _⟩ := hs.blk i c hc
  have := (hs.low i q hq).1
  simp only at this
  omega
theorem rep_text {β : Beta} {x : ByteArray} {s : List UInt8} (h : x.data.toList = s) : Rep β (.str s) (.string x) := by
  show Value.string x = Value.string ⟨s.toArray⟩
  rw [← h]
theorem rep_none {β : Beta} {i : Nat} {x : ByteArray} {l : List (List UInt8)} (h : ¬ Env.txt i ∈ l) (e : Env.txt i = x.data.toList := by rfl) : Rep β (.sym (.txt i l)) (.string x) := by
  refine ⟨?_, fun y hy e' => h (e' ▸ hy)⟩
  rw [e]
theorem rep_num {β : Beta} {x : Int} (h : (Lit.int .i64 x).wf = true) (e : Env.num = x := by rfl) : Rep β (.sym (.lin false 0 1)) (.int .i64 x) := by
  show Value.int .i64 x = Value.int .i64 (IntKind.i64.wrap (0 + 1 * Env.num))
  have h' : IntKind.i64.min ≤ x ∧ x ≤ IntKind.i64.max := by simpa [Lit.wf] using h
  have e1 : IntKind.i64.min = -9223372036854775808 := by decide
  have e2 : IntKind.i64.max = 9223372036854775807 := by decide
  have h1 : IntKind.i64.wrap x = x := by rw [IntKind.wrap_i64]; omega
  rw [e, Int.one_mul, Int.zero_add, h1]
omit [Env] in
theorem tmod_cases (x m : Int) (hm : 0 < m) : -m < x.tmod m ∧ x.tmod m < m := by
  refine ⟨?_, Int.tmod_lt_of_pos x hm⟩
  have := Int.tmod_lt_of_pos (-x) hm
  rw [Int.neg_tmod] at this
  omega
theorem closed_with {P : Program} {W : World} (hsh : W.ShapedOpen P) {tabs : List (Nat × List Int)} (ht : ∀ x ∈ tabs, HoldsAt W x.1 x.2 ∧ x.1 < P.globals.size) {c : CallF} (hc : FCallOk P c) {f : FuncId} (h : trueF (c P.globals.size f [] ⟨heapOf tabs, P.globals.size⟩) = true) :
    Calls P f #[] W fun e w' => e = .returned (.bool true) ∧ Below W.heap.size W w' := by
  obtain ⟨hs, hg⟩ := sit_start hsh ht
  unfold trueF at h
  split at h
  case h_2 => cases h
  case h_1 b s' he =>
  subst h
  refine (hc _ f [] _ _ s' he _ W #[] hs hg rfl).mono ?_
  rintro e w' ⟨u, β', rfl, hx, hr⟩
  refine ⟨by rw [show u = .bool true from hr], hx.os, hx.tape, hx.output, hx.size, fun k hk => hx.keep k hk ?_⟩
  intro i p hi hl hp
  obtain ⟨c, hc⟩ := hl
  obtain ⟨q, hq, _⟩ := hs.blk i c hc
  have := (hs.low i q hq).1
  simp only at this
  omega
end Ev
#print axioms Ev.closed_with
#print axioms Ev.sumF_ok
end Go.Proofs.Ytnelncafocgfhaa
