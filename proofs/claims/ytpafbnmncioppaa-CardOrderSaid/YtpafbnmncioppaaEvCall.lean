/- What a run comes to, as a contract for a walk by hand: in any world that has grown from one where the arrays stand. -/
import Derived.Test.YtpafbnmncioppaaEvCut
import Derived.Laws.Rows
namespace Go.Proofs.Ytpafbnmncioppaa
open Go.RowKit
namespace Ev
set_option linter.unusedSectionVars false
variable [Env]
theorem Sit.below {β : Beta} {s : St} {W w : World} (hs : Sit β s W) (hb : Below W.heap.size W w) : Sit β s w :=
  ⟨fun i b h => let ⟨p, h1, h2⟩ := hs.blk i b h; ⟨p, h1, by rw [hb.block p.1 (hs.low i p h1).2]; exact h2⟩, hs.inj, fun i p h => ⟨(hs.low i p h).1, Nat.lt_of_lt_of_le (hs.low i p h).2 hb.size⟩⟩
def valF (v : AV) : Option (AV × St) → Bool
  | some (x, _) => sameD x v
  | none => false
theorem run_val {P : Program} {W w : World} (hsh : W.ShapedOpen P) {tabs : List (Nat × List Int)} (ht : ∀ x ∈ tabs, HoldsAt W x.1 x.2 ∧ x.1 < P.globals.size) (hb : Below W.heap.size W w) {c : CallF} (hc : FCallOk P c) {f : FuncId} {ars : List AV} {vs : Array Value} (ha : ∀ β, Reps β ars vs.toList) {v : AV}
    (h : valF v (c P.globals.size f ars ⟨heapOf tabs, P.globals.size⟩) = true) :
    Calls P f vs w fun e w' => (∃ u β, e = .returned u ∧ Rep β v u) ∧ Below w.heap.size w w' := by
  obtain ⟨hs0, hg⟩ := sit_start hsh ht
  have hs := hs0.below hb
  unfold valF at h
  split at h
  case h_2 => cases h
  case h_1 x s' he =>
  obtain rfl := sameD_eq _ _ h
  refine (hc _ f ars _ _ s' he _ w vs hs hg (ha _)).mono ?_
  rintro e w' ⟨u, β', rfl, hx, hr⟩
  refine ⟨⟨u, β', rfl, hr⟩, hx.os, hx.tape, hx.output, hx.size, fun k hk => hx.keep k hk ?_⟩
  intro i p hi hl hp
  obtain ⟨c, hc⟩ := hl
  obtain ⟨q, hq, _⟩ := hs.blk i c hc
  have := (hs.low i q hq).1
  simp only at this
  omega
theorem ints_reps64 {β : Beta} : ∀ zs : List Int, Reps β (zs.map (AV.int .i64)) (zs.map (Value.int .i64))
  | [] => rfl
  | _ :: l => ⟨_, _, rfl, rfl, ints_reps64 l⟩
/-- the memory with one more row, of numbers, that may not be written. -/
noncomputable def rowSt (P : Program) (tabs : List (Nat × List Int)) (T : TypeId) (zs : List Int) : St :=
  ⟨setF (some (rowOf T (zs.map (AV.int .i64)) false)) (path P.globals.size) (heapOf tabs), P.globals.size + 1⟩
theorem run_row {P : Program} {W w : World} (hsh : W.ShapedOpen P) {tabs : List (Nat × List Int)} (ht : ∀ x ∈ tabs, HoldsAt W x.1 x.2 ∧ x.1 < P.globals.size) (hb : Below W.heap.size W w) {c : CallF} (hc : FCallOk P c) {T g : Nat} {zs : List Int} (hg : w.heap[g]? = some (.cells (zs.map (Value.int .i64)).toArray T (0, 0))) (hgW : W.heap.size ≤ g)
    {f : FuncId} {ars : List AV} {vs : Array Value} (ha : ∀ β : Beta, β P.globals.size = some (g, zs.length) → Reps β ars vs.toList) {v : AV} {s' : St} (h : c (P.globals.size + 1) f ars (rowSt P tabs T zs) = some (v, s')) :
    Calls P f vs w fun e w' => ∃ u β', e = .returned u ∧ Sit β' s' w' ∧ Rep β' v u ∧ Below w.heap.size w w' := by
  obtain ⟨hs0, hg0⟩ := sit_start hsh ht
  have hs := hs0.below hb
  generalize (fun g => if g < P.globals.size then some (g, sizeAt W g) else none : Beta) = β0 at hs0 hg0 hs
  have live : ∀ i, Live (rowSt P tabs T zs).h i → i = P.globals.size ∨ Live (heapOf tabs) i := by
    rintro i ⟨b, hi⟩
    simp only [rowSt, setF_eq, get_put] at hi
    split at hi
    · rename_i e; exact .inl e
    · exact .inr ⟨b, hi⟩
  have hne : ∀ i p, β0 i = some p → i ≠ P.globals.size := fun i p e h => by
    have := (hs0.low i p e).1
    simp only at this
    omega
  have hle : Beta.le β0 (upd β0 P.globals.size (g, zs.length)) := fun i p e => by rw [upd_ne β0 _ (hne i p e)]; exact e
  have hsit : Sit (upd β0 P.globals.size (g, zs.length)) (rowSt P tabs T zs) w := by
    refine ⟨?_, ?_, ?_⟩
    · intro i b hi
      simp only [rowSt, setF_eq, get_put] at hi
      split at hi
      · rename_i e
        cases hi
        subst e
        refine ⟨_, upd_at .., ?_⟩
        have hr := brep_row (β := upd β0 P.globals.size (g, zs.length)) (ints_reps64 zs) T false [] (fun _ => rfl)
        simp only [List.append_nil, List.length_map, List.length_nil, Nat.add_zero] at hr
        show BRep _ _ w.heap[g]? zs.length
        rw [hg]
        exact hr
      · obtain ⟨p, h1, h2⟩ := hs.blk i b hi
        exact ⟨p, hle i p h1, BRep.mono hle h2⟩
    · intro i j p q hi hj hp hq hpq
      have low : ∀ i p, β0 i = some p → p.1 < W.heap.size := fun i p e => (hs0.low i p e).2
      by_cases ei : i = P.globals.size
      · by_cases ej : j = P.globals.size
        · rw [ei, ej]
        · rw [ei, upd_at] at hp
          rw [upd_ne _ _ ej] at hq
          cases hp
          have := low j q hq
          simp only at hpq
          omega
      · rw [upd_ne _ _ ei] at hp
        by_cases ej : j = P.globals.size
        · rw [ej, upd_at] at hq
          cases hq
          have := low i p hp
          simp only at hpq
          omega
        · rw [upd_ne _ _ ej] at hq
          rcases live i hi with e | hi
          · exact absurd e ei
          rcases live j hj with e | hj
          · exact absurd e ej
          exact hs.inj i j p q hi hj hp hq hpq
    · intro i p hp
      by_cases ei : i = P.globals.size
      · rw [ei, upd_at] at hp
        cases hp
        exact ⟨by show i < P.globals.size + 1; omega, (Array.getElem?_eq_some_iff.1 hg).1⟩
      · rw [upd_ne _ _ ei] at hp
        have := hs.low i p hp
        simp only at this
        exact ⟨by show i < P.globals.size + 1; omega, this.2⟩
  refine (hc _ f ars _ _ s' h _ w vs hsit (hg0.mono hle) (ha _ (upd_at ..))).mono ?_
  rintro e w' ⟨u, β', rfl, hx, hr⟩
  refine ⟨u, β', rfl, hx.sit, hr, hx.os, hx.tape, hx.output, hx.size, fun k hk => hx.keep k hk ?_⟩
  intro i p hi hl hp
  have := (hsit.low i p hp).1
  simp only [rowSt] at this
  omega
/-- a slice of n whose first number is x, and no error. -/
def firstF (n : Nat) (x : Int) : Option (AV × St) → Bool
  | some (.tup [.slc b off len _, .int .i64 (.ofNat 0)], s) => Nat.beq len n && (match s.h.get (path b) with
    | some (.cells _ m zs t _ _) => sameOD (cellAt m zs t off) (some (.int .i64 x))
    | _ => false)
  | _ => false
theorem first_of {n : Nat} {x : Int} {r : Option (AV × St)} (h : firstF n x r = true) : ∃ v s, r = some (v, s) ∧ ∀ β w u, Sit β s w → Rep β v u → ∃ a c, u = .tuple #[.slice (some a) n c, .int .i64 0] ∧ w.cell? a = some (.int .i64 x) ∧ n ≤ c := by
  unfold firstF at h
  split at h
  case h_2 => cases h
  case h_1 b off len cap s =>
  refine ⟨_, _, rfl, fun β w u hs hr => ?_⟩
  simp only [Bool.and_eq_true, Nat.beq_eq] at h
  obtain ⟨rfl, h⟩ := h
  split at h
  case h_2 => cases h
  case h_1 T m zs t o rw hget =>
  obtain ⟨vs, rfl, a, r, e, ⟨g, tot, c, hb, rfl, hlc, _⟩, q, r', e', hq, e''⟩ := hr
  obtain ⟨p, hp, cs, T', fr, ho, hsz, _, _, _, hat⟩ := hs.blk b _ hget
  rw [hb] at hp
  cases hp
  obtain ⟨y, hy, hy'⟩ := hat off _ (sameOD_eq h)
  have hq' : q = .int .i64 0 := hq
  have hy2 : y = .int .i64 x := hy'
  subst hq' hy2 e'' e'
  refine ⟨⟨g, off, none⟩, c, ?_, ?_, hlc⟩
  · congr 1
    apply Array.toList_inj.1
    rw [e]
  · simp only at ho
    rw [cell_of_row w g off cs T' fr ho]
    exact hy
theorem rep_bool1 {β : Beta} {b : Bool} {u : Value} (h : Rep β (.bool b) u) : u = .bool b := h
theorem rep_int1 {β : Beta} {k : IntKind} {n : Int} {u : Value} (h : Rep β (.int k n) u) : u = .int k n := h
theorem rep_int2 {β : Beta} {k k' : IntKind} {n n' : Int} {u : Value} (h : Rep β (.tup [.int k n, .int k' n']) u) : u = .tuple #[.int k n, .int k' n'] := by
  obtain ⟨vs, rfl, a, r, e, ha, b, r', e', hb, e''⟩ := h
  obtain rfl : a = .int k n := ha
  obtain rfl : b = .int k' n' := hb
  subst e'' e'
  congr 1
  apply Array.toList_inj.1
  rw [e]
theorem rep_rng {β : Beta} {k : IntKind} {lo hi z : Int} (h1 : lo ≤ z) (h2 : z ≤ hi) : Rep β (.sym (.rng k lo hi)) (.int k z) := ⟨z, rfl, h1, h2⟩
end Ev
#print axioms Ev.run_val
end Go.Proofs.Ytpafbnmncioppaa
