/- A probe's outcome, plain, out of its card and fates. -/
import Derived.Test.YtnkababhgloclaaProbeB
namespace Go.Proofs.Ytnkababhgloclaa
open Go.RowKit Go.ChangeShapes
structure Oc where
  good : Bool
  at_ : Int
  how : Int
  done : List ByteArray
  given : List ByteArray
  stuck : List ByteArray
/-- The first step whose first fate is a bad one. -/
def badI (fs : List Ft) (n : Nat) : Option Nat := (List.range n).find? fun j : Nat => decide ((ofT fs (j : Int)).how ≠ 0)
theorem badI_none {fs : List Ft} {n : Nat} (h : ∀ j : Nat, j < n → (ofT fs j).how = 0) : badI fs n = none := by
  unfold badI
  rw [List.find?_eq_none]
  intro j hj
  simp [h j (List.mem_range.1 hj)]
theorem badI_some {fs : List Ft} {n m : Nat} (hm : m < n) (h0 : (ofT fs m).how ≠ 0) (h : ∀ j : Nat, j < m → (ofT fs j).how = 0) : badI fs n = some m := by
  unfold badI
  rw [List.find?_range_eq_some]
  exact ⟨by simpa using h0, by simpa using hm, fun j hj => by simp [h j hj]⟩
/-- What the steps that were done are undone to, the last one first. -/
def backR (fs : List Ft) (names : List ByteArray) (m : Nat) : List Rs := (resT fs 0 (names.take m)).reverse
def outF (fs : List Ft) (names : List ByteArray) : Oc :=
  match badI fs names.length with
  | none => ⟨true, -1, 0, names, [], []⟩
  | some m => ⟨false, m, (ofT fs m).how, names.take m, namesR false (backR fs names m), namesR true (backR fs names m)⟩
def probeE (c : Cd) (fs : List Ft) : Int := if mayB c then (if 64 < fs.length ∨ fs.any badT = true then 1 else 0) else 70
def zeroO : Oc := ⟨false, 0, 0, [], [], []⟩
def probeO (c : Cd) (fs : List Ft) : Oc := if mayB c = true ∧ ¬ (64 < fs.length ∨ fs.any badT = true) then outF fs (stepsRun.stepsF c.fam) else zeroO
/-- A value that reads as an outcome, its rows of the call's own. -/
def OutAt (w : World) (B : Nat) (v : Value) (o : Oc) : Prop := ∃ vd vg vs, v = .agg #[.bool o.good, .int .i64 o.at_, .int .u8 o.how, vd, vg, vs] ∧ w.ownsRow B 9 1 vd o.done.length (sc o.done) ∧ w.ownsRow B 9 1 vg o.given.length (sc o.given) ∧ w.ownsRow B 9 1 vs o.stuck.length (sc o.stuck)
theorem OutAt.zero (w : World) (B : Nat) : OutAt w B (.agg #[.bool false, .int .i64 0, .int .u8 0, .slice none 0 0, .slice none 0 0, .slice none 0 0]) zeroO :=
  ⟨_, _, _, rfl, ⟨rfl, .inl ⟨rfl, rfl⟩⟩, ⟨rfl, .inl ⟨rfl, rfl⟩⟩, ⟨rfl, .inl ⟨rfl, rfl⟩⟩⟩
theorem OutAt.below {w w' : World} {B : Nat} {v : Value} {o : Oc} (h : OutAt w B v o) (hb : Below w.heap.size w w') : OutAt w' B v o := by
  obtain ⟨vd, vg, vs, e, h1, h2, h3⟩ := h
  exact ⟨vd, vg, vs, e, own_below h1 hb, own_below h2 hb, own_below h3 hb⟩
theorem OutAt.base {w : World} {B B' : Nat} {v : Value} {o : Oc} (h : OutAt w B v o) (hb : B' ≤ B) : OutAt w B' v o := by
  obtain ⟨vd, vg, vs, e, h1, h2, h3⟩ := h
  exact ⟨vd, vg, vs, e, own_base h1 hb, own_base h2 hb, own_base h3 hb⟩
theorem far_out {fs : List Ft} {names : List ByteArray} {m : Nat} {g : Bool} {at_ how : Int} (h : Far fs names.length m g at_ how) :
    outF fs names = ⟨g, at_, how, names.take m, namesR false (if g then [] else backR fs names m), namesR true (if g then [] else backR fs names m)⟩ := by
  unfold outF
  cases g with
  | true =>
    obtain ⟨rfl, rfl, rfl⟩ := h.yes rfl
    rw [badI_none h.fine]
    simp [namesR]
  | false =>
    obtain ⟨e1, e2, e3, e4⟩ := h.no rfl
    rw [badI_some e1 (by rw [← e3]; exact e4) h.fine]
    simp [e2, e3]
theorem probe_all {W : World} (hsh : W.ShapedOpen Try.prog) (n f q : ByteArray) (l s e : Int) (ss : List ByteArray) (sl : Value) (vf : Value) (fs : List Ft) (w : World) (hW : Below W.heap.size W w) (hs : Strs w sl ss) (hok : Cd.ok ⟨n, f, l, ss, s, q, e⟩) (hvf : FatesAt w vf fs) (hfo : ∀ f ∈ fs, f.ok) :
    Calls Try.prog 19 #[.agg #[.string n, .string f, .int .u8 l, sl, .int .i8 s, .string q, .int .i16 e], vf] w fun er w' => ∃ v, er = .returned (.tuple #[v, .int .i64 (probeE ⟨n, f, l, ss, s, q, e⟩ fs)]) ∧ OutAt w' w.heap.size v (probeO ⟨n, f, l, ss, s, q, e⟩ fs) ∧ Below w.heap.size w w' := by
  cases hm : mayB ⟨n, f, l, ss, s, q, e⟩ with
  | false =>
    have hvf' : ∃ a n c, vf = .slice a n c := by
      obtain ⟨a, c, h, _⟩ := hvf
      exact ⟨a, _, c, h⟩
    refine (probe_card n f q l s e ss sl vf w hs hok hm hvf').mono ?_
    rintro er w' ⟨rfl, hb⟩
    refine ⟨.agg zo6.toArray, by rw [probeE, hm]; rfl, ?_, hb⟩
    rw [show probeO ⟨n, f, l, ss, s, q, e⟩ fs = zeroO by simp [probeO, hm]]
    exact OutAt.zero _ _
  | true =>
    by_cases h1 : 64 < fs.length
    · refine (probe_many n f q l s e ss sl vf fs w hs hok hm hvf h1).mono ?_
      rintro er w' ⟨rfl, hb⟩
      refine ⟨.agg zo6.toArray, by rw [probeE, if_pos hm, if_pos (.inl h1)], ?_, hb⟩
      rw [show probeO ⟨n, f, l, ss, s, q, e⟩ fs = zeroO by simp [probeO, h1]]
      exact OutAt.zero _ _
    · cases h2 : fs.any badT with
      | true =>
        refine (probe_bad n f q l s e ss sl vf fs w hs hok hm hvf (by omega) h2).mono ?_
        rintro er w' ⟨rfl, hb⟩
        refine ⟨.agg zo6.toArray, by rw [probeE, if_pos hm, if_pos (.inr h2)], ?_, hb⟩
        rw [show probeO ⟨n, f, l, ss, s, q, e⟩ fs = zeroO by rw [probeO, if_neg (fun h => h.2 (.inr h2))]]
        exact OutAt.zero _ _
      | false =>
        refine (probe_ok hsh n f q l s e ss sl vf fs w hW hs hok hm hvf (by omega) h2 hfo).mono ?_
        rintro er w' ⟨m, g, at_, how, vd, vg, vs, far, rfl, hd, hgv, hst, hb⟩
        have hno : ¬ (64 < fs.length ∨ fs.any badT = true) := fun h => by
          rcases h with h | h
          · exact h1 h
          · rw [h2] at h
            cases h
        have e1 : probeO ⟨n, f, l, ss, s, q, e⟩ fs = outF fs (stepsRun.stepsF f) := by rw [probeO, if_pos ⟨hm, hno⟩]
        refine ⟨.agg #[.bool g, .int .i64 at_, .int .u8 how, vd, vg, vs], by rw [probeE, if_pos hm, if_neg hno], ?_, hb⟩
        rw [e1, far_out far]
        have htk : ((stepsRun.stepsF f).take m).length = m := tk_ _ _ far.le
        exact ⟨vd, vg, vs, rfl, by simp only [htk]; exact hd, hgv, hst⟩
end Go.Proofs.Ytnkababhgloclaa
