/- A map from texts to bools that the call makes: the look-up, the law on what it says. -/
import Derived.Test.YtnajbogmhhlpcaaCheckC
import Derived.Maps.OwnOps
import Derived.Maps.OwnSet
namespace Go.Proofs.Ytnajbogmhhlpcaa
open Go.RowKit Go.Maps
theorem plainElem_bool_inv {H : Type} {P : Program} {e : TypeId} (he : P.underlying e = some .bool) {v : Value} {z : DataW H × List MemPlace} (h : plainElem P e v = some z) : ∃ x, v = .bool x ∧ z = (.lit (.bool x), []) := by
  unfold plainElem at h
  rw [he] at h
  cases v <;> simp at h
  exact ⟨_, rfl, h.symm⟩
theorem lookup_bool {H : Type} {P : Program} {w : World} {t k e : TypeId} {b n : Nat} {D : DataW H} (h : w.ownsMap P k (plainElem P e) b n D) (K : Keyed P k) (ht : P.underlying t = some (.map k e)) (he : P.underlying e = some .bool) (hz : (zeroValue e).run P w = .ok (.bool false) w)
    {key : Value} {kl : Lit} (hkey : keyOf P k key = some kl) : ∃ c, (Instr.lookup t (.map (some b)) key false).run P w = .ok (.bool c) w ∧ D.atKey kl (.lit (.bool false)) = .lit (.bool c) := by
  obtain ⟨v, ps, hrun, hv⟩ := h.lookup K ht hz (plainElem_bool he false) hkey
  obtain ⟨c, rfl, hc⟩ := plainElem_bool_inv he hv
  simp only [Prod.mk.injEq] at hc
  exact ⟨c, hrun, hc.1⟩
theorem wpList_lookup_bool_if {H : Type} {P : Program} (w : World) {ops : Array Oper} {rest : List Oper} {o : Oper} {a : Act} {Q : Exit → Act → World → Prop}
    (hgd : Region.wanted o (yielded ops a.tmps) = true) (m x : Operand) (t : TypeId) (hop : o.op = Op.lookup t m x false)
    (k e : TypeId) (K : Keyed P k) (ht : P.underlying t = some (.map k e)) (he : P.underlying e = some .bool) (hz : (zeroValue e).run P w = .ok (.bool false) w) (b n : Nat) (D : DataW H)
    (hm : a.eval m = .map (some b)) (hown : w.ownsMap P k (plainElem P e) b n D) (key : Value) (kl : Lit) (hx : a.eval x = key) (hkey : keyOf P k key = some kl)
    (c : Bool) (hc : D.atKey kl (.lit (.bool false)) = .lit (.bool c))
    (hK : wpList P ops Q rest (a.put o.dst (.bool c)) w) :
    wpList P ops Q (o :: rest) a w :=
  wpList_step fun K' hK' => by
    rw [if_pos hgd]
    obtain ⟨c', hrun, hat⟩ := lookup_bool hown K ht he hz hkey
    rw [hc] at hat
    simp only [DataW.lit.injEq, Lit.bool.injEq] at hat
    subst hat
    unfold Oper.wp
    simp [execOp, hop, hm, hx, hrun, Result.andThen]
    exact hK' _ _ hK
theorem lawS : Keyed Try.prog 9 := string_keyed Try.underlying9
theorem zeroB (w : World) : (zeroValue 4).run Try.prog w = .ok (.bool false) w := by kernel_rfl
theorem owns_same {H : Type} {P : Program} {w w' : World} {k : TypeId} {R : Value → Option (DataW H × List MemPlace)} {b n : Nat} {D : DataW H} (h : w.ownsMap P k R b n D) (hh : w'.heap[b]? = w.heap[b]?) : w'.ownsMap P k R b n D := by
  obtain ⟨es, clock, hb, F, hs, hD⟩ := h
  exact ⟨es, clock, hh.trans hb, F, hs, hD⟩
def keyL (s : ByteArray) : Lit := .string s.data.toList
theorem keyL_inj {s t : ByteArray} (h : keyL s = keyL t) : s = t := by
  unfold keyL at h
  simp only [Lit.string.injEq] at h
  cases s; cases t
  simp only at h
  congr
  exact Array.ext' h
/-- The map says which names the first k cards have. -/
def Says (cs : List Cd) (k : Nat) (D : DataW Unit) : Prop := ∀ s, D.atKey (keyL s) (.lit (.bool false)) = .lit (.bool (namedB (cs.take k) s))
theorem says_zero (cs : List Cd) : Says cs 0 (.map []) := fun _ => rfl
theorem says_next {cs : List Cd} {k : Nat} {D : DataW Unit} (hk : k < cs.length) (h : Says cs k D) (hD : IsMap D) : Says cs (k + 1) (D.put (keyL (nthC cs k).name) (.lit (.bool true))) := by
  intro s
  have e : namedB (cs.take (k + 1)) s = (namedB (cs.take k) s || decide ((nthC cs k).name = s)) := by
    rw [List.take_succ_eq_append_getElem hk]
    unfold namedB
    rw [List.any_append, nthC_eq hk]
    simp
  rw [e]
  by_cases c : (nthC cs k).name = s
  · subst c
    rw [atKey_put_same hD (by trivial), decide_eq_true rfl, Bool.or_true]
  · rw [atKey_put_other (fun h => c (keyL_inj h).symm), h s, decide_eq_false c, Bool.or_false]
end Go.Proofs.Ytnajbogmhhlpcaa
