/- Copies of rows of numbers, and rows compared. -/
import Derived.Test.YtdhlmflbefnekaaDoorTurnC
import Derived.Laws.AppendOwnNone
import Derived.Deep.LoopGhost
import Derived.BigQuiet
namespace Go.Proofs.YtdhlmflbefnekaaDoor
open Go.RowKit Go.ChangeShapes
namespace Cp
theorem ints_of_own {w : World} {B e : Nat} {u : Value} {n : Nat} {zs : List Int} (h : w.ownsRow B e 1 u n (rc zs)) (hn : zs.length = n) (hm : n ≤ maxLen) : Ints .i64 w u zs := by
  have h' := h
  rcases h.2 with ⟨rfl, h0⟩ | ⟨g, cap, cur, rfl, _⟩
  · subst h0
    exact ⟨none, 0, by rw [hn], by omega, fun _ => ⟨List.length_eq_zero_iff.1 hn, rfl⟩, fun i hi => by omega⟩
  · exact ⟨some ⟨g, 0, none⟩, cap, by rw [hn], by omega, (fun h => by cases h), fun i hi => ⟨g, 0, rfl, by rw [Nat.zero_add]; exact rc_at h' hn i (by omega)⟩⟩
/-- 'append' of any list of numbers to an empty row of the call's own. -/
theorem wpList_copy {P : Program} {w : World} {ops : Array Oper} {rest : List Oper} {o : Oper} {a : Act} {Q : Exit → Act → World → Prop} (hgd : o.guard = none) (s x : Operand) (t : TypeId)
    (ho : o.op = .call { callee := .builtin .append, args := #[s, x], argTypes := #[t, t] })
    (base : Nat) (e : TypeId) (i : TypeInfo) (ht : P.underlying t = some (.slice e)) (hi : P.info? e = some i) (hz : i.zero = some (.int .i64 0)) (hsize : i.size = 1) (hby : i.bytes = 8)
    (v0 : Value) (hs : a.eval s = v0) (hown : w.ownsRow base e 1 v0 0 (rc [])) (v : Value) (zs : List Int) (hx : a.eval x = v) (hv : Ints .i64 w v zs) (hlen : zs.length ≤ 17592186044416) (hbase : base ≤ w.heap.size)
    (h : ∀ v' w', w'.ownsRow base e 1 v' zs.length (rc zs) → w.grownBy w' v0.ownBlock → wpList P ops Q rest (a.put o.dst v') w') : wpList P ops Q (o :: rest) a w := by
  obtain ⟨ad, cap, rfl, hm, hnil, hc⟩ := hv
  cases ad with
  | none =>
    obtain ⟨rfl, rfl⟩ := hnil rfl
    exact wpList_append_own_none hgd s x t ho base e i 1 ht hi v0 0 (rc []) hs hown hx (h v0 w hown (World.grownBy.refl w _))
  | some ad =>
    refine wpList_append_own w hgd s x t ho base e i (.int .i64 0) 1 8 ht hi hz hsize hby rfl (by decide) v0 0 (rc []) hs hown ad zs.length cap (rc zs) hx (by rw [rc_len, Nat.mul_one]) (fun j u hj => ?_) (rc_one zs) (by unfold maxLen at *; omega) (by omega) hbase (fun v' w' h1 h2 _ => h v' w' (by simpa [rc] using h1) h2)
    have hjl : j < zs.length := by
      have := (List.getElem?_eq_some_iff.1 hj).1
      rwa [rc_len] at this
    obtain ⟨b, off, hp, hcell⟩ := hc j hjl
    obtain rfl := Option.some.inj hp
    rw [addr_add, hcell]
    simp [rc, hjl, nth_eq hjl] at hj ⊢
    exact hj
set_option maxHeartbeats 1000000 in
theorem same64_eq (v u : Value) (zs : List Int) (w : World) (hv : Ints .i64 w v zs) (hu : Ints .i64 w u zs) :
    Calls Tryd.prog 11 #[v, u] w fun e w' => e = .returned (.bool true) ∧ ∃ n, w' = w.drewN n := by
  obtain ⟨a, cap, rfl, hm, _, hc⟩ := hv
  obtain ⟨a', cap', rfl, _, _, hc'⟩ := hu
  have HC := Lib.hid hc
  have HC' := Lib.hid hc'
  clear hc hc'
  unfold maxLen at hm
  go_enter Tryd.func11, Tryd.ntmps11
  go_wp2_with fail
  go_loopg [5] zs.length (fun r i wr => ∃ k n : Nat, k ≤ zs.length ∧ r = zs.length - k ∧ i = .int .i64 k ∧ wr = w.drewN n)
  case atStart => exact ⟨0, 0, by omega, by omega, rfl, rfl⟩
  case round =>
    obtain ⟨k, n, hk, hr, rfl, rfl⟩ := hrel
    have HR := Lib.hid hr
    clear hr
    by_cases hlt : k < zs.length
    · obtain ⟨b, off, hp, g⟩ := HC.out k hlt
      obtain ⟨b', off', hp', g'⟩ := HC'.out k hlt
      subst hp hp'
      generalize nth zs k = z at *
      have ww : IntKind.i64.wrap (k : Int) = (k : Int) := by rw [IntKind.wrap_i64]; omega
      go_wp2_with fail
      go_quiet (fail)
      go_wp2_with fail
      go_roundg (zs.length - (k + 1))
      case measure => rw [HR.out]; omega
      case rel => exact ⟨k + 1, n + nq, by omega, rfl, by first | rfl | simp, by first | rfl | exact World.drewN_drewN _ _ _⟩
    · obtain rfl : k = zs.length := by omega
      go_wp2_with fail
      go_ret
      exact ⟨rfl, _, rfl⟩
set_option maxHeartbeats 1000000 in
theorem sameI_eq (v u : Value) (zs : List Int) (w : World) (hv : Ints .i64 w v zs) (hu : Ints .i64 w u zs) :
    Calls Tryd.prog 23 #[v, u] w fun e w' => e = .returned (.bool true) ∧ ∃ n, w' = w.drewN n := by
  obtain ⟨a, cap, rfl, hm, _, hc⟩ := hv
  obtain ⟨a', cap', rfl, _, _, hc'⟩ := hu
  have HC := Lib.hid hc
  have HC' := Lib.hid hc'
  clear hc hc'
  unfold maxLen at hm
  go_enter Tryd.func23, Tryd.ntmps23
  go_wp2_with fail
  go_loopg [5] zs.length (fun r i wr => ∃ k n : Nat, k ≤ zs.length ∧ r = zs.length - k ∧ i = .int .i64 k ∧ wr = w.drewN n)
  case atStart => exact ⟨0, 0, by omega, by omega, rfl, rfl⟩
  case round =>
    obtain ⟨k, n, hk, hr, rfl, rfl⟩ := hrel
    have HR := Lib.hid hr
    clear hr
    by_cases hlt : k < zs.length
    · obtain ⟨b, off, hp, g⟩ := HC.out k hlt
      obtain ⟨b', off', hp', g'⟩ := HC'.out k hlt
      subst hp hp'
      generalize nth zs k = z at *
      have ww : IntKind.i64.wrap (k : Int) = (k : Int) := by rw [IntKind.wrap_i64]; omega
      go_wp2_with fail
      go_quiet (fail)
      go_wp2_with fail
      go_roundg (zs.length - (k + 1))
      case measure => rw [HR.out]; omega
      case rel => exact ⟨k + 1, n + nq, by omega, rfl, by first | rfl | simp, by first | rfl | exact World.drewN_drewN _ _ _⟩
    · obtain rfl : k = zs.length := by omega
      go_wp2_with fail
      go_ret
      exact ⟨rfl, _, rfl⟩
theorem Ints.below {k : IntKind} {w w' : World} {v : Value} {zs : List Int} (h : Ints k w v zs) (hb : Below w.heap.size w w') : Ints k w' v zs := by
  obtain ⟨a, cap, he, g1, g2, g3⟩ := h
  refine ⟨a, cap, he, g1, g2, fun i hi => ?_⟩
  obtain ⟨b, off, h1, h2⟩ := g3 i hi
  exact ⟨b, off, h1, (hb.cell (p := ⟨b, off + i, none⟩) (World.block_lt_of_cell? w _ h2)).trans h2⟩
theorem own_drew {w : World} {B e n : Nat} {u : Value} {xs : List Value} (h : w.ownsRow B e 1 u n xs) (d : Nat) : (w.drewN d).ownsRow B e 1 u n xs := own_below h (below_drewN (Below.refl _ _) d)
/-- Where a row's block lies. -/
def In (v : Value) (lo hi : Nat) : Prop := ∀ g, v.ownBlock = some g → lo ≤ g ∧ g < hi
theorem In.of {w : World} {B e n : Nat} {u : Value} {xs : List Value} (h : w.ownsRow B e 1 u n xs) : In u B w.heap.size := fun g hg => h.lt g hg
theorem In.ne {v : Value} {lo hi : Nat} (h : In v lo hi) {g : Nat} (hg : g < lo ∨ hi ≤ g) : v.ownBlock ≠ some g := fun e => by have := h g e; omega
end Cp
end Go.Proofs.YtdhlmflbefnekaaDoor
