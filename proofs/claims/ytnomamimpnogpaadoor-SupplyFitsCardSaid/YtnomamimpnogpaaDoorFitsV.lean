/- The plain law of SupplyFits: what windows have in common, in any order and grouping. -/
import Derived.Test.YtnomamimpnogpaaDoorFirstC
namespace Go.Proofs.YtnomamimpnogpaaDoor
open Go.RowKit
theorem meet_fold (ps : List (Int × Int)) : ∀ s : Int × Int, 0 ≤ s.1 → s.2 ≤ 1099511627776 →
    ps.foldl (fun s p => (max s.1 p.1, min s.2 p.2)) s = (max s.1 (meetTo ps).1, min s.2 (meetTo ps).2) := by
  unfold meetTo
  induction ps with
  | nil => intro s h1 h2; simp only [List.foldl_nil]; ext <;> simp <;> omega
  | cons p r ih =>
    intro s h1 h2
    simp only [List.foldl_cons]
    rw [ih (max s.1 p.1, min s.2 p.2) (by simp; omega) (by simp; omega), ih (max 0 p.1, min 1099511627776 p.2) (by simp; omega) (by simp; omega)]
    ext <;> simp <;> omega
theorem meetTo_append (a b : List (Int × Int)) : meetTo (a ++ b) = (max (meetTo a).1 (meetTo b).1, min (meetTo a).2 (meetTo b).2) := by
  have h := meetTo_bd a
  show (a ++ b).foldl _ _ = _
  rw [List.foldl_append]
  exact meet_fold b (meetTo a) h.1 h.2
theorem meetTo_one (p : Int × Int) : meetTo [p] = (max 0 p.1, min 1099511627776 p.2) := rfl
theorem meetTo_iff (v : Int) (ps : List (Int × Int)) : ((meetTo ps).1 ≤ v ∧ v ≤ (meetTo ps).2) ↔ (0 ≤ v ∧ v ≤ 1099511627776 ∧ ∀ p ∈ ps, p.1 ≤ v ∧ v ≤ p.2) := by
  induction ps with
  | nil => simp [meetTo]
  | cons p r ih =>
    have e : meetTo (p :: r) = (max (meetTo [p]).1 (meetTo r).1, min (meetTo [p]).2 (meetTo r).2) := meetTo_append [p] r
    rw [e, meetTo_one]
    simp only [List.mem_cons, forall_eq_or_imp]
    constructor
    · intro ⟨h1, h2⟩
      have h3 := ih.1 ⟨by omega, by omega⟩
      exact ⟨h3.1, h3.2.1, ⟨by omega, by omega⟩, h3.2.2⟩
    · intro ⟨h1, h2, h3, h4⟩
      have h5 := ih.2 ⟨h1, h2, h4⟩
      exact ⟨by simp; omega, by simp; omega⟩
theorem meetTo_in (ps : List (Int × Int)) (k : Nat) (hk : k < ps.length) : p1 ps k ≤ (meetTo ps).1 ∧ (meetTo ps).2 ≤ p2 ps k := by
  have hs : ps = ps.take k ++ (p1 ps k, p2 ps k) :: ps.drop (k + 1) := by
    rw [← pair_at ps k hk, ← List.drop_eq_getElem_cons hk, List.take_append_drop]
  have e : meetTo ps = (max (meetTo (ps.take k)).1 (max (meetTo [(p1 ps k, p2 ps k)]).1 (meetTo (ps.drop (k + 1))).1), min (meetTo (ps.take k)).2 (min (meetTo [(p1 ps k, p2 ps k)]).2 (meetTo (ps.drop (k + 1))).2)) := by
    have e1 := meetTo_append (ps.take k) ([(p1 ps k, p2 ps k)] ++ ps.drop (k + 1))
    rw [meetTo_append [(p1 ps k, p2 ps k)]] at e1
    rw [← e1]
    exact congrArg meetTo hs
  rw [e, meetTo_one]
  constructor <;> simp <;> omega
/-- The windows of the statement. -/
def fitN (x : Int) : Int := (x.tmod 67108864 + 67108864).tmod 67108864
def fitP (p : Int × Int) : Int × Int := (min (fitN p.1) (fitN p.2), max (fitN p.1) (fitN p.2))
def fitL (ps : List (Int × Int)) : List (Int × Int) := ps.map fitP
theorem fitN_bd (x : Int) : 0 ≤ fitN x ∧ fitN x < 67108864 := by
  unfold fitN
  have h1 := Int.tmod_lt_of_pos x (show (0 : Int) < 67108864 by decide)
  have h2 : -67108864 < x.tmod 67108864 := by
    have h3 := Int.lt_tmod_of_pos x (show (0 : Int) < 67108864 by decide)
    exact h3
  rw [Int.tmod_eq_emod_of_nonneg (by omega)]
  omega
theorem fitP_may (p : Int × Int) : mayB (fitP p) = true := by
  have h1 := fitN_bd p.1
  have h2 := fitN_bd p.2
  rw [mayB_iff]
  unfold fitP
  simp
  omega
theorem fitL_may (ps : List (Int × Int)) : (fitL ps).all mayB = true := by
  rw [List.all_eq_true]
  intro p hp
  obtain ⟨q, _, rfl⟩ := List.mem_map.1 hp
  exact fitP_may q
theorem fitL_len (ps : List (Int × Int)) : (fitL ps).length = ps.length := by simp [fitL]
theorem fitL_p1 (ps : List (Int × Int)) (k : Nat) (hk : k < ps.length) : p1 (fitL ps) k = min (fitN (p1 ps k)) (fitN (p2 ps k)) := by
  simp [fitL, p1, p2, List.getD, hk, fitP]
theorem fitL_p2 (ps : List (Int × Int)) (k : Nat) (hk : k < ps.length) : p2 (fitL ps) k = max (fitN (p1 ps k)) (fitN (p2 ps k)) := by
  simp [fitL, p1, p2, List.getD, hk, fitP]
theorem all_take {α} (f : α → Bool) (l : List α) (n : Nat) (h : l.all f = true) : (l.take n).all f = true := by
  rw [List.all_eq_true] at h ⊢
  exact fun x hx => h x (List.mem_of_mem_take hx)
theorem all_drop {α} (f : α → Bool) (l : List α) (n : Nat) (h : l.all f = true) : (l.drop n).all f = true := by
  rw [List.all_eq_true] at h ⊢
  exact fun x hx => h x (List.mem_of_mem_drop hx)
/-- What Meet answers of windows that may be. -/
theorem meetV_ok (ps : List (Int × Int)) (h : ps.all mayB = true) (hl : (meetTo ps).1 ≤ (meetTo ps).2) : meetV ps = ((meetTo ps).1, (meetTo ps).2, 0) := by
  unfold meetV; rw [if_pos h, if_neg (by omega)]
theorem meetV_none (ps : List (Int × Int)) (h : ps.all mayB = true) (hl : ¬ (meetTo ps).1 ≤ (meetTo ps).2) : meetV ps = (0, 0, 6) := by
  unfold meetV; rw [if_pos h, if_pos (by omega)]
theorem meetV_err (ps : List (Int × Int)) (h : ps.all mayB = true) : (meetV ps).2.2 = 0 ∨ (meetV ps).2.2 = 6 := by
  by_cases hl : (meetTo ps).1 ≤ (meetTo ps).2
  · rw [meetV_ok ps h hl]; exact .inl rfl
  · rw [meetV_none ps h hl]; exact .inr rfl
theorem meet_parts (ps : List (Int × Int)) (n : Nat) : meetTo ps = (max (meetTo (ps.drop n)).1 (meetTo (ps.take n)).1, min (meetTo (ps.drop n)).2 (meetTo (ps.take n)).2) := by
  have e := meetTo_append (ps.take n) (ps.drop n)
  rw [List.take_append_drop] at e
  rw [e]
  ext <;> simp <;> omega
/-- Both parts have something in common: then what they have in common is the whole's. -/
theorem meet_both (ps : List (Int × Int)) (n : Nat) (h : ps.all mayB = true) (h1 : (meetV (ps.drop n)).2.2 = 0) (h2 : (meetV (ps.take n)).2.2 = 0) :
    meetV [((meetV (ps.drop n)).1, (meetV (ps.drop n)).2.1), ((meetV (ps.take n)).1, (meetV (ps.take n)).2.1)] = meetV ps := by
  have a1 : (meetTo (ps.drop n)).1 ≤ (meetTo (ps.drop n)).2 := by
    by_cases hl : (meetTo (ps.drop n)).1 ≤ (meetTo (ps.drop n)).2
    · exact hl
    · rw [meetV_none _ (all_drop _ _ _ h) hl] at h1; cases h1
  have a2 : (meetTo (ps.take n)).1 ≤ (meetTo (ps.take n)).2 := by
    by_cases hl : (meetTo (ps.take n)).1 ≤ (meetTo (ps.take n)).2
    · exact hl
    · rw [meetV_none _ (all_take _ _ _ h) hl] at h2; cases h2
  have b1 := meetTo_bd (ps.drop n)
  have b2 := meetTo_bd (ps.take n)
  rw [meetV_ok _ (all_drop _ _ _ h) a1, meetV_ok _ (all_take _ _ _ h) a2]
  have hp := meet_parts ps n
  have he : meetTo [((meetTo (ps.drop n)).1, (meetTo (ps.drop n)).2), ((meetTo (ps.take n)).1, (meetTo (ps.take n)).2)] = meetTo ps := by
    rw [hp]
    have e := meetTo_append [((meetTo (ps.drop n)).1, (meetTo (ps.drop n)).2)] [((meetTo (ps.take n)).1, (meetTo (ps.take n)).2)]
    rw [meetTo_one, meetTo_one] at e
    refine e.trans ?_
    ext <;> simp <;> omega
  have hm : [((meetTo (ps.drop n)).1, (meetTo (ps.drop n)).2), ((meetTo (ps.take n)).1, (meetTo (ps.take n)).2)].all mayB = true := by
    simp only [List.all_cons, List.all_nil, Bool.and_true, Bool.and_eq_true]
    exact ⟨(mayB_iff _).2 ⟨b1.1, a1, b1.2⟩, (mayB_iff _).2 ⟨b2.1, a2, b2.2⟩⟩
  unfold meetV
  rw [if_pos hm, if_pos h, he]
theorem meet_sub (ps : List (Int × Int)) (n : Nat) (h : ps.all mayB = true) (h0 : (meetV ps).2.2 = 0) : (meetV (ps.drop n)).2.2 = 0 ∧ (meetV (ps.take n)).2.2 = 0 := by
  have a0 : (meetTo ps).1 ≤ (meetTo ps).2 := by
    by_cases hl : (meetTo ps).1 ≤ (meetTo ps).2
    · exact hl
    · rw [meetV_none _ h hl] at h0; cases h0
  have hp := meet_parts ps n
  rw [hp] at a0
  simp at a0
  rw [meetV_ok _ (all_drop _ _ _ h) (by omega), meetV_ok _ (all_take _ _ _ h) (by omega)]
  exact ⟨rfl, rfl⟩
/-- Is v within all? -/
def inB (v : Int) (ps : List (Int × Int)) : Bool := decide (0 ≤ v) && decide (v ≤ 1099511627776) && ps.all fun p => decide (p.1 ≤ v) && decide (v ≤ p.2)
theorem inB_succ (v : Int) (ps : List (Int × Int)) (k : Nat) (hk : k < ps.length) : inB v (ps.take (k + 1)) = (inB v (ps.take k) && decide (p1 ps k ≤ v) && decide (v ≤ p2 ps k)) := by
  unfold inB
  rw [List.take_succ_eq_append_getElem hk, List.all_append, pair_at ps k hk]
  simp [Bool.and_assoc]
theorem inB_iff (v : Int) (ps : List (Int × Int)) : inB v ps = true ↔ (meetTo ps).1 ≤ v ∧ v ≤ (meetTo ps).2 := by
  rw [meetTo_iff]
  simp [inB, and_assoc]
/-- As the statement asks it. -/
theorem inB_meet (v : Int) (ps : List (Int × Int)) (h : ps.all mayB = true) : inB v ps = (decide ((meetV ps).2.2 = 0) && decide ((meetV ps).1 ≤ v) && decide (v ≤ (meetV ps).2.1)) := by
  rw [Bool.eq_iff_iff, inB_iff]
  by_cases hl : (meetTo ps).1 ≤ (meetTo ps).2
  · rw [meetV_ok _ h hl]; simp
  · rw [meetV_none _ h hl]; simp; omega
end Go.Proofs.YtnomamimpnogpaaDoor
