/- All cards copied: card.all. -/
import Derived.Test.YtpafbnmncioppaaCopyB
namespace Go.Proofs.Ytpafbnmncioppaa
open Go.RowKit Go.ChangeShapes
/-- The cards' texts lie in rows of the call's own. -/
def RowsOf (w : World) (B : Nat) (l : List (Cd × Value)) : Prop := ∀ r ∈ l, w.ownsRow B 9 1 r.2 r.1.comp.length (sc r.1.comp)
theorem RowsOf.to {w w' : World} {B : Nat} {l : List (Cd × Value)} (h : RowsOf w B l) (hk : ∀ (v : Value) (n : Nat) (xs : List Value), w.ownsRow B 9 1 v n xs → w'.ownsRow B 9 1 v n xs) : RowsOf w' B l := fun r hr => hk _ _ _ (h r hr)
theorem RowsOf.add {w : World} {B : Nat} {l : List (Cd × Value)} {c : Cd} {v : Value} (h : RowsOf w B l) (hv : w.ownsRow B 9 1 v c.comp.length (sc c.comp)) : RowsOf w B (l ++ [(c, v)]) := by
  intro r hr
  rcases List.mem_append.1 hr with hr | hr
  · exact h r hr
  · obtain rfl := List.mem_singleton.1 hr
    exact hv
theorem RowsOf.below {w w' : World} {B : Nat} {l : List (Cd × Value)} (h : RowsOf w B l) (hb : Below w.heap.size w w') : RowsOf w' B l := h.to fun _ _ _ h => own_below h hb
/-- Such cards read as cards. -/
theorem cards_rows {w : World} {B t : Nat} {v : Value} {l : List (Cd × Value)} (h : w.ownsRow B t 7 v l.length (ccells l)) (hf : RowsOf w B l) (hm : l.length ≤ maxLen) (hml : ∀ r ∈ l, r.1.comp.length ≤ maxLen) : CardsAt w v (l.map (·.1)) := by
  have h' := h
  rcases h.2 with ⟨rfl, h0⟩ | ⟨g, cap, cur, rfl, hx⟩
  · exact ⟨none, 0, by simp [h0], by simp [h0], fun _ => ⟨by rw [List.length_eq_zero_iff.1 h0]; rfl, rfl⟩, fun i hi => by simp at hi; omega⟩
  · refine ⟨some ⟨g, 0, none⟩, cap, by simp, by simpa using ⟨hm, hx.2.2.1⟩, (fun h => by cases h), fun i hi => ?_⟩
    have hi' : i < l.length := by simpa using hi
    refine ⟨g, 0, l[i].2, rfl, fun j u hj => ?_, ?_⟩
    · rw [Nat.zero_add]
      simp only [List.getElem_map] at hj
      have hj7 : j < 7 := by
        have := (List.getElem?_eq_some_iff.1 hj).1
        simpa [Cd.cells] using this
      rw [h'.cellAt _ (by omega)]
      exact ccells_at l i hi' j u hj
    · simp only [List.getElem_map]
      exact strs_own (hf _ (List.getElem_mem hi')) (hml _ (List.getElem_mem hi'))
def AllX (cs : List Cd) (w : World) (e : Ending) (w' : World) : Prop := ∃ vo l, e = .returned vo ∧ l.map (·.1) = cs ∧ w'.ownsRow w.heap.size 38 7 vo l.length (ccells l) ∧ RowsOf w' w.heap.size l ∧ Below w.heap.size w w'
set_option maxHeartbeats 8000000 in
set_option maxRecDepth 100000 in
theorem all_any (v : Value) (cs : List Cd) (w : World) (hv : CardsAt w v cs) (hr1 : cs.length * 96 ≤ 140737488355328) (hO : ∀ k, k < cs.length → (nthC cs k).comp.length ≤ 8796093022208) : Calls Try.prog 48 #[v] w (AllX cs w) := by
  obtain ⟨ir, hi, hz0, hz1, hz2⟩ := info_parts infoC
  have HV := Lib.hid hv
  have HO := Lib.hid hO
  obtain ⟨a, cap, rfl, ⟨hm, hmc⟩, _, _⟩ := hv
  unfold maxLen at hm
  clear hO
  go_enter Try.func48, Try.ntmps48
  go_wp2_with fail
  go_loopg [3, 5, 8] cs.length (fun r m _ vi wr => ∃ k : Nat, k ≤ cs.length ∧ r = cs.length - k ∧ vi = .int .i64 k ∧ Hid (∃ l : List (Cd × Value), l.length = k ∧ l.map (·.1) = cs.take k ∧ wr.ownsRow w.heap.size 38 7 m k (ccells l) ∧ RowsOf wr w.heap.size l ∧ Below w.heap.size w wr))
  case atStart => exact ⟨0, by omega, by omega, rfl, Lib.hid ⟨[], rfl, by simp, World.ownsRow_nil _ _ _ _, (fun r h => by cases h), Below.refl _ _⟩⟩
  case round =>
    obtain ⟨k, hk, hr, rfl, hq⟩ := hrel
    obtain ⟨l, hlk, q0, q1, q2, q3⟩ := hq.out
    have Q0 := Lib.hid q0
    have Q1 := Lib.hid q1
    have Q2 := Lib.hid q2
    have Q3 := Lib.hid q3
    have HL := Lib.hid hlk
    have HR := Lib.hid hr
    clear q0 q1 q2 q3 hlk hr hq
    by_cases hlt : k < cs.length
    · have HVr := Lib.hid (CardsAt.below HV.out Q3.out)
      obtain ⟨hx, b, off, sl, hp, g, hst⟩ := CardsAt.at HVr.out k hlt
      clear hx
      subst hp
      have HST := Lib.hid hst
      clear hst
      have HOk := Lib.hid (HO.out k hlt)
      obtain ⟨c, hc⟩ : ∃ c, nthC cs k = c := ⟨_, rfl⟩
      rw [hc] at g HST HOk
      have HC := Lib.hid hc
      obtain ⟨n, f, lv, ss, sco, q, en⟩ := c
      obtain ⟨al, caps, hsl, _, _, _, _⟩ := HST.out
      simp only at hsl
      subst hsl
      have g0 : wr.cell? ⟨b, off + k * 7, none⟩ = some (.string n) := g 0 _ rfl
      have g1 : wr.cell? ⟨b, off + k * 7 + 1, none⟩ = some (.string f) := g 1 _ rfl
      have g2 : wr.cell? ⟨b, off + k * 7 + 2, none⟩ = some (.int .u8 lv) := g 2 _ rfl
      have g3 : wr.cell? ⟨b, off + k * 7 + 3, none⟩ = some (.slice al ss.length caps) := g 3 _ rfl
      have g4 : wr.cell? ⟨b, off + k * 7 + 4, none⟩ = some (.int .i8 sco) := g 4 _ rfl
      have g5 : wr.cell? ⟨b, off + k * 7 + 5, none⟩ = some (.string q) := g 5 _ rfl
      have g6 : wr.cell? ⟨b, off + k * 7 + 6, none⟩ = some (.int .i16 en) := g 6 _ rfl
      clear hc g
      have hkc1 : (0 : Int) ≤ (k : Int) := by omega
      have hkc2 : (k : Int) < (cs.length : Int) := by omega
      have hz : w.heap.size ≤ wr.heap.size := Q3.out.size
      have hkm : k + 1 ≤ maxLen := by unfold maxLen; omega
      have hkb : (k + 1) * 96 ≤ 140737488355328 := by omega
      have BA : Hid (Below wr.heap.size wr (wr.alloc (.cells #[.string n, .string f, .int .u8 lv, .slice al ss.length caps, .int .i8 sco, .string q, .int .i16 en] 38))) := Lib.hid ((Below.refl _ wr).alloc (Nat.le_refl _) _)
      have HC2 := Lib.hid (copied_walk n f q lv sco en ss (.slice al ss.length caps) _ (HST.out.below BA.out) HOk.out)
      go_wp2_with fail
      refine HC2.out.mono ?_
      rintro er w1 ⟨g, cap1, rfl, hown, hb⟩
      have BB : Hid (Below wr.heap.size wr w1) := Lib.hid (BA.out.trans (hb.mono BA.out.size))
      have R1 : Hid (w1.ownsRow w.heap.size 9 1 (.slice g ss.length cap1) ss.length (sc ss)) := Lib.hid (own_base hown (Nat.le_trans hz BA.out.size))
      have s1 : w.heap.size ≤ w1.heap.size := Nat.le_trans hz BB.out.size
      have A1 := Lib.hid (own_below Q1.out BB.out)
      have RR := Lib.hid (Q2.out.below BB.out)
      clear hown hb
      have A2 := Lib.hid (A1.out.alloc (.cells #[.string n, .string f, .int .u8 lv, .slice g ss.length cap1, .int .i8 sco, .string q, .int .i16 en] 38 (0, 0)))
      have S1 := Lib.hid s1
      go_wp2_with (refine wpList_append_lies _ (by rfl) (.tmp 12) (.tmp 15) 33 (by rfl) w.heap.size 38 ir _ 7 96 Try.underlying33 hi hz0 hz1 hz2 rfl (by omega) u3 k (ccells l) (by rfl) A2.out ⟨w1.heap.size, 0, none⟩ 1 1 [.string n, .string f, .int .u8 lv, .slice g ss.length cap1, .int .i8 sco, .string q, .int .i16 en] (by rfl) (by rfl) (World.news_of_block (cs := #[.string n, .string f, .int .u8 lv, .slice g ss.length cap1, .int .i8 sco, .string q, .int .i16 en]) (t := 38) (fr := (0, 0)) (heap_alloc_new w1 _)) (by simp [Value.oneCell']) (by omega) hkm hkb (by simp; omega) (w1.heap.size + 1) (by simp) ?_)
      intro g2 cap2 w2 hown2 hgrow2 hat2 hlt2
      have N2 := Lib.hid hown2
      have R2 := Lib.hid (R1.out.alloc (.cells #[.string n, .string f, .int .u8 lv, .slice g ss.length cap1, .int .i8 sco, .string q, .int .i16 en] 38 (0, 0)))
      have N1 := Lib.hid (R2.out.kept hgrow2 (own_ne R2.out A2.out (by decide)))
      have N3 : Hid (RowsOf w2 w.heap.size (l ++ [((⟨n, f, lv, ss, sco, q, en⟩ : Cd), Value.slice g ss.length cap1)])) := Lib.hid (RowsOf.add (RR.out.to fun v' n' xs' h => by
        have e2 := h.alloc (.cells #[.string n, .string f, .int .u8 lv, .slice g ss.length cap1, .int .i8 sco, .string q, .int .i16 en] 38 (0, 0))
        exact e2.kept hgrow2 (own_ne e2 A2.out (by decide))) N1.out)
      have N4 : Hid (Below w.heap.size w w2) := Lib.hid (((Q3.out.trans (BB.out.mono hz)).alloc s1 (.cells #[.string n, .string f, .int .u8 lv, .slice g ss.length cap1, .int .i8 sco, .string q, .int .i16 en] 38 (0, 0))).grown hgrow2 (by simp; omega) (fun kk hk' => (A2.out.lt kk hk').1))
      clear hgrow2 hat2 hown2
      go_wp2_with fail
      go_roundg (cs.length - (k + 1))
      case measure => rw [HR.out]; omega
      case rel =>
        refine ⟨k + 1, by omega, rfl, by simp, Lib.hid ⟨l ++ [((⟨n, f, lv, ss, sco, q, en⟩ : Cd), Value.slice g ss.length cap1)], by simp [HL.out], ?_, ?_, N3.out, N4.out⟩⟩
        · rw [List.map_append, Q0.out, List.take_succ_eq_append_getElem hlt, ← nthC_eq hlt, HC.out]
          rfl
        · rw [ccells_append]
          exact N2.out
    · obtain rfl : k = cs.length := by omega
      go_wp2_with fail
      go_ret
      exact ⟨_, l, rfl, by rw [Q0.out, List.take_length], by rw [HL.out]; exact Q1.out, Q2.out, Q3.out⟩
end Go.Proofs.Ytpafbnmncioppaa
