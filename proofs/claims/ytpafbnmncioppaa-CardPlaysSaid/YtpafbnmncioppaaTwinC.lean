/- Cards in memory of their own: the document's Twin, Twins. -/
import Derived.Test.YtpafbnmncioppaaFamS
namespace Go.Proofs.Ytpafbnmncioppaa
open Go.RowKit Go.ChangeShapes
theorem infoS : (Try.prog.info? 9).map (fun i => (i.zero, i.size, i.bytes)) = some (some (.string .empty), 1, 16) := by kernel_rfl
theorem infoC : (Try.prog.info? 38).map (fun i => (i.zero, i.size, i.bytes)) = some (some (.agg #[.string .empty, .string .empty, .int .u8 0, .slice none 0 0, .int .i8 0, .string .empty, .int .i16 0]), 7, 96) := by kernel_rfl
def Twinned (c : Cd) (w : World) (e : Ending) (w' : World) : Prop := ∃ g cap, e = .returned (.agg (c.cells (.slice (some ⟨g, 0, none⟩) c.comp.length cap)).toArray) ∧ w'.ownsRow w.heap.size 9 1 (.slice (some ⟨g, 0, none⟩) c.comp.length cap) c.comp.length (sc c.comp) ∧ Below w.heap.size w w'
set_option maxHeartbeats 8000000 in
set_option maxRecDepth 100000 in
theorem twin_walk (n f q : ByteArray) (l s e : Int) (ss : List ByteArray) (sl : Value) (w : World) (hs : Strs w sl ss) (hn : ss.length ≤ 8796093022208) :
    Calls Try.prog 21 #[.agg #[.string n, .string f, .int .u8 l, sl, .int .i8 s, .string q, .int .i16 e]] w (Twinned ⟨n, f, l, ss, s, q, e⟩ w) := by
  obtain ⟨is, hj, hy0, hy1, hy2⟩ := info_parts infoS
  obtain ⟨W2, hW2⟩ : ∃ W2, W2 = (w.alloc (.cells #[.string n, .string f, .int .u8 l, sl, .int .i8 s, .string q, .int .i16 e] 38)).alloc (.cells #[.string ⟨#[]⟩, .string ⟨#[]⟩, .int .u8 0, .slice none 0 0, .int .i8 0, .string ⟨#[]⟩, .int .i16 0] 38) := ⟨_, rfl⟩
  have hz2 : W2.heap.size = w.heap.size + 1 + 1 := by rw [hW2]; simp
  have o0 : Hid ((W2.alloc (.cells #[] 9)).ownsRow w.heap.size 9 1 (.slice (some ⟨W2.heap.size, 0, none⟩) 0 0) 0 (sc [])) := Lib.hid (World.ownsRow_lit (w := W2) #[] 0 (by omega) (by simp) rfl)
  have b1 : Below w.heap.size w (W2.alloc (.cells #[] 9)) := by rw [hW2]; exact (((Below.refl _ w).alloc (Nat.le_refl _) _).alloc (by simp; try omega) _).alloc (by simp; try omega) _
  have B1 := Lib.hid b1
  have HS := Lib.hid (hs.below b1)
  have ka : (W2.alloc (.cells #[] 9)).heap[w.heap.size]? = some (.cells #[.string n, .string f, .int .u8 l, sl, .int .i8 s, .string q, .int .i16 e] 38 (0, 0)) := by
    rw [hW2, heap_alloc_old _ _ (by simp; try omega), heap_alloc_old _ _ (by simp; try omega), heap_alloc_new]
  have kb : (W2.alloc (.cells #[] 9)).heap[w.heap.size + 1]? = some (.cells #[.string ⟨#[]⟩, .string ⟨#[]⟩, .int .u8 0, .slice none 0 0, .int .i8 0, .string ⟨#[]⟩, .int .i16 0] 38 (0, 0)) := by
    rw [heap_alloc_old _ _ (by omega), hW2]
    have := heap_alloc_new (w.alloc (.cells #[.string n, .string f, .int .u8 l, sl, .int .i8 s, .string q, .int .i16 e] 38)) (.cells #[.string ⟨#[]⟩, .string ⟨#[]⟩, .int .u8 0, .slice none 0 0, .int .i8 0, .string ⟨#[]⟩, .int .i16 0] 38)
    simpa using this
  have KA := Lib.hid ka
  have KB := Lib.hid kb
  have HZ := Lib.hid hz2
  have s1 : w.heap.size ≤ (W2.alloc (.cells #[] 9)).heap.size := b1.size
  have S1 := Lib.hid s1
  have hx : (W2.alloc (.cells #[] 9)).heap.size = w.heap.size + 1 + 1 + 1 := by simp [hz2]
  have HX := Lib.hid hx
  rw [hz2] at o0
  subst hW2
  clear ka kb hs b1 hz2 hx s1
  go_enter Try.func21, Try.ntmps21
  go_wp2_with (refine wpList_copyS (by rfl) (.tmp 3) (.tmp 5) 34 (by rfl) w.heap.size 9 is Try.underlying34 hj hy0 hy1 hy2 (w.heap.size + 1 + 1) 0 (by rfl) o0.out sl ss (by rfl) HS.out hn S1.out (w.heap.size + 1 + 1 + 1) HX.out ?_)
  intro g cap w1 hown hgrow hat hlt
  have hg : w.heap.size + 2 ≤ g := by rcases hat with rfl | rfl <;> omega
  have ha := (hgrow.block w.heap.size (by simp; try omega) (by simp; try omega)).trans KA.out
  have hb := (hgrow.block (w.heap.size + 1) (by simp; try omega) (by simp; try omega)).trans KB.out
  have k0 := (cell_of_row w1 w.heap.size 0 _ _ _ ha).trans rfl
  have k1 := (cell_of_row w1 w.heap.size 1 _ _ _ ha).trans rfl
  have k2 := (cell_of_row w1 w.heap.size 2 _ _ _ ha).trans rfl
  have k3 := (cell_of_row w1 w.heap.size 3 _ _ _ ha).trans rfl
  have k4 := (cell_of_row w1 w.heap.size 4 _ _ _ ha).trans rfl
  have k5 := (cell_of_row w1 w.heap.size 5 _ _ _ ha).trans rfl
  have k6 := (cell_of_row w1 w.heap.size 6 _ _ _ ha).trans rfl
  have fk := frozen_of_row w1 w.heap.size 3 _ _ ha
  have j0 := (cell_of_row w1 (w.heap.size + 1) 0 _ _ _ hb).trans rfl
  have f0 := frozen_of_row w1 (w.heap.size + 1) 0 _ _ hb
  have j1 := (cell_of_row w1 (w.heap.size + 1) 1 _ _ _ hb).trans rfl
  have f1 := frozen_of_row w1 (w.heap.size + 1) 1 _ _ hb
  have j2 := (cell_of_row w1 (w.heap.size + 1) 2 _ _ _ hb).trans rfl
  have f2 := frozen_of_row w1 (w.heap.size + 1) 2 _ _ hb
  have j3 := (cell_of_row w1 (w.heap.size + 1) 3 _ _ _ hb).trans rfl
  have f3 := frozen_of_row w1 (w.heap.size + 1) 3 _ _ hb
  have j4 := (cell_of_row w1 (w.heap.size + 1) 4 _ _ _ hb).trans rfl
  have f4 := frozen_of_row w1 (w.heap.size + 1) 4 _ _ hb
  have j5 := (cell_of_row w1 (w.heap.size + 1) 5 _ _ _ hb).trans rfl
  have f5 := frozen_of_row w1 (w.heap.size + 1) 5 _ _ hb
  have j6 := (cell_of_row w1 (w.heap.size + 1) 6 _ _ _ hb).trans rfl
  have f6 := frozen_of_row w1 (w.heap.size + 1) 6 _ _ hb
  have HO := Lib.hid hown
  have B2 := Lib.hid (B1.out.grown hgrow S1.out (fun k hk => by simp at hk; omega))
  clear ha hb hgrow hown hat
  go_wp2_with fail
  refine bodyPost_ret (v := .agg #[.string n, .string f, .int .u8 l, .slice (some ⟨g, 0, none⟩) ss.length cap, .int .i8 s, .string q, .int .i16 e]) (by simp [results, Try.results21, go_sem, *]) rfl ?_
  have nb : (Value.slice (some ⟨g, 0, none⟩) ss.length cap).ownBlock ≠ some w.heap.size := by simp [Value.ownBlock]; omega
  have nr : (Value.slice (some ⟨g, 0, none⟩) ss.length cap).ownBlock ≠ some (w.heap.size + 1) := by simp [Value.ownBlock]; omega
  refine ⟨g, cap, rfl, ?_, ?_⟩
  · refine ownsRow_setCell_other (ownsRow_setCell_other (ownsRow_setCell_other (ownsRow_setCell_other (ownsRow_setCell_other (ownsRow_setCell_other (ownsRow_setCell_other (ownsRow_setCell_other HO.out ?_ _) ?_ _) ?_ _) ?_ _) ?_ _) ?_ _) ?_ _) ?_ _
    all_goals first | exact nb | exact nr
  · refine Below.setCell (Below.setCell (Below.setCell (Below.setCell (Below.setCell (Below.setCell (Below.setCell (Below.setCell B2.out ?_ _) ?_ _) ?_ _) ?_ _) ?_ _) ?_ _) ?_ _) ?_ _
    all_goals (simp only []; omega)
theorem twin_any (c : Cd) (sl : Value) (w : World) (hs : Strs w sl c.comp) (hn : c.comp.length ≤ 8796093022208) : Calls Try.prog 21 #[.agg (c.cells sl).toArray] w (Twinned c w) :=
  twin_walk c.name c.fam c.quirk c.lvl c.score c.ent c.comp sl w hs hn
/-- The cards and their texts lie in memory of their own. -/
def Own (w : World) (B : Nat) (v : Value) (l : List (Cd × Value)) : Prop := w.ownsRow B 38 7 v l.length (ccells l) ∧ FamS w B 9 (l.map fun r => (r.2, r.1.comp))
def Twinsd (cs : List Cd) (w : World) (e : Ending) (w' : World) : Prop := ∃ vo l, e = .returned vo ∧ l.map (·.1) = cs ∧ Own w' w.heap.size vo l ∧ Below w.heap.size w w'
set_option maxHeartbeats 8000000 in
set_option maxRecDepth 100000 in
theorem twins_any (v : Value) (cs : List Cd) (w : World) (hv : CardsAt w v cs) (hr1 : cs.length * 96 ≤ 140737488355328) (hO : ∀ k, k < cs.length → (nthC cs k).comp.length ≤ 8796093022208) : Calls Try.prog 14 #[v] w (Twinsd cs w) := by
  obtain ⟨ir, hi, hz0, hz1, hz2⟩ := info_parts infoC
  have HV := Lib.hid hv
  have HO := Lib.hid hO
  obtain ⟨a, cap, rfl, ⟨hm, hmc⟩, _, _⟩ := hv
  unfold maxLen at hm
  clear hO
  go_enter Try.func14, Try.ntmps14
  go_wp2_with fail
  go_loopg [3, 4] cs.length (fun r m vi wr => ∃ k : Nat, k ≤ cs.length ∧ r = cs.length - k ∧ vi = .int .i64 k ∧ Hid (∃ l : List (Cd × Value), l.length = k ∧ l.map (·.1) = cs.take k ∧ wr.ownsRow w.heap.size 38 7 m k (ccells l) ∧ FamS wr w.heap.size 9 (l.map fun r => (r.2, r.1.comp)) ∧ Below w.heap.size w wr))
  case atStart => exact ⟨0, by omega, by omega, rfl, Lib.hid ⟨[], rfl, by simp, World.ownsRow_nil _ _ _ _, FamS.nil _ _ _, Below.refl _ _⟩⟩
  case round =>
    obtain ⟨k, hk, hr, rfl, hq⟩ := hrel
    obtain ⟨l, hlk, q0, q1, q2, q3⟩ := hq.out
    have Q0 := Lib.hid q0
    have Q1 := Lib.hid q1
    have Q2 := Lib.hid q2
    have Q3 := Lib.hid q3
    have HL := Lib.hid hlk
    have HR := Lib.hid hr
    clear q0 q1 q2 q3 hlk hr hq
    by_cases hlt : k < cs.length
    · have HVr := Lib.hid (CardsAt.below HV.out Q3.out)
      obtain ⟨hx, b, off, sl, hp, g, hst⟩ := CardsAt.at HVr.out k hlt
      clear hx
      subst hp
      have HST := Lib.hid hst
      have HOk := Lib.hid (HO.out k hlt)
      obtain ⟨c, hc⟩ : ∃ c, nthC cs k = c := ⟨_, rfl⟩
      rw [hc] at g HST HOk
      have HC := Lib.hid hc
      obtain ⟨n, f, lv, ss, sco, q, en⟩ := c
      have g0 : wr.cell? ⟨b, off + k * 7, none⟩ = some (.string n) := g 0 _ rfl
      have g1 : wr.cell? ⟨b, off + k * 7 + 1, none⟩ = some (.string f) := g 1 _ rfl
      have g2 : wr.cell? ⟨b, off + k * 7 + 2, none⟩ = some (.int .u8 lv) := g 2 _ rfl
      have g3 : wr.cell? ⟨b, off + k * 7 + 3, none⟩ = some sl := g 3 _ rfl
      have g4 : wr.cell? ⟨b, off + k * 7 + 4, none⟩ = some (.int .i8 sco) := g 4 _ rfl
      have g5 : wr.cell? ⟨b, off + k * 7 + 5, none⟩ = some (.string q) := g 5 _ rfl
      have g6 : wr.cell? ⟨b, off + k * 7 + 6, none⟩ = some (.int .i16 en) := g 6 _ rfl
      clear hst hc g
      have hkc1 : (0 : Int) ≤ (k : Int) := by omega
      have hkc2 : (k : Int) < (cs.length : Int) := by omega
      have hz : w.heap.size ≤ wr.heap.size := Q3.out.size
      have hkm : k + 1 ≤ maxLen := by unfold maxLen; omega
      have hkb : (k + 1) * 96 ≤ 140737488355328 := by omega
      go_wp2_with fail
      refine (twin_walk n f q lv sco en ss sl wr HST.out HOk.out).mono ?_
      rintro er w1 ⟨g, cap1, rfl, hown, hb⟩
      simp only [Cd.cells]
      simp only at hown
      have R1 := Lib.hid hown
      have B1 := Lib.hid hb
      have s1 : w.heap.size ≤ w1.heap.size := Nat.le_trans hz hb.size
      have A1 := Lib.hid (own_below Q1.out hb)
      clear hown hb
      have A2 := Lib.hid (A1.out.alloc (.cells #[.string n, .string f, .int .u8 lv, .slice (some ⟨g, 0, none⟩) ss.length cap1, .int .i8 sco, .string q, .int .i16 en] 38 (0, 0)))
      have S1 := Lib.hid s1
      go_wp2_with (refine wpList_append_lies _ (by rfl) (.tmp 11) (.tmp 17) 33 (by rfl) w.heap.size 38 ir _ 7 96 Try.underlying33 hi hz0 hz1 hz2 rfl (by omega) u3 k (ccells l) (by rfl) A2.out ⟨w1.heap.size, 0, none⟩ 1 1 [.string n, .string f, .int .u8 lv, .slice (some ⟨g, 0, none⟩) ss.length cap1, .int .i8 sco, .string q, .int .i16 en] (by rfl) (by rfl) (World.news_of_block (cs := #[.string n, .string f, .int .u8 lv, .slice (some ⟨g, 0, none⟩) ss.length cap1, .int .i8 sco, .string q, .int .i16 en]) (t := 38) (fr := (0, 0)) (heap_alloc_new w1 _)) (by simp [Value.oneCell']) (by omega) hkm hkb (by simp; omega) (w1.heap.size + 1) (by simp) ?_)
      intro g2 cap2 w2 hown2 hgrow2 hat2 hlt2
      have N2 := Lib.hid hown2
      have R2 := Lib.hid ((own_base R1.out hz).alloc (.cells #[.string n, .string f, .int .u8 lv, .slice (some ⟨g, 0, none⟩) ss.length cap1, .int .i8 sco, .string q, .int .i16 en] 38 (0, 0)))
      have N1 := Lib.hid (R2.out.kept hgrow2 (own_ne R2.out A2.out (by decide)))
      have hg1 : wr.heap.size ≤ g := (R1.out.lt g rfl).1
      have N3 : Hid (FamS w2 w.heap.size 9 ((l ++ [((⟨n, f, lv, ss, sco, q, en⟩ : Cd), Value.slice (some ⟨g, 0, none⟩) ss.length cap1)]).map fun r => (r.2, r.1.comp))) := Lib.hid (by
        rw [List.map_append]
        refine FamS.add (Q2.out.to fun v' n' xs' hv' h => ?_) N1.out (by simp [Value.ownBlock]) (fun f' hf => ?_)
        · have e2 := (own_below h B1.out).alloc (.cells #[.string n, .string f, .int .u8 lv, .slice (some ⟨g, 0, none⟩) ss.length cap1, .int .i8 sco, .string q, .int .i16 en] 38 (0, 0))
          exact e2.kept hgrow2 (own_ne e2 A2.out (by decide))
        · intro e
          have := ((Q2.out.1 f' hf).1.lt g (by rw [e]; rfl)).2
          omega)
      have N4 : Hid (Below w.heap.size w w2) := Lib.hid (((Q3.out.trans (B1.out.mono hz)).alloc s1 (.cells #[.string n, .string f, .int .u8 lv, .slice (some ⟨g, 0, none⟩) ss.length cap1, .int .i8 sco, .string q, .int .i16 en] 38 (0, 0))).grown hgrow2 (by simp; omega) (fun kk hk' => (A2.out.lt kk hk').1))
      clear hgrow2 hat2 hown2
      go_wp2_with fail
      go_roundg (cs.length - (k + 1))
      case measure => rw [HR.out]; omega
      case rel =>
        refine ⟨k + 1, by omega, rfl, by simp, Lib.hid ⟨l ++ [((⟨n, f, lv, ss, sco, q, en⟩ : Cd), Value.slice (some ⟨g, 0, none⟩) ss.length cap1)], by simp [HL.out], ?_, ?_, N3.out, N4.out⟩⟩
        · rw [List.map_append, Q0.out, List.take_succ_eq_append_getElem hlt, ← nthC_eq hlt, HC.out]
          rfl
        · rw [ccells_append]
          exact N2.out
    · obtain rfl : k = cs.length := by omega
      go_wp2_with fail
      go_ret
      exact ⟨_, l, rfl, by rw [Q0.out, List.take_length], ⟨by rw [HL.out]; exact Q1.out, Q2.out⟩, Q3.out⟩
end Go.Proofs.Ytpafbnmncioppaa
