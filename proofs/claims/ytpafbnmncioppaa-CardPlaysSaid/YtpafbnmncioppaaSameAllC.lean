/- Whether two lists of cards are the same: the document's SameAll, the law's sameCards. -/
import Derived.Test.YtpafbnmncioppaaSameC
import Derived.Test.YtpafbnmncioppaaCheckC
import Derived.Deep.RegionWith
namespace Go.Proofs.Ytpafbnmncioppaa
open Go.RowKit Go.Lib Tx Nm
def sameAllB (cs ds : List Cd) : Bool := decide (cs.length = ds.length) && (List.range cs.length).all fun i => sameB (nthC cs i) (nthC ds i)
theorem sameAll_len {cs ds : List Cd} (h : ¬ cs.length = ds.length) : sameAllB cs ds = false := by
  unfold sameAllB
  rw [decide_eq_false h]
  rfl
theorem sameAll_no {cs ds : List Cd} {k : Nat} (hk : k < cs.length) (h : sameB (nthC cs k) (nthC ds k) = false) : sameAllB cs ds = false := by
  unfold sameAllB
  have : ((List.range cs.length).all fun i => sameB (nthC cs i) (nthC ds i)) = false := by
    rw [List.all_eq_false]
    exact ⟨k, List.mem_range.2 hk, by rw [h]; simp⟩
  rw [this, Bool.and_false]
theorem sameAll_yes {cs ds : List Cd} (hl : cs.length = ds.length) (h : ∀ k, k < cs.length → sameB (nthC cs k) (nthC ds k) = true) : sameAllB cs ds = true := by
  unfold sameAllB
  have : ((List.range cs.length).all fun i => sameB (nthC cs i) (nthC ds i)) = true := by
    rw [List.all_eq_true]
    exact fun k hk => h k (List.mem_range.1 hk)
  rw [this, decide_eq_true hl]
  rfl
theorem sameB_self (c : Cd) : sameB c c = true := by simp [sameB]
theorem sameAll_self (cs : List Cd) : sameAllB cs cs = true := sameAll_yes rfl fun _ _ => sameB_self _
set_option maxHeartbeats 4000000 in
set_option maxRecDepth 100000 in
theorem rsameAll_any (v u : Value) (cs ds : List Cd) (w : World) (hv : CardsAt w v cs) (hu : CardsAt w u ds) : Calls Try.prog 38 #[v, u] w (GivesB (sameAllB cs ds) w) := by
  have HV := Lib.hid hv
  have HU := Lib.hid hu
  obtain ⟨a, cap, rfl, ⟨hm, hmc⟩, _, _⟩ := hv
  obtain ⟨a', cap', rfl, ⟨hm', hmc'⟩, _, _⟩ := hu
  unfold maxLen at hm hm'
  by_cases hl : cs.length = ds.length
  · have HL := Lib.hid hl
    rw [← hl]
    rw [← hl] at hm' hmc' HU
    clear hl
    go_enter Try.func38, Try.ntmps38
    go_wp2_with fail
    go_loopg [5] cs.length (fun r vi wr => ∃ k : Nat, k ≤ cs.length ∧ r = cs.length - k ∧ vi = .int .i64 k ∧ Hid (Below w.heap.size w wr ∧ ∀ j, j < k → sameB (nthC cs j) (nthC ds j) = true))
    case atStart => exact ⟨0, by omega, by omega, rfl, Lib.hid ⟨Below.refl _ _, fun j h => by omega⟩⟩
    case round =>
      obtain ⟨k, hk, hr, rfl, hq⟩ := hrel
      have HR := Lib.hid hr
      have HB := Lib.hid hq.out.1
      have HG := Lib.hid hq.out.2
      clear hr hq
      by_cases hlt : k < cs.length
      · have HVr := Lib.hid (CardsAt.below HV.out HB.out)
        have HUr := Lib.hid (CardsAt.below HU.out HB.out)
        obtain ⟨_, b, off, sl, hp, g, hst⟩ := CardsAt.at HVr.out k hlt
        obtain ⟨hx, b', off', sl', hp', g', hst'⟩ := CardsAt.at HUr.out k hlt
        clear hx
        subst hp hp'
        have HST := Lib.hid hst
        have HST' := Lib.hid hst'
        obtain ⟨c, hc⟩ : ∃ c, nthC cs k = c := ⟨_, rfl⟩
        obtain ⟨d, hd⟩ : ∃ c, nthC ds k = c := ⟨_, rfl⟩
        rw [hc] at g HST
        rw [hd] at g' HST'
        have HC := Lib.hid hc
        have HD := Lib.hid hd
        obtain ⟨n, f, l, ss, sc, q, en⟩ := c
        obtain ⟨n', f', l', ss', sc', q', en'⟩ := d
        have g0 : wr.cell? ⟨b, off + k * 7, none⟩ = some (.string n) := g 0 _ rfl
        have g1 : wr.cell? ⟨b, off + k * 7 + 1, none⟩ = some (.string f) := g 1 _ rfl
        have g2 : wr.cell? ⟨b, off + k * 7 + 2, none⟩ = some (.int .u8 l) := g 2 _ rfl
        have g3 : wr.cell? ⟨b, off + k * 7 + 3, none⟩ = some sl := g 3 _ rfl
        have g4 : wr.cell? ⟨b, off + k * 7 + 4, none⟩ = some (.int .i8 sc) := g 4 _ rfl
        have g5 : wr.cell? ⟨b, off + k * 7 + 5, none⟩ = some (.string q) := g 5 _ rfl
        have g6 : wr.cell? ⟨b, off + k * 7 + 6, none⟩ = some (.int .i16 en) := g 6 _ rfl
        have g0' : wr.cell? ⟨b', off' + k * 7, none⟩ = some (.string n') := g' 0 _ rfl
        have g1' : wr.cell? ⟨b', off' + k * 7 + 1, none⟩ = some (.string f') := g' 1 _ rfl
        have g2' : wr.cell? ⟨b', off' + k * 7 + 2, none⟩ = some (.int .u8 l') := g' 2 _ rfl
        have g3' : wr.cell? ⟨b', off' + k * 7 + 3, none⟩ = some sl' := g' 3 _ rfl
        have g4' : wr.cell? ⟨b', off' + k * 7 + 4, none⟩ = some (.int .i8 sc') := g' 4 _ rfl
        have g5' : wr.cell? ⟨b', off' + k * 7 + 5, none⟩ = some (.string q') := g' 5 _ rfl
        have g6' : wr.cell? ⟨b', off' + k * 7 + 6, none⟩ = some (.int .i16 en') := g' 6 _ rfl
        clear hst hst' hc hd g g'
        have hkc1 : (0 : Int) ≤ (k : Int) := by omega
        have hkc2 : (k : Int) < (cs.length : Int) := by omega
        have ww6 : IntKind.i64.wrap (k : Int) = (k : Int) := by rw [IntKind.wrap_i64]; omega
        obtain ⟨m, hsame⟩ : ∃ m, sameB ⟨n, f, l, ss, sc, q, en⟩ ⟨n', f', l', ss', sc', q', en'⟩ = m := ⟨_, rfl⟩
        have CM := fun (w' : World) (hb : Below wr.heap.size wr w') => rsame_walk n f q n' f' q' l sc en l' sc' en' ss ss' sl sl' w' (HST.out.below hb) (HST'.out.below hb)
        rw [hsame] at CM
        have CM := Lib.hid CM
        have HMY := Lib.hid hsame
        clear hsame
        cases m with
        | false =>
          have HF := Lib.hid (sameAll_no (cs := cs) (ds := ds) hlt (by rw [HC.out, HD.out]; exact HMY.out))
          go_wp2_with fail
          refine wp_region_any (by kernel_rfl) ?_
          refine wpAny_take (i := 0) (v := ?_) rfl (by kernel_rfl) (by kernel_rfl) (by kernel_rfl) (fun _ _ _ h => h) (Or.inl ⟨by kernel_rfl, ?_⟩) ?_
          rotate_left
          · intro w
            go_simp
            try with_reducible rfl
          simp only [Act.put, List.getElem_toArray, List.getElem_cons_zero, List.getElem_cons_succ, List.setIfInBounds_toArray, List.set_cons_zero, List.set_cons_succ]
          refine wpAny_take (i := 1) (v := ?_) rfl (by kernel_rfl) (by kernel_rfl) (by kernel_rfl) (fun _ _ _ h => h) (Or.inl ⟨by kernel_rfl, ?_⟩) ?_
          rotate_left
          · intro w
            go_simp
            try with_reducible rfl
          simp only [Act.put, List.getElem_toArray, List.getElem_cons_zero, List.getElem_cons_succ, List.setIfInBounds_toArray, List.set_cons_zero, List.set_cons_succ]
          refine wpAny_take (i := 2) (v := ?_) rfl (by kernel_rfl) (by kernel_rfl) (by kernel_rfl) (fun _ _ _ h => h) (Or.inl ⟨by kernel_rfl, ?_⟩) ?_
          rotate_left
          · intro w
            go_simp
            try with_reducible rfl
          simp only [Act.put, List.getElem_toArray, List.getElem_cons_zero, List.getElem_cons_succ, List.setIfInBounds_toArray, List.set_cons_zero, List.set_cons_succ]
          refine wpAny_take (i := 4) (v := ?_) rfl (by kernel_rfl) (by kernel_rfl) (by kernel_rfl) (fun _ _ _ h => h) (Or.inl ⟨by kernel_rfl, ?_⟩) ?_
          rotate_left
          · intro w
            go_simp
            try with_reducible rfl
          simp only [Act.put, List.getElem_toArray, List.getElem_cons_zero, List.getElem_cons_succ, List.setIfInBounds_toArray, List.set_cons_zero, List.set_cons_succ]
          refine wpAny_take (i := 5) (v := ?_) rfl (by kernel_rfl) (by kernel_rfl) (by kernel_rfl) (fun _ _ _ h => h) (Or.inl ⟨by kernel_rfl, ?_⟩) ?_
          rotate_left
          · intro w
            go_simp
            try with_reducible rfl
          simp only [Act.put, List.getElem_toArray, List.getElem_cons_zero, List.getElem_cons_succ, List.setIfInBounds_toArray, List.set_cons_zero, List.set_cons_succ]
          refine wpAny_take (i := 6) (v := ?_) rfl (by kernel_rfl) (by kernel_rfl) (by kernel_rfl) (fun _ _ _ h => h) (Or.inl ⟨by kernel_rfl, ?_⟩) ?_
          rotate_left
          · intro w
            go_simp
            try with_reducible rfl
          simp only [Act.put, List.getElem_toArray, List.getElem_cons_zero, List.getElem_cons_succ, List.setIfInBounds_toArray, List.set_cons_zero, List.set_cons_succ]
          refine wpAny_ready (rs := [3, 7]) (by kernel_rfl) (by simp) (AllReady.cons rfl (fun K hK => ?_) (AllReady.cons rfl (fun K hK => ?_) AllReady.nil))
          · go_simp
            refine hK _ _ ?_
            clear hK K
            try simp only [Act.put, List.setIfInBounds_toArray, List.set_cons_zero, List.set_cons_succ]
            refine wpAny_ready (rs := [7]) (by kernel_rfl) (by simp) (AllReady.cons rfl (fun K hK => ?_) AllReady.nil)
            go_simp
            refine hK _ _ ?_
            clear hK K
            try simp only [Act.put, List.setIfInBounds_toArray, List.set_cons_zero, List.set_cons_succ]
            refine wpAny_ready (rs := [8]) (by kernel_rfl) (by simp) (AllReady.cons rfl (fun K hK => ?_) AllReady.nil)
            go_simp
            refine (CM.out _ ((Below.refl _ _).drew)).mono ?_
            rintro er w2 ⟨rfl, hb2⟩
            go_simp
            refine hK _ _ ?_
            clear hK K
            try simp only [Act.put, List.setIfInBounds_toArray, List.set_cons_zero, List.set_cons_succ]
            refine wpAny_take (i := 9) (v := ?_) rfl (by kernel_rfl) (by kernel_rfl) (by kernel_rfl) (fun _ _ _ h => h) (Or.inl ⟨by kernel_rfl, ?_⟩) ?_
            rotate_left
            · intro w
              go_simp
              try with_reducible rfl
            simp only [Act.put, List.getElem_toArray, List.getElem_cons_zero, List.getElem_cons_succ, List.setIfInBounds_toArray, List.set_cons_zero, List.set_cons_succ]
            refine wpAny_done (by kernel_rfl) ?_ _
            go_wp2_with fail
            go_ret
            exact ⟨by rw [HF.out]; rfl, (HB.out.drew).trans (hb2.mono HB.out.size)⟩
          · go_simp
            refine hK _ _ ?_
            clear hK K
            try simp only [Act.put, List.setIfInBounds_toArray, List.set_cons_zero, List.set_cons_succ]
            refine wpAny_ready (rs := [3]) (by kernel_rfl) (by simp) (AllReady.cons rfl (fun K hK => ?_) AllReady.nil)
            go_simp
            refine hK _ _ ?_
            clear hK K
            try simp only [Act.put, List.setIfInBounds_toArray, List.set_cons_zero, List.set_cons_succ]
            refine wpAny_ready (rs := [8]) (by kernel_rfl) (by simp) (AllReady.cons rfl (fun K hK => ?_) AllReady.nil)
            go_simp
            refine (CM.out _ ((Below.refl _ _).drew)).mono ?_
            rintro er w2 ⟨rfl, hb2⟩
            go_simp
            refine hK _ _ ?_
            clear hK K
            try simp only [Act.put, List.setIfInBounds_toArray, List.set_cons_zero, List.set_cons_succ]
            refine wpAny_take (i := 9) (v := ?_) rfl (by kernel_rfl) (by kernel_rfl) (by kernel_rfl) (fun _ _ _ h => h) (Or.inl ⟨by kernel_rfl, ?_⟩) ?_
            rotate_left
            · intro w
              go_simp
              try with_reducible rfl
            simp only [Act.put, List.getElem_toArray, List.getElem_cons_zero, List.getElem_cons_succ, List.setIfInBounds_toArray, List.set_cons_zero, List.set_cons_succ]
            refine wpAny_done (by kernel_rfl) ?_ _
            go_wp2_with fail
            go_ret
            exact ⟨by rw [HF.out]; rfl, (HB.out.drew).trans (hb2.mono HB.out.size)⟩
        | true =>
          have HG1 : Hid (∀ j, j < k + 1 → sameB (nthC cs j) (nthC ds j) = true) := Lib.hid (fun j hj => by
            by_cases e : j = k
            · subst e; rw [HC.out, HD.out]; exact HMY.out
            · exact HG.out j (by omega))
          go_wp2_with fail
          refine wp_region_any (by kernel_rfl) ?_
          refine wpAny_take (i := 0) (v := ?_) rfl (by kernel_rfl) (by kernel_rfl) (by kernel_rfl) (fun _ _ _ h => h) (Or.inl ⟨by kernel_rfl, ?_⟩) ?_
          rotate_left
          · intro w
            go_simp
            try with_reducible rfl
          simp only [Act.put, List.getElem_toArray, List.getElem_cons_zero, List.getElem_cons_succ, List.setIfInBounds_toArray, List.set_cons_zero, List.set_cons_succ]
          refine wpAny_take (i := 1) (v := ?_) rfl (by kernel_rfl) (by kernel_rfl) (by kernel_rfl) (fun _ _ _ h => h) (Or.inl ⟨by kernel_rfl, ?_⟩) ?_
          rotate_left
          · intro w
            go_simp
            try with_reducible rfl
          simp only [Act.put, List.getElem_toArray, List.getElem_cons_zero, List.getElem_cons_succ, List.setIfInBounds_toArray, List.set_cons_zero, List.set_cons_succ]
          refine wpAny_take (i := 2) (v := ?_) rfl (by kernel_rfl) (by kernel_rfl) (by kernel_rfl) (fun _ _ _ h => h) (Or.inl ⟨by kernel_rfl, ?_⟩) ?_
          rotate_left
          · intro w
            go_simp
            try with_reducible rfl
          simp only [Act.put, List.getElem_toArray, List.getElem_cons_zero, List.getElem_cons_succ, List.setIfInBounds_toArray, List.set_cons_zero, List.set_cons_succ]
          refine wpAny_take (i := 4) (v := ?_) rfl (by kernel_rfl) (by kernel_rfl) (by kernel_rfl) (fun _ _ _ h => h) (Or.inl ⟨by kernel_rfl, ?_⟩) ?_
          rotate_left
          · intro w
            go_simp
            try with_reducible rfl
          simp only [Act.put, List.getElem_toArray, List.getElem_cons_zero, List.getElem_cons_succ, List.setIfInBounds_toArray, List.set_cons_zero, List.set_cons_succ]
          refine wpAny_take (i := 5) (v := ?_) rfl (by kernel_rfl) (by kernel_rfl) (by kernel_rfl) (fun _ _ _ h => h) (Or.inl ⟨by kernel_rfl, ?_⟩) ?_
          rotate_left
          · intro w
            go_simp
            try with_reducible rfl
          simp only [Act.put, List.getElem_toArray, List.getElem_cons_zero, List.getElem_cons_succ, List.setIfInBounds_toArray, List.set_cons_zero, List.set_cons_succ]
          refine wpAny_take (i := 6) (v := ?_) rfl (by kernel_rfl) (by kernel_rfl) (by kernel_rfl) (fun _ _ _ h => h) (Or.inl ⟨by kernel_rfl, ?_⟩) ?_
          rotate_left
          · intro w
            go_simp
            try with_reducible rfl
          simp only [Act.put, List.getElem_toArray, List.getElem_cons_zero, List.getElem_cons_succ, List.setIfInBounds_toArray, List.set_cons_zero, List.set_cons_succ]
          refine wpAny_ready (rs := [3, 7]) (by kernel_rfl) (by simp) (AllReady.cons rfl (fun K hK => ?_) (AllReady.cons rfl (fun K hK => ?_) AllReady.nil))
          · go_simp
            refine hK _ _ ?_
            clear hK K
            try simp only [Act.put, List.setIfInBounds_toArray, List.set_cons_zero, List.set_cons_succ]
            refine wpAny_ready (rs := [7]) (by kernel_rfl) (by simp) (AllReady.cons rfl (fun K hK => ?_) AllReady.nil)
            go_simp
            refine hK _ _ ?_
            clear hK K
            try simp only [Act.put, List.setIfInBounds_toArray, List.set_cons_zero, List.set_cons_succ]
            refine wpAny_ready (rs := [8]) (by kernel_rfl) (by simp) (AllReady.cons rfl (fun K hK => ?_) AllReady.nil)
            go_simp
            refine (CM.out _ ((Below.refl _ _).drew)).mono ?_
            rintro er w2 ⟨rfl, hb2⟩
            go_simp
            refine hK _ _ ?_
            clear hK K
            try simp only [Act.put, List.setIfInBounds_toArray, List.set_cons_zero, List.set_cons_succ]
            refine wpAny_take (i := 9) (v := ?_) rfl (by kernel_rfl) (by kernel_rfl) (by kernel_rfl) (fun _ _ _ h => h) (Or.inl ⟨by kernel_rfl, ?_⟩) ?_
            rotate_left
            · intro w
              go_simp
              try with_reducible rfl
            simp only [Act.put, List.getElem_toArray, List.getElem_cons_zero, List.getElem_cons_succ, List.setIfInBounds_toArray, List.set_cons_zero, List.set_cons_succ]
            refine wpAny_done (by kernel_rfl) ?_ _
            go_wp2_with fail
            go_roundg (cs.length - (k + 1))
            case measure => rw [HR.out]; omega
            case rel => exact ⟨k + 1, by omega, rfl, by first | rfl | simp, Lib.hid ⟨(HB.out.drew).trans (hb2.mono HB.out.size), HG1.out⟩⟩
          · go_simp
            refine hK _ _ ?_
            clear hK K
            try simp only [Act.put, List.setIfInBounds_toArray, List.set_cons_zero, List.set_cons_succ]
            refine wpAny_ready (rs := [3]) (by kernel_rfl) (by simp) (AllReady.cons rfl (fun K hK => ?_) AllReady.nil)
            go_simp
            refine hK _ _ ?_
            clear hK K
            try simp only [Act.put, List.setIfInBounds_toArray, List.set_cons_zero, List.set_cons_succ]
            refine wpAny_ready (rs := [8]) (by kernel_rfl) (by simp) (AllReady.cons rfl (fun K hK => ?_) AllReady.nil)
            go_simp
            refine (CM.out _ ((Below.refl _ _).drew)).mono ?_
            rintro er w2 ⟨rfl, hb2⟩
            go_simp
            refine hK _ _ ?_
            clear hK K
            try simp only [Act.put, List.setIfInBounds_toArray, List.set_cons_zero, List.set_cons_succ]
            refine wpAny_take (i := 9) (v := ?_) rfl (by kernel_rfl) (by kernel_rfl) (by kernel_rfl) (fun _ _ _ h => h) (Or.inl ⟨by kernel_rfl, ?_⟩) ?_
            rotate_left
            · intro w
              go_simp
              try with_reducible rfl
            simp only [Act.put, List.getElem_toArray, List.getElem_cons_zero, List.getElem_cons_succ, List.setIfInBounds_toArray, List.set_cons_zero, List.set_cons_succ]
            refine wpAny_done (by kernel_rfl) ?_ _
            go_wp2_with fail
            go_roundg (cs.length - (k + 1))
            case measure => rw [HR.out]; omega
            case rel => exact ⟨k + 1, by omega, rfl, by first | rfl | simp, Lib.hid ⟨(HB.out.drew).trans (hb2.mono HB.out.size), HG1.out⟩⟩
      · obtain rfl : k = cs.length := by omega
        have HF := Lib.hid (sameAll_yes HL.out HG.out)
        go_wp2_with fail
        go_ret
        exact ⟨by rw [HF.out]; rfl, HB.out⟩
  · have HF := Lib.hid (sameAll_len hl)
    have e1 := lens_ne hl
    go_enter Try.func38, Try.ntmps38
    go_wp2_with fail
    go_ret
    exact ⟨by rw [HF.out]; rfl, Below.refl _ _⟩
theorem sameCards_any (v u : Value) (cs ds : List Cd) (w : World) (hv : CardsAt w v cs) (hu : CardsAt w u ds) : Calls Try.prog 19 #[v, u] w (GivesB (sameAllB cs ds) w) := by
  have C := Lib.hid (rsameAll_any v u cs ds w hv hu)
  clear hv hu
  generalize sameAllB cs ds = m at C ⊢
  go_enter Try.func19, Try.ntmps19
  go_wp2_with fail
  refine C.out.mono ?_
  rintro er w1 ⟨rfl, hb⟩
  go_wp2_with fail
  go_ret
  exact ⟨rfl, hb⟩
end Go.Proofs.Ytpafbnmncioppaa
