/- Lists of cards: named, the document's Check. -/
import Derived.Test.YtpafbnmncioppaaRMayC
import Derived.Deep.RegionHeld3
import Derived.OwnWalk
namespace Go.Proofs.Ytpafbnmncioppaa
open Go.RowKit Go.Lib Tx Nm
def namedB (cs : List Cd) (s : ByteArray) : Bool := cs.any fun c => decide (c.name = s)
def nthC (cs : List Cd) (i : Nat) : Cd := cs.getD i default
theorem nthC_eq {cs : List Cd} {i : Nat} (h : i < cs.length) : nthC cs i = cs[i] := by simp [nthC, List.getD, h]
theorem nthC_take {cs : List Cd} {n k : Nat} (h : k < n) : nthC (cs.take n) k = nthC cs k := by
  unfold nthC
  simp [List.getD_eq_getElem?_getD, List.getElem?_take, h]
theorem namedB_yes {cs : List Cd} {k : Nat} {x : ByteArray} (hk : k < cs.length) (h : (nthC cs k).name = x) : namedB cs x = true := by
  unfold namedB
  rw [List.any_eq_true]
  exact ⟨nthC cs k, by rw [nthC_eq hk]; exact List.getElem_mem _, decide_eq_true h⟩
theorem namedB_no {cs : List Cd} {x : ByteArray} (h : ∀ k, k < cs.length → (nthC cs k).name ≠ x) : namedB cs x = false := by
  unfold namedB
  rw [List.any_eq_false]
  intro s hs
  obtain ⟨k, hk, rfl⟩ := List.getElem_of_mem hs
  have := h k hk
  rw [nthC_eq hk] at this
  simpa using this
/-- The cells of the k-th card of a slice. -/
theorem CardsAt.at {w : World} {a : Option Addr} {n cap : Nat} {cs : List Cd} (h : CardsAt w (.slice a n cap) cs) (k : Nat) (hk : k < n) : n = cs.length ∧ ∃ b off sl, a = some ⟨b, off, none⟩ ∧ (∀ j u, ((nthC cs k).cells sl)[j]? = some u → w.cell? ⟨b, off + k * 7 + j, none⟩ = some u) ∧ Strs w sl (nthC cs k).comp := by
  obtain ⟨a', cap', he, _, _, g⟩ := h
  simp only [Value.slice.injEq] at he
  obtain ⟨rfl, rfl, rfl⟩ := he
  obtain ⟨b, off, sl, h1, h2, h3⟩ := g k hk
  rw [← nthC_eq hk] at h2 h3
  exact ⟨rfl, b, off, sl, h1, h2, h3⟩
theorem CardsAt.take {w : World} {a : Option Addr} {n cap : Nat} {cs : List Cd} (h : CardsAt w (.slice a n cap) cs) (i : Nat) (hi : i ≤ n) : CardsAt w (.slice a i cap) (cs.take i) := by
  obtain ⟨a', cap', he, g1, g2, g3⟩ := h
  simp only [Value.slice.injEq] at he
  obtain ⟨rfl, rfl, rfl⟩ := he
  have hl : (cs.take i).length = i := by rw [List.length_take]; omega
  refine ⟨a, cap, by rw [hl], ⟨by omega, by omega⟩, fun h => ?_, fun k hk => ?_⟩
  · obtain ⟨e1, e2⟩ := g2 h
    exact ⟨by rw [e1]; simp, e2⟩
  · obtain ⟨b, off, sl, h1, h2, h3⟩ := g3 k (by omega)
    have e : (cs.take i)[k] = cs[k]'(by omega) := by rw [List.getElem_take]
    exact ⟨b, off, sl, h1, by rw [e]; exact h2, by rw [e]; exact h3⟩
set_option maxHeartbeats 1000000 in
theorem named_any (v : Value) (cs : List Cd) (x : ByteArray) (w : World) (hv : CardsAt w v cs) : Calls Try.prog 37 #[v, .string x] w fun e w' => e = .returned (.bool (namedB cs x)) ∧ w' = w := by
  have HV := Lib.hid hv
  obtain ⟨a, cap, rfl, ⟨hm, hmc⟩, _, _⟩ := hv
  unfold maxLen at hm
  go_enter Try.func37, Try.ntmps37
  go_wp2_with fail
  go_loopg [5] cs.length (fun r vi wr => ∃ k : Nat, k ≤ cs.length ∧ r = cs.length - k ∧ vi = .int .i64 k ∧ wr = w ∧ Hid (∀ j, j < k → (nthC cs j).name ≠ x))
  case atStart => exact ⟨0, by omega, by omega, rfl, rfl, Lib.hid (fun j h => by omega)⟩
  case round =>
    obtain ⟨k, hk, hr, rfl, rfl, hh⟩ := hrel
    have HR := Lib.hid hr
    clear hr
    by_cases hlt : k < cs.length
    · obtain ⟨_, b, off, sl, hp, g, _⟩ := CardsAt.at HV.out k hlt
      subst hp
      have g0 : wr.cell? ⟨b, off + k * 7, none⟩ = some (.string (nthC cs k).name) := g 0 _ rfl
      clear g
      by_cases he : (nthC cs k).name = x
      · have HF := Lib.hid (namedB_yes hlt he)
        have e1 := beq_yes he
        obtain ⟨y, hy⟩ : ∃ y, (nthC cs k).name = y := ⟨_, rfl⟩
        rw [hy] at g0 e1
        clear hy he hh
        go_wp2_with fail
        go_ret
        exact ⟨by rw [HF.out]; rfl, rfl⟩
      · have HN : Hid (∀ j, j < k + 1 → (nthC cs j).name ≠ x) := Lib.hid (fun j hj => by
          by_cases e : j = k
          · subst e; exact he
          · exact hh.out j (by omega))
        have e1 := beq_no he
        obtain ⟨y, hy⟩ : ∃ y, (nthC cs k).name = y := ⟨_, rfl⟩
        rw [hy] at g0 e1
        clear hy he hh
        go_wp2_with fail
        go_roundg (cs.length - (k + 1))
        case measure => rw [HR.out]; omega
        case rel => exact ⟨k + 1, by omega, rfl, by first | rfl | simp, rfl, HN⟩
    · obtain rfl : k = cs.length := by omega
      have HF := Lib.hid (namedB_no (fun j hj => hh.out j hj))
      go_wp2_with fail
      go_ret
      exact ⟨by rw [HF.out]; rfl, rfl⟩
/-- May the i-th card stand in the list? -/
def goodC (cs : List Cd) (i : Nat) : Bool := decide (i < 64) && mayB (nthC cs i) && !namedB (cs.take i) (nthC cs i).name
def firstBad (cs : List Cd) : Option Nat := (List.range cs.length).find? fun i => !goodC cs i
def checkI (cs : List Cd) : Int := match firstBad cs with | some i => i | none => 0
def checkE (cs : List Cd) : Int := match firstBad cs with | some _ => 70 | none => 0
theorem firstBad_some {cs : List Cd} {k : Nat} (hk : k < cs.length) (h1 : ∀ j, j < k → goodC cs j = true) (h2 : goodC cs k = false) : checkI cs = k ∧ checkE cs = 70 := by
  have : firstBad cs = some k := by
    unfold firstBad
    rw [List.find?_eq_some_iff_getElem]
    refine ⟨by rw [h2]; rfl, k, by simpa using hk, by simp, fun j hj => ?_⟩
    simp only [List.getElem_range]
    rw [h1 j hj]
    rfl
  unfold checkI checkE
  rw [this]
  exact ⟨rfl, rfl⟩
theorem firstBad_none {cs : List Cd} (h1 : ∀ j, j < cs.length → goodC cs j = true) : checkI cs = 0 ∧ checkE cs = 0 := by
  have : firstBad cs = none := by
    unfold firstBad
    rw [List.find?_eq_none]
    intro j hj
    rw [h1 j (List.mem_range.1 hj)]
    simp
  unfold checkI checkE
  rw [this]
  exact ⟨rfl, rfl⟩
theorem goodC_big {cs : List Cd} {k : Nat} (h : 64 ≤ k) : goodC cs k = false := by
  unfold goodC
  rw [decide_eq_false (by omega)]
  rfl
theorem goodC_may {cs : List Cd} {k : Nat} (h : mayB (nthC cs k) = false) : goodC cs k = false := by
  unfold goodC
  rw [h, Bool.and_false]
  rfl
theorem goodC_named {cs : List Cd} {k : Nat} (h : namedB (cs.take k) (nthC cs k).name = true) : goodC cs k = false := by
  unfold goodC
  rw [h]
  simp
theorem goodC_yes {cs : List Cd} {k : Nat} (h0 : k < 64) (h1 : mayB (nthC cs k) = true) (h2 : namedB (cs.take k) (nthC cs k).name = false) : goodC cs k = true := by
  unfold goodC
  rw [decide_eq_true h0, h1, h2]
  rfl
def Two (i e : Int) (w : World) (en : Ending) (w' : World) : Prop := en = .returned (.tuple #[.int .i64 i, .int .i64 e]) ∧ Below w.heap.size w w'
set_option maxHeartbeats 8000000 in
set_option maxRecDepth 100000 in
theorem rcheck_any (v : Value) (cs : List Cd) (w : World) (hv : CardsAt w v cs) (hok : ∀ i, i < cs.length → (nthC cs i).ok) : Calls Try.prog 16 #[v] w (Two (checkI cs) (checkE cs) w) := by
  have HV := Lib.hid hv
  have HO := Lib.hid hok
  obtain ⟨a, cap, rfl, ⟨hm, hmc⟩, _, _⟩ := hv
  unfold maxLen at hm
  clear hok
  go_enter Try.func16, Try.ntmps16
  go_wp2_with fail
  go_loopg [4] cs.length (fun r vi wr => ∃ k : Nat, k ≤ cs.length ∧ r = cs.length - k ∧ vi = .int .i64 k ∧ Hid (Below w.heap.size w wr ∧ ∀ j, j < k → goodC cs j = true))
  case atStart => exact ⟨0, by omega, by omega, rfl, Lib.hid ⟨Below.refl _ _, fun j h => by omega⟩⟩
  case round =>
    obtain ⟨k, hk, hr, rfl, hq⟩ := hrel
    have HR := Lib.hid hr
    have HB := Lib.hid hq.out.1
    have HG := Lib.hid hq.out.2
    clear hr hq
    by_cases hlt : k < cs.length
    · by_cases h64 : 64 ≤ k
      · obtain ⟨f1, f2⟩ := firstBad_some hlt HG.out (goodC_big h64)
        have HF := Lib.hid (And.intro f1 f2)
        have e1 : decide ((k : Int) ≥ 64) = true := decide_eq_true (by omega)
        clear f1 f2
        go_wp2_with fail
        go_quiet (fail)
        go_wp2_with fail
        go_ret2
        exact ⟨by rw [HF.out.1, HF.out.2]; rfl, below_drewN HB.out _⟩
      have e1 : decide ((k : Int) ≥ 64) = false := decide_eq_false (by omega)
      have HVr := Lib.hid (CardsAt.below HV.out HB.out)
      obtain ⟨_, b, off, sl, hp, g, hst⟩ := CardsAt.at HVr.out k hlt
      subst hp
      have HOK := Lib.hid (HO.out k hlt)
      have HST := Lib.hid hst
      obtain ⟨c, hc⟩ : ∃ c, nthC cs k = c := ⟨_, rfl⟩
      rw [hc] at g HOK HST
      have HC := Lib.hid hc
      obtain ⟨n, f, l, ss, sc, q, en⟩ := c
      have g0 : wr.cell? ⟨b, off + k * 7, none⟩ = some (.string n) := g 0 _ rfl
      have g1 : wr.cell? ⟨b, off + k * 7 + 1, none⟩ = some (.string f) := g 1 _ rfl
      have g2 : wr.cell? ⟨b, off + k * 7 + 2, none⟩ = some (.int .u8 l) := g 2 _ rfl
      have g3 : wr.cell? ⟨b, off + k * 7 + 3, none⟩ = some sl := g 3 _ rfl
      have g4 : wr.cell? ⟨b, off + k * 7 + 4, none⟩ = some (.int .i8 sc) := g 4 _ rfl
      have g5 : wr.cell? ⟨b, off + k * 7 + 5, none⟩ = some (.string q) := g 5 _ rfl
      have g6 : wr.cell? ⟨b, off + k * 7 + 6, none⟩ = some (.int .i16 en) := g 6 _ rfl
      clear hst hc g
      have hkc1 : (0 : Int) ≤ (k : Int) := by omega
      have hkc2 : (k : Int) < (cs.length : Int) := by omega
      have ww6 : IntKind.i64.wrap (k : Int) = (k : Int) := by rw [IntKind.wrap_i64]; omega
      have hkc3 : (k : Int) ≤ (cap : Int) := by omega
      obtain ⟨m, hmay⟩ : ∃ m, mayB ⟨n, f, l, ss, sc, q, en⟩ = m := ⟨_, rfl⟩
      have CM := fun (w' : World) (hb : Below wr.heap.size wr w') => rmay_walk n f q l sc en ss sl w' (HST.out.below hb) HOK.out
      rw [hmay] at CM
      have CM := Lib.hid CM
      have HMY := Lib.hid hmay
      have hbl : b < wr.heap.size := World.block_lt_of_cell? wr _ g0
      clear hmay
      cases m with
      | false =>
        obtain ⟨f1, f2⟩ := firstBad_some hlt HG.out (goodC_may (by rw [HC.out]; exact HMY.out))
        have HF := Lib.hid (And.intro f1 f2)
        clear f1 f2
        go_wp2_with fail
        refine wp_region_any (by kernel_rfl) ?_
        refine wpAny_take (i := 0) (v := ?_) rfl (by kernel_rfl) (by kernel_rfl) (by kernel_rfl) (fun _ _ _ h => h) (Or.inl ⟨by kernel_rfl, ?_⟩) ?_
        rotate_left
        · intro w
          go_simp
          try with_reducible rfl
        simp only [Act.put, List.getElem_toArray, List.getElem_cons_zero, List.getElem_cons_succ, List.setIfInBounds_toArray, List.set_cons_zero, List.set_cons_succ]
        refine wpAny_take (i := 1) (v := ?_) rfl (by kernel_rfl) (by kernel_rfl) (by kernel_rfl) (fun _ _ _ h => h) (Or.inl ⟨by kernel_rfl, ?_⟩) ?_
        rotate_left
        · intro w
          go_simp
          try with_reducible rfl
        simp only [Act.put, List.getElem_toArray, List.getElem_cons_zero, List.getElem_cons_succ, List.setIfInBounds_toArray, List.set_cons_zero, List.set_cons_succ]
        refine wpAny_take (i := 2) (v := ?_) rfl (by kernel_rfl) (by kernel_rfl) (by kernel_rfl) (fun _ _ _ h => h) (Or.inl ⟨by kernel_rfl, ?_⟩) ?_
        rotate_left
        · intro w
          go_simp
          try with_reducible rfl
        simp only [Act.put, List.getElem_toArray, List.getElem_cons_zero, List.getElem_cons_succ, List.setIfInBounds_toArray, List.set_cons_zero, List.set_cons_succ]
        refine wpAny_take (i := 3) (v := ?_) rfl (by kernel_rfl) (by kernel_rfl) (by kernel_rfl) (fun _ _ _ h => h) (Or.inl ⟨by kernel_rfl, ?_⟩) ?_
        rotate_left
        · intro w
          go_simp
          try with_reducible rfl
        simp only [Act.put, List.getElem_toArray, List.getElem_cons_zero, List.getElem_cons_succ, List.setIfInBounds_toArray, List.set_cons_zero, List.set_cons_succ]
        refine wpAny_take (i := 4) (v := ?_) rfl (by kernel_rfl) (by kernel_rfl) (by kernel_rfl) (fun _ _ _ h => h) (Or.inl ⟨by kernel_rfl, ?_⟩) ?_
        rotate_left
        · intro w
          go_simp
          try with_reducible rfl
        simp only [Act.put, List.getElem_toArray, List.getElem_cons_zero, List.getElem_cons_succ, List.setIfInBounds_toArray, List.set_cons_zero, List.set_cons_succ]
        refine wpAny_take (i := 5) (v := ?_) rfl (by kernel_rfl) (by kernel_rfl) (by kernel_rfl) (fun _ _ _ h => h) (Or.inl ⟨by kernel_rfl, ?_⟩) ?_
        rotate_left
        · intro w
          go_simp
          try with_reducible rfl
        simp only [Act.put, List.getElem_toArray, List.getElem_cons_zero, List.getElem_cons_succ, List.setIfInBounds_toArray, List.set_cons_zero, List.set_cons_succ]
        refine wpAny_ready (rs := [6]) (by kernel_rfl) (by simp) (AllReady.cons rfl (fun K hK => ?_) AllReady.nil)
        go_simp
        refine hK _ _ ?_
        clear hK K
        try simp only [Act.put, List.setIfInBounds_toArray, List.set_cons_zero, List.set_cons_succ]
        refine wpAny_ready (rs := [7]) (by kernel_rfl) (by simp) (AllReady.cons rfl (fun K hK => ?_) AllReady.nil)
        go_simp
        refine (CM.out _ ((Below.refl _ _).drew)).mono ?_
        rintro er w2 ⟨rfl, hb2⟩
        go_simp
        refine hK _ _ ?_
        clear hK K
        try simp only [Act.put, List.setIfInBounds_toArray, List.set_cons_zero, List.set_cons_succ]
        refine wpAny_take (i := 8) (v := ?_) rfl (by kernel_rfl) (by kernel_rfl) (by kernel_rfl) (fun _ _ _ h => h) (Or.inl ⟨by kernel_rfl, ?_⟩) ?_
        rotate_left
        · intro w
          go_simp
          try with_reducible rfl
        simp only [Act.put, List.getElem_toArray, List.getElem_cons_zero, List.getElem_cons_succ, List.setIfInBounds_toArray, List.set_cons_zero, List.set_cons_succ]
        refine wpAny_take (i := 9) (v := ?_) rfl (by kernel_rfl) (by kernel_rfl) (by kernel_rfl) (fun _ _ _ h => h) (Or.inl ⟨by kernel_rfl, ?_⟩) ?_
        rotate_left
        · intro w
          go_simp
          try with_reducible rfl
        simp only [Act.put, List.getElem_toArray, List.getElem_cons_zero, List.getElem_cons_succ, List.setIfInBounds_toArray, List.set_cons_zero, List.set_cons_succ]
        refine wpAny_take (i := 10) (v := ?_) rfl (by kernel_rfl) (by kernel_rfl) (by kernel_rfl) (fun _ _ _ h => h) (Or.inl ⟨by kernel_rfl, ?_⟩) ?_
        rotate_left
        · intro w
          go_simp
          try with_reducible rfl
        simp only [Act.put, List.getElem_toArray, List.getElem_cons_zero, List.getElem_cons_succ, List.setIfInBounds_toArray, List.set_cons_zero, List.set_cons_succ]
        refine wpAny_take (i := 11) (v := undef) rfl (by kernel_rfl) (by kernel_rfl) (by kernel_rfl) (fun _ _ _ h => h) (Or.inr ⟨by kernel_rfl, rfl⟩) ?_
        simp only [Act.put, List.getElem_toArray, List.getElem_cons_zero, List.getElem_cons_succ, List.setIfInBounds_toArray, List.set_cons_zero, List.set_cons_succ]
        refine wpAny_take (i := 12) (v := undef) rfl (by kernel_rfl) (by kernel_rfl) (by kernel_rfl) (fun _ _ _ h => h) (Or.inr ⟨by kernel_rfl, rfl⟩) ?_
        simp only [Act.put, List.getElem_toArray, List.getElem_cons_zero, List.getElem_cons_succ, List.setIfInBounds_toArray, List.set_cons_zero, List.set_cons_succ]
        refine wpAny_take (i := 13) (v := undef) rfl (by kernel_rfl) (by kernel_rfl) (by kernel_rfl) (fun _ _ _ h => h) (Or.inr ⟨by kernel_rfl, rfl⟩) ?_
        simp only [Act.put, List.getElem_toArray, List.getElem_cons_zero, List.getElem_cons_succ, List.setIfInBounds_toArray, List.set_cons_zero, List.set_cons_succ]
        refine wpAny_take (i := 14) (v := undef) rfl (by kernel_rfl) (by kernel_rfl) (by kernel_rfl) (fun _ _ _ h => h) (Or.inr ⟨by kernel_rfl, rfl⟩) ?_
        simp only [Act.put, List.getElem_toArray, List.getElem_cons_zero, List.getElem_cons_succ, List.setIfInBounds_toArray, List.set_cons_zero, List.set_cons_succ]
        refine wpAny_take (i := 15) (v := undef) rfl (by kernel_rfl) (by kernel_rfl) (by kernel_rfl) (fun _ _ _ h => h) (Or.inr ⟨by kernel_rfl, rfl⟩) ?_
        simp only [Act.put, List.getElem_toArray, List.getElem_cons_zero, List.getElem_cons_succ, List.setIfInBounds_toArray, List.set_cons_zero, List.set_cons_succ]
        refine wpAny_take (i := 16) (v := undef) rfl (by kernel_rfl) (by kernel_rfl) (by kernel_rfl) (fun _ _ _ h => h) (Or.inr ⟨by kernel_rfl, rfl⟩) ?_
        simp only [Act.put, List.getElem_toArray, List.getElem_cons_zero, List.getElem_cons_succ, List.setIfInBounds_toArray, List.set_cons_zero, List.set_cons_succ]
        refine wpAny_take (i := 17) (v := undef) rfl (by kernel_rfl) (by kernel_rfl) (by kernel_rfl) (fun _ _ _ h => h) (Or.inr ⟨by kernel_rfl, rfl⟩) ?_
        simp only [Act.put, List.getElem_toArray, List.getElem_cons_zero, List.getElem_cons_succ, List.setIfInBounds_toArray, List.set_cons_zero, List.set_cons_succ]
        refine wpAny_take (i := 18) (v := undef) rfl (by kernel_rfl) (by kernel_rfl) (by kernel_rfl) (fun _ _ _ h => h) (Or.inr ⟨by kernel_rfl, rfl⟩) ?_
        simp only [Act.put, List.getElem_toArray, List.getElem_cons_zero, List.getElem_cons_succ, List.setIfInBounds_toArray, List.set_cons_zero, List.set_cons_succ]
        refine wpAny_take (i := 19) (v := undef) rfl (by kernel_rfl) (by kernel_rfl) (by kernel_rfl) (fun _ _ _ h => h) (Or.inr ⟨by kernel_rfl, rfl⟩) ?_
        simp only [Act.put, List.getElem_toArray, List.getElem_cons_zero, List.getElem_cons_succ, List.setIfInBounds_toArray, List.set_cons_zero, List.set_cons_succ]
        refine wpAny_take (i := 20) (v := ?_) rfl (by kernel_rfl) (by kernel_rfl) (by kernel_rfl) (fun _ _ _ h => h) (Or.inl ⟨by kernel_rfl, ?_⟩) ?_
        rotate_left
        · intro w
          go_simp
          try with_reducible rfl
        simp only [Act.put, List.getElem_toArray, List.getElem_cons_zero, List.getElem_cons_succ, List.setIfInBounds_toArray, List.set_cons_zero, List.set_cons_succ]
        refine wpAny_done (by kernel_rfl) ?_ _
        go_wp2_with fail
        go_ret2
        exact ⟨by rw [HF.out.1, HF.out.2]; rfl, (HB.out.drew).trans (hb2.mono HB.out.size)⟩
      | true =>
        obtain ⟨nb, hnb⟩ : ∃ nb, namedB (cs.take k) n = nb := ⟨_, rfl⟩
        have CN := fun (w' : World) (hb : Below wr.heap.size wr w') => named_any _ _ n w' (CardsAt.take (CardsAt.below HVr.out hb) k hk)
        rw [hnb] at CN
        have CN := Lib.hid CN
        have HNB := Lib.hid hnb
        clear hnb
        go_wp2_with fail
        refine wp_region_any (by kernel_rfl) ?_
        refine wpAny_take (i := 0) (v := ?_) rfl (by kernel_rfl) (by kernel_rfl) (by kernel_rfl) (fun _ _ _ h => h) (Or.inl ⟨by kernel_rfl, ?_⟩) ?_
        rotate_left
        · intro w
          go_simp
          try with_reducible rfl
        simp only [Act.put, List.getElem_toArray, List.getElem_cons_zero, List.getElem_cons_succ, List.setIfInBounds_toArray, List.set_cons_zero, List.set_cons_succ]
        refine wpAny_take (i := 1) (v := ?_) rfl (by kernel_rfl) (by kernel_rfl) (by kernel_rfl) (fun _ _ _ h => h) (Or.inl ⟨by kernel_rfl, ?_⟩) ?_
        rotate_left
        · intro w
          go_simp
          try with_reducible rfl
        simp only [Act.put, List.getElem_toArray, List.getElem_cons_zero, List.getElem_cons_succ, List.setIfInBounds_toArray, List.set_cons_zero, List.set_cons_succ]
        refine wpAny_take (i := 2) (v := ?_) rfl (by kernel_rfl) (by kernel_rfl) (by kernel_rfl) (fun _ _ _ h => h) (Or.inl ⟨by kernel_rfl, ?_⟩) ?_
        rotate_left
        · intro w
          go_simp
          try with_reducible rfl
        simp only [Act.put, List.getElem_toArray, List.getElem_cons_zero, List.getElem_cons_succ, List.setIfInBounds_toArray, List.set_cons_zero, List.set_cons_succ]
        refine wpAny_take (i := 3) (v := ?_) rfl (by kernel_rfl) (by kernel_rfl) (by kernel_rfl) (fun _ _ _ h => h) (Or.inl ⟨by kernel_rfl, ?_⟩) ?_
        rotate_left
        · intro w
          go_simp
          try with_reducible rfl
        simp only [Act.put, List.getElem_toArray, List.getElem_cons_zero, List.getElem_cons_succ, List.setIfInBounds_toArray, List.set_cons_zero, List.set_cons_succ]
        refine wpAny_take (i := 4) (v := ?_) rfl (by kernel_rfl) (by kernel_rfl) (by kernel_rfl) (fun _ _ _ h => h) (Or.inl ⟨by kernel_rfl, ?_⟩) ?_
        rotate_left
        · intro w
          go_simp
          try with_reducible rfl
        simp only [Act.put, List.getElem_toArray, List.getElem_cons_zero, List.getElem_cons_succ, List.setIfInBounds_toArray, List.set_cons_zero, List.set_cons_succ]
        refine wpAny_take (i := 5) (v := ?_) rfl (by kernel_rfl) (by kernel_rfl) (by kernel_rfl) (fun _ _ _ h => h) (Or.inl ⟨by kernel_rfl, ?_⟩) ?_
        rotate_left
        · intro w
          go_simp
          try with_reducible rfl
        simp only [Act.put, List.getElem_toArray, List.getElem_cons_zero, List.getElem_cons_succ, List.setIfInBounds_toArray, List.set_cons_zero, List.set_cons_succ]
        refine wpAny_ready (rs := [6]) (by kernel_rfl) (by simp) (AllReady.cons rfl (fun K hK => ?_) AllReady.nil)
        go_simp
        refine hK _ _ ?_
        clear hK K
        try simp only [Act.put, List.setIfInBounds_toArray, List.set_cons_zero, List.set_cons_succ]
        refine wpAny_ready (rs := [7]) (by kernel_rfl) (by simp) (AllReady.cons rfl (fun K hK => ?_) AllReady.nil)
        go_simp
        refine (CM.out _ ((Below.refl _ _).drew)).mono ?_
        rintro er w2 ⟨rfl, hb2⟩
        have HB2 : Hid (Below wr.heap.size wr w2) := Lib.hid (((Below.refl _ _).drew).trans hb2)
        have k0 := (hb2.cell (p := ⟨b, off + k * 7, none⟩) hbl).trans g0
        go_simp
        refine hK _ _ ?_
        clear hK K
        try simp only [Act.put, List.setIfInBounds_toArray, List.set_cons_zero, List.set_cons_succ]
        refine wpAny_take (i := 8) (v := ?_) rfl (by kernel_rfl) (by kernel_rfl) (by kernel_rfl) (fun _ _ _ h => h) (Or.inl ⟨by kernel_rfl, ?_⟩) ?_
        rotate_left
        · intro w
          go_simp
          try with_reducible rfl
        simp only [Act.put, List.getElem_toArray, List.getElem_cons_zero, List.getElem_cons_succ, List.setIfInBounds_toArray, List.set_cons_zero, List.set_cons_succ]
        refine wpAny_take (i := 9) (v := ?_) rfl (by kernel_rfl) (by kernel_rfl) (by kernel_rfl) (fun _ _ _ h => h) (Or.inl ⟨by kernel_rfl, ?_⟩) ?_
        rotate_left
        · intro w
          go_simp
          try with_reducible rfl
        simp only [Act.put, List.getElem_toArray, List.getElem_cons_zero, List.getElem_cons_succ, List.setIfInBounds_toArray, List.set_cons_zero, List.set_cons_succ]
        refine wpAny_take (i := 10) (v := ?_) rfl (by kernel_rfl) (by kernel_rfl) (by kernel_rfl) (fun _ _ _ h => h) (Or.inl ⟨by kernel_rfl, ?_⟩) ?_
        rotate_left
        · intro w
          go_simp
          try with_reducible rfl
        simp only [Act.put, List.getElem_toArray, List.getElem_cons_zero, List.getElem_cons_succ, List.setIfInBounds_toArray, List.set_cons_zero, List.set_cons_succ]
        refine wpAny_take (i := 11) (v := ?_) rfl (by kernel_rfl) (by kernel_rfl) (by kernel_rfl) (fun _ _ _ h => h) (Or.inl ⟨by kernel_rfl, ?_⟩) ?_
        rotate_left
        · intro w
          go_simp
          try with_reducible rfl
        simp only [Act.put, List.getElem_toArray, List.getElem_cons_zero, List.getElem_cons_succ, List.setIfInBounds_toArray, List.set_cons_zero, List.set_cons_succ]
        refine wpAny_take (i := 12) (v := ?_) rfl (by kernel_rfl) (by kernel_rfl) (by kernel_rfl) (fun _ _ _ h => h) (Or.inl ⟨by kernel_rfl, ?_⟩) ?_
        rotate_left
        · intro w
          go_simp
          try with_reducible rfl
        simp only [Act.put, List.getElem_toArray, List.getElem_cons_zero, List.getElem_cons_succ, List.setIfInBounds_toArray, List.set_cons_zero, List.set_cons_succ]
        refine wpAny_take (i := 13) (v := ?_) rfl (by kernel_rfl) (by kernel_rfl) (by kernel_rfl) (fun _ _ _ h => h) (Or.inl ⟨by kernel_rfl, ?_⟩) ?_
        rotate_left
        · intro w
          go_simp
          try with_reducible rfl
        simp only [Act.put, List.getElem_toArray, List.getElem_cons_zero, List.getElem_cons_succ, List.setIfInBounds_toArray, List.set_cons_zero, List.set_cons_succ]
        refine wpAny_take (i := 14) (v := ?_) rfl (by kernel_rfl) (by kernel_rfl) (by kernel_rfl) (fun _ _ _ h => h) (Or.inl ⟨by kernel_rfl, ?_⟩) ?_
        rotate_left
        · intro w
          go_simp
          try with_reducible rfl
        simp only [Act.put, List.getElem_toArray, List.getElem_cons_zero, List.getElem_cons_succ, List.setIfInBounds_toArray, List.set_cons_zero, List.set_cons_succ]
        refine wpAny_take (i := 15) (v := ?_) rfl (by kernel_rfl) (by kernel_rfl) (by kernel_rfl) (fun _ _ _ h => h) (Or.inl ⟨by kernel_rfl, ?_⟩) ?_
        rotate_left
        · intro w
          go_simp
          try with_reducible rfl
        simp only [Act.put, List.getElem_toArray, List.getElem_cons_zero, List.getElem_cons_succ, List.setIfInBounds_toArray, List.set_cons_zero, List.set_cons_succ]
        refine wpAny_take (i := 16) (v := ?_) rfl (by kernel_rfl) (by kernel_rfl) (by kernel_rfl) (fun _ _ _ h => h) (Or.inl ⟨by kernel_rfl, ?_⟩) ?_
        rotate_left
        · intro w
          go_simp
          try with_reducible rfl
        simp only [Act.put, List.getElem_toArray, List.getElem_cons_zero, List.getElem_cons_succ, List.setIfInBounds_toArray, List.set_cons_zero, List.set_cons_succ]
        refine wpAny_take (i := 17) (v := ?_) rfl (by kernel_rfl) (by kernel_rfl) (by kernel_rfl) (fun _ _ _ h => h) (Or.inl ⟨by kernel_rfl, ?_⟩) ?_
        rotate_left
        · intro w
          go_simp
          try with_reducible rfl
        simp only [Act.put, List.getElem_toArray, List.getElem_cons_zero, List.getElem_cons_succ, List.setIfInBounds_toArray, List.set_cons_zero, List.set_cons_succ]
        refine wpAny_ready (rs := [18]) (by kernel_rfl) (by simp) (AllReady.cons rfl (fun K hK => ?_) AllReady.nil)
        go_simp
        refine hK _ _ ?_
        clear hK K
        try simp only [Act.put, List.setIfInBounds_toArray, List.set_cons_zero, List.set_cons_succ]
        refine wpAny_ready (rs := [19]) (by kernel_rfl) (by simp) (AllReady.cons rfl (fun K hK => ?_) AllReady.nil)
        go_simp
        refine (CN.out _ HB2.out).mono ?_
        rintro er w3 ⟨rfl, rfl⟩
        go_simp
        refine hK _ _ ?_
        clear hK K
        try simp only [Act.put, List.setIfInBounds_toArray, List.set_cons_zero, List.set_cons_succ]
        refine wpAny_take (i := 20) (v := ?_) rfl (by kernel_rfl) (by kernel_rfl) (by kernel_rfl) (fun _ _ _ h => h) (Or.inl ⟨by kernel_rfl, ?_⟩) ?_
        rotate_left
        · intro w
          go_simp
          try with_reducible rfl
        simp only [Act.put, List.getElem_toArray, List.getElem_cons_zero, List.getElem_cons_succ, List.setIfInBounds_toArray, List.set_cons_zero, List.set_cons_succ]
        refine wpAny_done (by kernel_rfl) ?_ _
        cases nb with
        | true =>
          obtain ⟨f1, f2⟩ := firstBad_some hlt HG.out (goodC_named (by rw [HC.out]; exact HNB.out))
          have HF := Lib.hid (And.intro f1 f2)
          clear f1 f2
          go_wp2_with fail
          go_ret2
          exact ⟨by rw [HF.out.1, HF.out.2]; rfl, HB.out.trans (HB2.out.mono HB.out.size)⟩
        | false =>
          have HG1 : Hid (∀ j, j < k + 1 → goodC cs j = true) := Lib.hid (fun j hj => by
            by_cases e : j = k
            · subst e; exact goodC_yes (by omega) (by rw [HC.out]; exact HMY.out) (by rw [HC.out]; exact HNB.out)
            · exact HG.out j (by omega))
          go_wp2_with fail
          go_roundg (cs.length - (k + 1))
          case measure => rw [HR.out]; omega
          case rel => exact ⟨k + 1, by omega, rfl, by first | rfl | simp, Lib.hid ⟨HB.out.trans (HB2.out.mono HB.out.size), HG1.out⟩⟩
    · obtain rfl : k = cs.length := by omega
      obtain ⟨f1, f2⟩ := firstBad_none HG.out
      have HF := Lib.hid (And.intro f1 f2)
      clear f1 f2
      go_wp2_with fail
      go_ret2
      exact ⟨by rw [HF.out.1, HF.out.2]; rfl, HB.out⟩
end Go.Proofs.Ytpafbnmncioppaa
