/- Fates; is one a bad one; the first of a step. (Printed by tools/genfate.py.) -/
import Derived.Test.YtnajbogmhhlpcaaCloseB
import Derived.WalkLawsBesides
namespace Go.Proofs.Ytnajbogmhhlpcaa
open Go.RowKit Go.ChangeShapes
structure Ft where
  step : Int
  how : Int
  back : Int
def Ft.cells (f : Ft) : List Value := [.int .i64 f.step, .int .u8 f.how, .int .u8 f.back]
instance : Inhabited Ft := ⟨⟨0, 0, 0⟩⟩
/-- A slice value that reads as these fates. -/
def FatesAt (w : World) (v : Value) (fs : List Ft) : Prop :=
  ∃ a cap, v = .slice a fs.length cap ∧ fs.length ≤ cap ∧ ∀ i (hi : i < fs.length), ∃ b off, a = some ⟨b, off, none⟩ ∧ ∀ j u, (fs[i].cells)[j]? = some u → w.cell? ⟨b, off + i * 3 + j, none⟩ = some u
theorem FatesAt.below {w w' : World} {v : Value} {fs : List Ft} (h : FatesAt w v fs) (hb : Below w.heap.size w w') : FatesAt w' v fs := by
  obtain ⟨a, cap, he, g1, g3⟩ := h
  refine ⟨a, cap, he, g1, fun i hi => ?_⟩
  obtain ⟨b, off, h1, h2⟩ := g3 i hi
  exact ⟨b, off, h1, fun j u hu => (hb.cell (p := ⟨b, off + i * 3 + j, none⟩) (World.block_lt_of_cell? w _ (h2 j u hu))).trans (h2 j u hu)⟩
theorem FatesAt.rel {w w' : World} {B : Nat} {v : Value} {fs : List Ft} (h : FatesAt w v fs) (hk : ∀ a u, w.cell? a = some u → a.block < B → w'.cell? a = some u) (hB : ∀ a cap, v = .slice (some a) fs.length cap → a.block < B) : FatesAt w' v fs := by
  obtain ⟨a, cap, he, g1, g3⟩ := h
  refine ⟨a, cap, he, g1, fun i hi => ?_⟩
  obtain ⟨b, off, h1, h2⟩ := g3 i hi
  refine ⟨b, off, h1, fun j u hu => hk _ _ (h2 j u hu) ?_⟩
  have := hB ⟨b, off, none⟩ cap (by rw [he, h1])
  exact this
def Ft.ok (f : Ft) : Prop := 0 ≤ f.how ∧ f.how ≤ 255 ∧ 0 ≤ f.back ∧ f.back ≤ 255
/-- A bad one. -/
def badT (f : Ft) : Bool := decide (2 < f.how) || decide (2 < f.back)
def isT (s : Int) (f : Ft) : Bool := decide (f.step = s)
/-- The first fate of a step. -/
def ofT (fs : List Ft) (s : Int) : Ft := (fs.find? (isT s)).getD ⟨0, 0, 0⟩
def posF (fs : List Ft) (P : Ft → Bool) : Option Nat := fs.findIdx? P
theorem posF_none {fs : List Ft} {P : Ft → Bool} (h : ∀ j (hj : j < fs.length), P fs[j] = false) : posF fs P = none := by
  unfold posF
  rw [List.findIdx?_eq_none_iff]
  intro x hx
  obtain ⟨j, hj, rfl⟩ := List.getElem_of_mem hx
  exact h j hj
theorem posF_some {fs : List Ft} {P : Ft → Bool} {k : Nat} (hk : k < fs.length) (h1 : P fs[k] = true) (h : ∀ j (hj : j < k), P (fs[j]'(by omega)) = false) : posF fs P = some k := by
  unfold posF
  rw [List.findIdx?_eq_some_iff_getElem]
  exact ⟨hk, h1, fun j hj => by rw [h j hj]; simp⟩
theorem posF_of {fs : List Ft} {s : Int} : (posF fs (isT s) = none → ofT fs s = ⟨0, 0, 0⟩) ∧ ∀ k, posF fs (isT s) = some k → ∃ h : k < fs.length, ofT fs s = fs[k] := by
  refine ⟨fun h => ?_, fun k h => ?_⟩
  · unfold posF at h
    rw [List.findIdx?_eq_none_iff] at h
    unfold ofT
    rw [List.find?_eq_none.2 (fun x hx => by rw [h x hx]; simp)]
    rfl
  · unfold posF at h
    rw [List.findIdx?_eq_some_iff_getElem] at h
    obtain ⟨hk, h1, h2⟩ := h
    refine ⟨hk, ?_⟩
    unfold ofT
    rw [List.find?_eq_some_iff_getElem.2 ⟨h1, k, hk, rfl, fun j hj => by
      have := h2 j hj
      simpa using this⟩]
    rfl
theorem posF_bad {fs : List Ft} : (posF fs badT = none → fs.any badT = false) ∧ ∀ k, posF fs badT = some k → fs.any badT = true := by
  refine ⟨fun h => ?_, fun k h => ?_⟩
  · unfold posF at h
    rw [List.findIdx?_eq_none_iff] at h
    rw [List.any_eq_false]
    intro x hx
    rw [h x hx]
    simp
  · unfold posF at h
    rw [List.findIdx?_eq_some_iff_getElem] at h
    obtain ⟨hk, h1, _⟩ := h
    rw [List.any_eq_true]
    exact ⟨_, List.getElem_mem hk, h1⟩
set_option maxHeartbeats 2000000 in
theorem c1_any (f : Ft) (w : World) : Calls Try.prog 44 #[.agg #[.int .i64 f.step, .int .u8 f.how, .int .u8 f.back]] w (GB (badT f) w) := by
  have BB : Hid (Below w.heap.size w (w.alloc (.cells #[.int .i64 f.step, .int .u8 f.how, .int .u8 f.back] 67))) := Lib.hid ((Below.refl _ w).alloc (Nat.le_refl _) _)
  by_cases h1 : f.how > 2
  · have e : badT f = true := by unfold badT; rw [decide_eq_true h1]; rfl
    rw [e]
    go_enter Try.func44, Try.ntmps44
    go_wp2_with fail
    go_ret
    exact ⟨rfl, BB.out⟩
  · by_cases h2 : f.back > 2
    · have e : badT f = true := by unfold badT; rw [decide_eq_true h2, Bool.or_true]
      rw [e]
      go_enter Try.func44, Try.ntmps44
      go_wp2_with fail
      go_ret
      exact ⟨rfl, BB.out⟩
    · have e : badT f = false := by unfold badT; rw [decide_eq_false h1, decide_eq_false h2]; rfl
      rw [e]
      go_enter Try.func44, Try.ntmps44
      go_wp2_with fail
      go_ret
      exact ⟨rfl, BB.out⟩
set_option maxHeartbeats 2000000 in
theorem c21_any (p : Nat) (s : Int) (f : Ft) (w : World) (hp : w.cell? ⟨p, 0, none⟩ = some (.int .i64 s)) : Calls Try.prog 47 #[.agg #[.int .i64 f.step, .int .u8 f.how, .int .u8 f.back], .pointer (some ⟨p, 0, none⟩)] w (GB (isT s f) w) := by
  have ba : Below w.heap.size w (w.alloc (.cells #[.int .i64 f.step, .int .u8 f.how, .int .u8 f.back] 67)) := (Below.refl _ w).alloc (Nat.le_refl _) _
  have q0 := (ba.cell (p := ⟨p, 0, none⟩) (World.block_lt_of_cell? w _ hp)).trans hp
  have BB := Lib.hid ba
  clear ba hp
  unfold isT
  go_enter Try.func47, Try.ntmps47
  go_wp2_with fail
  go_ret
  exact ⟨rfl, BB.out⟩

set_option maxHeartbeats 8000000 in
set_option maxRecDepth 100000 in
theorem idxbad_any (fs : List Ft) (v : Value) (w : World) (hv : FatesAt w v fs) (hl : fs.length ≤ 140737488355328) :
    Calls Try.prog 46 #[v, .func (.func 44) #[] #[]] w fun e w' => e = .returned (.int .i64 (placeI (posF fs (badT)))) ∧ Below w.heap.size w w' := by
  have HV := Lib.hid hv
  obtain ⟨a, cap, rfl, hcap, _⟩ := hv
  obtain ⟨n, hn⟩ : ∃ n, fs.length = n := ⟨_, rfl⟩
  have HN := Lib.hid hn
  rw [hn] at hl hcap ⊢
  clear hn
  go_enter Try.func46, Try.ntmps46
  go_wp2_with fail
  go_loopg [8] n (fun r v wr => ∃ k : Nat, k ≤ n ∧ r = n - k ∧ v = .int .i64 k ∧ Hid (Below w.heap.size w wr ∧ ∀ j (hj : j < fs.length), j < k → (badT) fs[j] = false))
  case atStart => exact ⟨0, by omega, by omega, rfl, Lib.hid ⟨Below.refl _ _, fun j _ h => by omega⟩⟩
  case round =>
    obtain ⟨k, hk, hr, rfl, hq⟩ := hrel
    have HR := Lib.hid hr
    have BB := Lib.hid hq.out.1
    have NO := Lib.hid hq.out.2
    clear hr hq
    by_cases hlt : k < n
    · have hkL : k < fs.length := by rw [HN.out]; exact hlt
      obtain ⟨a', cap', ev, _, hst⟩ := HV.out.below BB.out
      cases ev
      obtain ⟨b, off, rfl, gx⟩ := hst k hkL
      obtain ⟨f, hf⟩ : ∃ f, fs[k]'hkL = f := ⟨_, rfl⟩
      simp only [hf] at gx
      have HF := Lib.hid hf
      have g0 : wr.cell? ⟨b, off + k * 3, none⟩ = some (.int .i64 f.step) := gx 0 _ rfl
      have g1 : wr.cell? ⟨b, off + k * 3 + 1, none⟩ = some (.int .u8 f.how) := gx 1 _ rfl
      have g2 : wr.cell? ⟨b, off + k * 3 + 2, none⟩ = some (.int .u8 f.back) := gx 2 _ rfl
      have CC := c1_any f wr
      have hkc1 : (0 : Int) ≤ (k : Int) := by omega
      have hkc2 : (k : Int) < (n : Int) := by omega
      obtain ⟨mm, hmm⟩ : ∃ m, (badT) f = m := ⟨_, rfl⟩
      have HM : Hid ((badT) (fs[k]'hkL) = mm) := Lib.hid (by rw [HF.out]; exact hmm)
      rw [hmm] at CC
      have CC := Lib.hid CC
      clear gx hst hf hmm
      go_wp2_with fail
      refine CC.out.mono ?_
      rintro er w2 ⟨rfl, hb⟩
      have B2 := Lib.hid (BB.out.trans (hb.mono BB.out.size))
      clear hb CC g0 g1 g2
      cases mm with
      | true =>
        have HRES : Hid (placeI (posF fs (badT)) = (k : Int)) := Lib.hid (by rw [posF_some hkL HM.out (fun j hj => NO.out j (by omega) hj)]; rfl)
        go_wp2_with fail
        go_ret
        rw [HRES.out]
        exact ⟨rfl, B2.out⟩
      | false =>
        have NO2 : Hid (∀ j (hj : j < fs.length), j < k + 1 → (badT) fs[j] = false) := Lib.hid (fun j hj hjk => by
          by_cases h : j < k
          · exact NO.out j hj h
          · obtain rfl : j = k := by omega
            exact HM.out)
        go_wp2_with fail
        go_roundg (n - (k + 1))
        case measure => rw [HR.out]; omega
        case rel => exact ⟨k + 1, by omega, rfl, by first | rfl | simp, Lib.hid ⟨B2.out, NO2.out⟩⟩
    · obtain rfl : k = n := by omega
      have HRES : Hid (placeI (posF fs (badT)) = -1) := Lib.hid (by rw [posF_none (fun j hj => NO.out j hj (by rw [← HN.out]; exact hj))]; rfl)
      go_wp2_with fail
      go_ret
      rw [HRES.out]
      exact ⟨rfl, BB.out⟩
set_option maxHeartbeats 8000000 in
set_option maxRecDepth 100000 in
theorem idxof_any (fs : List Ft) (v : Value) (p : Nat) (s : Int) (w : World) (hv : FatesAt w v fs) (hl : fs.length ≤ 140737488355328) (hp : w.cell? ⟨p, 0, none⟩ = some (.int .i64 s)) :
    Calls Try.prog 46 #[v, .func (.func 47) #[] #[.pointer (some ⟨p, 0, none⟩)]] w fun e w' => e = .returned (.int .i64 (placeI (posF fs (isT s)))) ∧ Below w.heap.size w w' := by
  have HV := Lib.hid hv
  have HP := Lib.hid hp
  clear hp
  obtain ⟨a, cap, rfl, hcap, _⟩ := hv
  obtain ⟨n, hn⟩ : ∃ n, fs.length = n := ⟨_, rfl⟩
  have HN := Lib.hid hn
  rw [hn] at hl hcap ⊢
  clear hn
  go_enter Try.func46, Try.ntmps46
  go_wp2_with fail
  go_loopg [8] n (fun r v wr => ∃ k : Nat, k ≤ n ∧ r = n - k ∧ v = .int .i64 k ∧ Hid (Below w.heap.size w wr ∧ ∀ j (hj : j < fs.length), j < k → (isT s) fs[j] = false))
  case atStart => exact ⟨0, by omega, by omega, rfl, Lib.hid ⟨Below.refl _ _, fun j _ h => by omega⟩⟩
  case round =>
    obtain ⟨k, hk, hr, rfl, hq⟩ := hrel
    have HR := Lib.hid hr
    have BB := Lib.hid hq.out.1
    have NO := Lib.hid hq.out.2
    clear hr hq
    by_cases hlt : k < n
    · have hkL : k < fs.length := by rw [HN.out]; exact hlt
      obtain ⟨a', cap', ev, _, hst⟩ := HV.out.below BB.out
      cases ev
      obtain ⟨b, off, rfl, gx⟩ := hst k hkL
      obtain ⟨f, hf⟩ : ∃ f, fs[k]'hkL = f := ⟨_, rfl⟩
      simp only [hf] at gx
      have HF := Lib.hid hf
      have g0 : wr.cell? ⟨b, off + k * 3, none⟩ = some (.int .i64 f.step) := gx 0 _ rfl
      have g1 : wr.cell? ⟨b, off + k * 3 + 1, none⟩ = some (.int .u8 f.how) := gx 1 _ rfl
      have g2 : wr.cell? ⟨b, off + k * 3 + 2, none⟩ = some (.int .u8 f.back) := gx 2 _ rfl
      have CC := c21_any p s f wr ((BB.out.cell (p := ⟨p, 0, none⟩) (World.block_lt_of_cell? w _ HP.out)).trans HP.out)
      have hkc1 : (0 : Int) ≤ (k : Int) := by omega
      have hkc2 : (k : Int) < (n : Int) := by omega
      obtain ⟨mm, hmm⟩ : ∃ m, (isT s) f = m := ⟨_, rfl⟩
      have HM : Hid ((isT s) (fs[k]'hkL) = mm) := Lib.hid (by rw [HF.out]; exact hmm)
      rw [hmm] at CC
      have CC := Lib.hid CC
      clear gx hst hf hmm
      go_wp2_with fail
      refine CC.out.mono ?_
      rintro er w2 ⟨rfl, hb⟩
      have B2 := Lib.hid (BB.out.trans (hb.mono BB.out.size))
      clear hb CC g0 g1 g2
      cases mm with
      | true =>
        have HRES : Hid (placeI (posF fs (isT s)) = (k : Int)) := Lib.hid (by rw [posF_some hkL HM.out (fun j hj => NO.out j (by omega) hj)]; rfl)
        go_wp2_with fail
        go_ret
        rw [HRES.out]
        exact ⟨rfl, B2.out⟩
      | false =>
        have NO2 : Hid (∀ j (hj : j < fs.length), j < k + 1 → (isT s) fs[j] = false) := Lib.hid (fun j hj hjk => by
          by_cases h : j < k
          · exact NO.out j hj h
          · obtain rfl : j = k := by omega
            exact HM.out)
        go_wp2_with fail
        go_roundg (n - (k + 1))
        case measure => rw [HR.out]; omega
        case rel => exact ⟨k + 1, by omega, rfl, by first | rfl | simp, Lib.hid ⟨B2.out, NO2.out⟩⟩
    · obtain rfl : k = n := by omega
      have HRES : Hid (placeI (posF fs (isT s)) = -1) := Lib.hid (by rw [posF_none (fun j hj => NO.out j hj (by rw [← HN.out]; exact hj))]; rfl)
      go_wp2_with fail
      go_ret
      rw [HRES.out]
      exact ⟨rfl, BB.out⟩
set_option maxHeartbeats 2000000 in
theorem con_any (fs : List Ft) (v : Value) (w : World) (hv : FatesAt w v fs) (hl : fs.length ≤ 140737488355328) : Calls Try.prog 43 #[v, .func (.func 44) #[] #[]] w (GB (fs.any badT) w) := by
  have CC := idxbad_any fs v w hv hl
  obtain ⟨a, cap, rfl, hcap, _⟩ := hv
  cases hp : posF fs badT with
  | none =>
    rw [posF_bad.1 hp]
    rw [hp] at CC
    have CC := Lib.hid CC
    clear hp
    go_enter Try.func43, Try.ntmps43
    go_wp2_with fail
    refine CC.out.mono ?_
    rintro er w2 ⟨rfl, hb⟩
    have HB := Lib.hid hb
    clear hb
    simp only [placeI]
    go_wp2_with fail
    go_ret
    exact ⟨rfl, HB.out⟩
  | some k =>
    rw [posF_bad.2 k hp]
    rw [hp] at CC
    have CC := Lib.hid CC
    clear hp
    have hk0 : (k : Int) ≥ 0 := by omega
    go_enter Try.func43, Try.ntmps43
    go_wp2_with fail
    refine CC.out.mono ?_
    rintro er w2 ⟨rfl, hb⟩
    have HB := Lib.hid hb
    clear hb
    simp only [placeI]
    go_wp2_with fail
    go_ret
    exact ⟨rfl, HB.out⟩
/-- How a step ends. -/
def endB (how : Int) : Beh := if how = 1 then .ret 1 else if how = 2 then .str ⟨#[112, 114, 111, 98, 101]⟩ else .ret 0
set_option maxHeartbeats 2000000 in
theorem end_any (how : Int) (w : World) : Calls Try.prog 50 #[.int .u8 how] w fun e w' => e = (endB how).ending ∧ w' = w := by
  by_cases h1 : how = 1
  · subst h1
    go_enter Try.func50, Try.ntmps50
    go_wp2_with fail
    go_ret
    exact ⟨rfl, rfl⟩
  · by_cases h2 : how = 2
    · subst h2
      go_enter Try.func50, Try.ntmps50
      go_wp2_with fail
      exact ⟨rfl, rfl, rfl⟩
    · have e : endB how = .ret 0 := by unfold endB; rw [if_neg h1, if_neg h2]
      rw [e]
      have d1 : decide (how = 1) = false := decide_eq_false h1
      have d2 : decide (how = 2) = false := decide_eq_false h2
      go_enter Try.func50, Try.ntmps50
      go_wp2_with fail
      go_ret
      exact ⟨rfl, rfl⟩

set_option maxHeartbeats 2000000 in
theorem c3_any (p : Nat) (x : Int) (w : World) (hp : w.cell? ⟨p, 1, none⟩ = some (.int .u8 x)) : Calls Try.prog 49 #[.pointer (some ⟨p, 0, none⟩)] w fun e w' => e = (endB x).ending ∧ w' = w := by
  have CE := Lib.hid (end_any x w)
  cases hb : endB x with
  | ret c =>
    rw [hb] at CE
    go_enter Try.func49, Try.ntmps49
    go_wp2_with fail
    refine CE.out.mono ?_
    rintro e w1 ⟨rfl, rfl⟩
    simp only [Beh.ending]
    go_wp2_with fail
    go_ret
    exact ⟨rfl, rfl⟩
  | str s =>
    rw [hb] at CE
    go_enter Try.func49, Try.ntmps49
    go_wp2_with fail
    refine CE.out.mono ?_
    rintro e w1 ⟨rfl, rfl⟩
    simp only [Beh.ending]
    go_wp2_with fail
    exact ⟨rfl, rfl, rfl⟩
  | num n =>
    rw [hb] at CE
    go_enter Try.func49, Try.ntmps49
    go_wp2_with fail
    refine CE.out.mono ?_
    rintro e w1 ⟨rfl, rfl⟩
    simp only [Beh.ending]
    go_wp2_with fail
    exact ⟨rfl, rfl, rfl⟩
set_option maxHeartbeats 2000000 in
theorem c4_any (p : Nat) (x : Int) (w : World) (hp : w.cell? ⟨p, 2, none⟩ = some (.int .u8 x)) : Calls Try.prog 51 #[.pointer (some ⟨p, 0, none⟩)] w fun e w' => e = (endB x).ending ∧ w' = w := by
  have CE := Lib.hid (end_any x w)
  cases hb : endB x with
  | ret c =>
    rw [hb] at CE
    go_enter Try.func51, Try.ntmps51
    go_wp2_with fail
    refine CE.out.mono ?_
    rintro e w1 ⟨rfl, rfl⟩
    simp only [Beh.ending]
    go_wp2_with fail
    go_ret
    exact ⟨rfl, rfl⟩
  | str s =>
    rw [hb] at CE
    go_enter Try.func51, Try.ntmps51
    go_wp2_with fail
    refine CE.out.mono ?_
    rintro e w1 ⟨rfl, rfl⟩
    simp only [Beh.ending]
    go_wp2_with fail
    exact ⟨rfl, rfl, rfl⟩
  | num n =>
    rw [hb] at CE
    go_enter Try.func51, Try.ntmps51
    go_wp2_with fail
    refine CE.out.mono ?_
    rintro e w1 ⟨rfl, rfl⟩
    simp only [Beh.ending]
    go_wp2_with fail
    exact ⟨rfl, rfl, rfl⟩
set_option maxHeartbeats 4000000 in
set_option maxRecDepth 100000 in
/-- The first fate of a step: the closure that looks. -/
theorem of_any (q : Nat) (s : Int) (fs : List Ft) (v : Value) (w : World) (hq : w.cell? ⟨q, 0, none⟩ = some v) (hv : FatesAt w v fs) (hl : fs.length ≤ 140737488355328) :
    Calls Try.prog 45 #[.int .i64 s, .pointer (some ⟨q, 0, none⟩)] w fun e w' => e = .returned (.agg (ofT fs s).cells.toArray) ∧ Below w.heap.size w w' := by
  have hmf : ∀ (fn : Fn) (first cap : Array Value) (w : World), (Instr.makeFunc fn first cap).run Try.prog w = .ok (.func fn first cap) w := fun _ _ _ _ => rfl
  obtain ⟨a, cap, rfl, hcap, hst⟩ := hv
  have hv : FatesAt w (.slice a fs.length cap) fs := ⟨a, cap, rfl, hcap, hst⟩
  have b1 : Below w.heap.size w ((w.alloc (.cells #[.int .i64 s] 3)).alloc (.cells #[.int .i64 0, .int .u8 0, .int .u8 0] 67)) := ((Below.refl _ w).alloc (Nat.le_refl _) _).alloc (by simp) _
  have z1 : ((w.alloc (.cells #[.int .i64 s] 3)).alloc (.cells #[.int .i64 0, .int .u8 0, .int .u8 0] 67)).heap.size = w.heap.size + 2 := by simp
  have e1 := heap_alloc2_new w (.cells #[.int .i64 s] 3) (.cells #[.int .i64 0, .int .u8 0, .int .u8 0] 67)
  have e0 : ((w.alloc (.cells #[.int .i64 s] 3)).alloc (.cells #[.int .i64 0, .int .u8 0, .int .u8 0] 67)).heap[w.heap.size]? = some (.cells #[.int .i64 s] 3 (0, 0)) := by
    rw [heap_alloc_old' _ _ (by simp)]
    exact heap_alloc_new w _
  have q1 := (b1.cell (p := ⟨q, 0, none⟩) (World.block_lt_of_cell? w _ hq)).trans hq
  have CI := idxof_any fs (.slice a fs.length cap) w.heap.size s _ (hv.below b1) hl ((cell_of_row _ w.heap.size 0 _ _ _ e0).trans rfl)
  have B1 := Lib.hid b1
  have Z1 := Lib.hid z1
  have E1 := Lib.hid e1
  have HV := Lib.hid hv
  have HQ := Lib.hid hq
  obtain ⟨n, hn⟩ : ∃ n, fs.length = n := ⟨_, rfl⟩
  have HN := Lib.hid hn
  rw [hn] at CI q1 HV HQ hcap hl
  have TT : Hid (∀ w2 : World, w2.heap[w.heap.size + 1]? = some (.cells #[.int .i64 0, .int .u8 0, .int .u8 0] 67 (0, 0)) → w2.there (w.heap.size + 1) 0 3) := Lib.hid (fun w2 h j hj => ⟨by
    rw [cell_of_row _ _ _ _ _ _ h]
    exact Option.isSome_iff_exists.2 ⟨_, Array.getElem?_eq_getElem (by simp; omega)⟩, frozen_of_row _ _ _ _ _ h⟩)
  have FIN : Hid (∀ w2 W4 : World, ∀ f : Ft, Below w.heap.size w w2 → w2.heap[w.heap.size + 1]? = some (.cells #[.int .i64 0, .int .u8 0, .int .u8 0] 67 (0, 0)) → W4 = w2.setCells (w.heap.size + 1) 0 [.int .i64 f.step, .int .u8 f.how, .int .u8 f.back] → Below w.heap.size w W4 ∧ W4.cell? ⟨w.heap.size + 1, 0, none⟩ = some (.int .i64 f.step) ∧ W4.cell? ⟨w.heap.size + 1, 1, none⟩ = some (.int .u8 f.how) ∧ W4.cell? ⟨w.heap.size + 1, 2, none⟩ = some (.int .u8 f.back)) := Lib.hid (by
    rintro w2 W4 f hb hh rfl
    have hh4 := heap_setCells_same [.int .i64 f.step, .int .u8 f.how, .int .u8 f.back] _ 0 _ hh
    exact ⟨hb.trans (below_lay (by omega) _ _ _), (cell_of_row _ _ 0 _ _ _ hh4).trans rfl, (cell_of_row _ _ 1 _ _ _ hh4).trans rfl, (cell_of_row _ _ 2 _ _ _ hh4).trans rfl⟩)
  cases hp : posF fs (isT s) with
  | none =>
    have ef : ofT fs s = ⟨0, 0, 0⟩ := posF_of.1 hp
    rw [hp] at CI
    have CI := Lib.hid CI
    rw [ef]
    clear hp b1 z1 e1 e0 hst hv hq hn
    go_enter Try.func45, Try.ntmps45
    go_wp2_with fail
    refine CI.out.mono ?_
    rintro er w2 ⟨rfl, hb⟩
    have B2 := Lib.hid (B1.out.trans (hb.mono B1.out.size))
    have P2 := Lib.hid ((hb.block (w.heap.size + 1) (by rw [Z1.out]; omega)).trans E1.out)
    clear hb q1
    simp only [placeI]
    go_wp2_with (refine wpList_store_all (by rfl) 67 (.tmp 3) (.tmp 14) (by rfl) (w.heap.size + 1) 0 [.int .i64 0, .int .u8 0, .int .u8 0] (by kernel_rfl) (by kernel_rfl) (TT.out w2 P2.out) (by kernel_rfl) (by simp [Value.oneCell']) ?_)
    intro W4 HW4
    obtain ⟨hb4, v0, v1, v2⟩ := FIN.out w2 W4 ⟨0, 0, 0⟩ B2.out P2.out HW4.out
    have B4 := Lib.hid hb4
    clear HW4 hb4
    go_wp2_with fail
    refine bodyPost_ret (v := .agg #[.int .i64 0, .int .u8 0, .int .u8 0]) (by simp [results, Try.results45, go_sem, v0, v1, v2]) rfl ?_
    exact ⟨rfl, B4.out⟩
  | some k =>
    obtain ⟨hk, ef⟩ := posF_of.2 k hp
    obtain ⟨f, hf⟩ : ∃ f, fs[k]'hk = f := ⟨_, rfl⟩
    rw [hp] at CI
    have CI := Lib.hid CI
    rw [ef, hf]
    obtain ⟨b, off, rfl, gx⟩ := hst k hk
    rw [hf] at gx
    clear hf
    have g0 : w.cell? ⟨b, off + k * 3, none⟩ = some (.int .i64 f.step) := gx 0 _ rfl
    have g1 : w.cell? ⟨b, off + k * 3 + 1, none⟩ = some (.int .u8 f.how) := gx 1 _ rfl
    have g2 : w.cell? ⟨b, off + k * 3 + 2, none⟩ = some (.int .u8 f.back) := gx 2 _ rfl
    have G0 := Lib.hid g0
    have G1 := Lib.hid g1
    have G2 := Lib.hid g2
    have hkn : k < n := by omega
    clear hp b1 z1 e1 e0 hst hv hq hn ef gx g0 g1 g2
    go_enter Try.func45, Try.ntmps45
    go_wp2_with fail
    refine CI.out.mono ?_
    rintro er w2 ⟨rfl, hb⟩
    have B2 := Lib.hid (B1.out.trans (hb.mono B1.out.size))
    have P2 := Lib.hid ((hb.block (w.heap.size + 1) (by rw [Z1.out]; omega)).trans E1.out)
    have q2 := (B2.out.cell (p := ⟨q, 0, none⟩) (World.block_lt_of_cell? w _ HQ.out)).trans HQ.out
    have g0 := (B2.out.cell (p := ⟨b, off + k * 3, none⟩) (World.block_lt_of_cell? w _ G0.out)).trans G0.out
    have g1 := (B2.out.cell (p := ⟨b, off + k * 3 + 1, none⟩) (World.block_lt_of_cell? w _ G1.out)).trans G1.out
    have g2 := (B2.out.cell (p := ⟨b, off + k * 3 + 2, none⟩) (World.block_lt_of_cell? w _ G2.out)).trans G2.out
    clear hb q1
    simp only [placeI]
    have hk0 : (k : Int) ≥ 0 := by omega
    have hkc1 : (0 : Int) ≤ (k : Int) ∧ (k : Int) < (n : Int) := by omega
    go_wp2_with (refine wpList_store_all (by rfl) 67 (.tmp 3) (.tmp 13) (by rfl) (w.heap.size + 1) 0 [.int .i64 f.step, .int .u8 f.how, .int .u8 f.back] (by kernel_rfl) (by kernel_rfl) (TT.out w2 P2.out) (by kernel_rfl) (by simp [Value.oneCell']) ?_)
    intro W4 HW4
    obtain ⟨hb4, v0, v1, v2⟩ := FIN.out w2 W4 f B2.out P2.out HW4.out
    have B4 := Lib.hid hb4
    clear HW4 hb4 q2 g0 g1 g2
    go_wp2_with fail
    refine bodyPost_ret (v := .agg #[.int .i64 f.step, .int .u8 f.how, .int .u8 f.back]) (by simp [results, Try.results45, go_sem, v0, v1, v2]) rfl ?_
    exact ⟨rfl, B4.out⟩
end Go.Proofs.Ytnajbogmhhlpcaa
