/- The references' arrays, one built from the other: what each returns. -/
import Derived.Test.YtdhlmflbefnekaaDoorTables
import Derived.Test.YtdhlmflbefnekaaDoorPairLib
import Derived.Deep.LoopGhost
import Derived.Deep.AppendLies
import Derived.Deep.DeepCutAuto
import Derived.Deep.RegionHeld3
import Derived.Deep.RegionWith
import Derived.Handy
import Derived.IntWalk
namespace Go.Proofs.YtdhlmflbefnekaaDoor
open Go.RowKit Go.ChangeShapes
def cryF (k : Nat) : Int := if k = 0 then 32768 else if k = 31 then 100000000 else 1000000 + 1000000 * (k : Int)
def supF (k : Nat) : Int := if k = 0 then 800000 else if k = 23 then 25000000 else 300000 + 12500 * (k : Int) + cryF k
def madeF (k : Nat) : Int := 268435456 + 65536 * (k : Int) + cryF k + 4 * supF k
def busF (k : Nat) : Int := if k = 0 then madeF 0 + 4096 else if k = 19 then madeF 19 + 2 * cryF 19 else madeF k
def senF (k : Nat) : Int := if k = 0 then -200000 + supF 0 + 25000 else if k = 15 then -200000 + 10000 * 15 + supF 15 + 500000 else -200000 + 10000 * (k : Int) + supF k
def radF (k : Nat) : Int := if k = 0 then 160000000 + busF 0 + 2 * senF 0 - 2320 else if k = 19 then 160000000 + 25000 * 19 + busF 19 + 2 * senF 3 - 30640 else 160000000 + 25000 * (k : Int) + busF k + 2 * senF (k % 16)
def nums (n : Nat) (f : Nat → Int) : List Int := (List.range n).map f
theorem nums_len (n : Nat) (f : Nat → Int) : (nums n f).length = n := by simp [nums]
theorem nums_at (n : Nat) (f : Nat → Int) (k : Nat) (hk : k < n) : (nums n f)[k]? = some (f k) := by simp [nums, hk]
theorem cry_bd : ∀ k, k < 32 → 0 ≤ cryF k ∧ cryF k ≤ 100000000 := by decide +kernel
theorem sup_bd : ∀ k, k < 24 → 0 ≤ supF k ∧ supF k ≤ 100000000 := by decide +kernel
theorem made_bd : ∀ k, k < 20 → 0 ≤ madeF k ∧ madeF k ≤ 1000000000 := by decide +kernel
theorem bus_bd' : ∀ k, k < 20 → 0 ≤ busF k ∧ busF k ≤ 1000000000 := by decide +kernel
theorem sen_bd : ∀ k, k < 16 → 0 ≤ senF k ∧ senF k ≤ 1000000000 := by decide +kernel
theorem rad_bd : ∀ k, k < 20 → 0 ≤ radF k ∧ radF k ≤ 1000000000 := by decide +kernel
/-- The cells of numbers (int64). -/
def ncells (zs : List Int) : List Value := zs.map (Value.int .i64)
theorem ncells_len (zs : List Int) : (ncells zs).length = zs.length := by simp [ncells]
theorem ncells_take (n : Nat) (f : Nat → Int) (k : Nat) (hk : k < n) : ncells ((nums n f).take (k + 1)) = ncells ((nums n f).take k) ++ [.int .i64 (f k)] := by
  rw [List.take_succ_eq_append_getElem (by simpa [nums] using hk)]
  simp [ncells, nums]
theorem ncells_all (n : Nat) (f : Nat → Int) : (nums n f).take n = nums n f := List.take_of_length_le (by simp [nums])
theorem info64 : (Tryd.prog.info? 2).map (fun i => (i.zero, i.size, i.bytes)) = some (some (.int .i64 0), 1, 8) := by kernel_rfl
theorem ncell_at {w : World} {B g n c : Nat} {f : Nat → Int} (h : w.ownsRow B 2 1 (.slice (some ⟨g, 0, none⟩) n c) n (ncells (nums n f))) (k : Nat) (hk : k < n) : w.cell? ⟨g, k, none⟩ = some (.int .i64 (f k)) := by
  rw [h.cellAt k (by omega)]
  simp [ncells, nums, hk]
/-- A function that makes a row of numbers. -/
def MakesRow (n : Nat) (f : Nat → Int) (w : World) (e : Ending) (w' : World) : Prop :=
  ∃ g c, e = .returned (.slice (some ⟨g, 0, none⟩) n c) ∧ w'.ownsRow w.heap.size 2 1 (.slice (some ⟨g, 0, none⟩) n c) n (ncells (nums n f)) ∧ Below w.heap.size w w'

theorem e08 (k : Nat) (w : World) (hk : k < 32) : Calls Tryd.prog 29 #[.int .i64 k] w fun e w' => e = .returned (.int .i64 (cryF k)) ∧ w = w' := by
  by_cases h0 : k = 0
  · subst h0
    go_enter Tryd.func29, Tryd.ntmps29
    go_wp2_with fail
    go_ret
    exact ⟨rfl, rfl⟩
  · by_cases h1 : k = 31
    · subst h1
      go_enter Tryd.func29, Tryd.ntmps29
      go_wp2_with fail
      go_ret
      exact ⟨rfl, rfl⟩
    · have a0 : ((k : Int) == 0) = false := beq_eq_false_iff_ne.2 (by omega)
      have a1 : ((k : Int) == 31) = false := beq_eq_false_iff_ne.2 (by omega)
      have e : Hid (cryF k = 1000000 + 1000000 * (k : Int)) := Lib.hid (by unfold cryF; rw [if_neg h0, if_neg h1])
      clear h0 h1
      go_enter Tryd.func29, Tryd.ntmps29
      go_wp2_with fail
      go_ret
      exact ⟨by rw [e.out]; rfl, rfl⟩
theorem t09 (k : Nat) (w : World) (hk : k < 32) : Calls Tryd.prog 52 #[.int .i64 k] w fun e w' => e = .returned (.int .i64 (cryF k)) ∧ w = w' := by
  by_cases h0 : k = 0
  · subst h0
    go_enter Tryd.func52, Tryd.ntmps52
    go_wp2_with fail
    go_ret
    exact ⟨rfl, rfl⟩
  · by_cases h1 : k = 31
    · subst h1
      go_enter Tryd.func52, Tryd.ntmps52
      go_wp2_with fail
      go_ret
      exact ⟨rfl, rfl⟩
    · have a0 : ((k : Int) == 0) = false := beq_eq_false_iff_ne.2 (by omega)
      have a1 : ((k : Int) == 31) = false := beq_eq_false_iff_ne.2 (by omega)
      have e : Hid (cryF k = 1000000 + 1000000 * (k : Int)) := Lib.hid (by unfold cryF; rw [if_neg h0, if_neg h1])
      clear h0 h1
      go_enter Tryd.func52, Tryd.ntmps52
      go_wp2_with fail
      go_ret
      exact ⟨by rw [e.out]; rfl, rfl⟩
theorem e09 (k : Nat) (w : World) (hk : k < 24) : Calls Tryd.prog 50 #[.int .i64 k] w fun e w' => e = .returned (.int .i64 (supF k)) ∧ w = w' := by
  by_cases h0 : k = 0
  · subst h0
    go_enter Tryd.func50, Tryd.ntmps50
    go_wp2_with fail
    go_ret
    exact ⟨rfl, rfl⟩
  · by_cases h1 : k = 23
    · subst h1
      go_enter Tryd.func50, Tryd.ntmps50
      go_wp2_with fail
      go_ret
      exact ⟨rfl, rfl⟩
    · have a0 : ((k : Int) == 0) = false := beq_eq_false_iff_ne.2 (by omega)
      have a1 : ((k : Int) == 23) = false := beq_eq_false_iff_ne.2 (by omega)
      have e : Hid (supF k = 300000 + 12500 * (k : Int) + cryF k) := Lib.hid (by unfold supF; rw [if_neg h0, if_neg h1])
      obtain ⟨b0, b1⟩ := cry_bd k (by omega)
      clear h0 h1
      go_enter Tryd.func50, Tryd.ntmps50
      go_wp2_with fail
      refine (t09 k _ (by omega)).mono ?_
      rintro e w' ⟨rfl, rfl⟩
      go_wp2_with fail
      go_ret
      exact ⟨by rw [e.out]; rfl, rfl⟩
set_option maxHeartbeats 1000000 in
theorem n09 (w : World) : Calls Tryd.prog 46 #[] w (MakesRow 24 supF w) := by
  obtain ⟨iw, hi, hz0, hz1, hz2⟩ := info_parts info64
  go_enter Tryd.func46, Tryd.ntmps46
  go_wp2_with fail
  go_loopg [1, 2] 24 (fun r v s wr => ∃ k : Nat, k ≤ 24 ∧ r = 24 - k ∧ s = .int .i64 k ∧ Hid (wr.ownsRow w.heap.size 2 1 v k (ncells ((nums 24 supF).take k)) ∧ Below w.heap.size w wr))
  case atStart => exact ⟨0, by omega, by omega, rfl, Lib.hid ⟨World.ownsRow_nil _ _ _ _, Below.refl _ _⟩⟩
  case round =>
    obtain ⟨k, hk, hr, rfl, hq⟩ := hrel
    obtain ⟨q1, q2⟩ := hq.out
    have Q1 := Lib.hid q1
    have Q2 := Lib.hid q2
    have HR := Lib.hid hr
    clear q1 q2 hq hr
    have hz : w.heap.size ≤ wr.heap.size := Q2.out.size
    by_cases hlt : k < 24
    · have hkm : k + 1 ≤ maxLen := by unfold maxLen; omega
      have hkb : (k + 1) * 8 ≤ 140737488355328 := by omega
      go_wp2_with fail
      refine (e09 k _ hlt).mono ?_
      rintro e w' ⟨rfl, rfl⟩
      go_wp2_with (refine wpList_append_lies _ (by rfl) (.tmp 7) (.tmp 10) 24 (by rfl) w.heap.size 2 iw _ 1 8 Tryd.underlying24 hi hz0 hz1 hz2 rfl (by omega) u1 k (ncells ((nums 24 supF).take k)) (by rfl) (Q1.out.alloc _) ⟨wr.heap.size, 0, none⟩ 1 1 [.int .i64 (supF k)] (by rfl) (by rfl) (World.news_of_block (cs := #[.int .i64 (supF k)]) (t := 2) (fr := (0, 0)) (heap_alloc_new wr _)) (by simp [Value.oneCell']) (by omega) hkm hkb (by simp; omega) (wr.heap.size + 1) (by simp) ?_)
      intro gg cap1 w1 hown1 hgrow hat hlt1
      have T1 := Lib.hid hown1
      have T2 := Lib.hid ((Q2.out.alloc hz (.cells #[.int .i64 (supF k)] 2 (0, 0))).grown hgrow (by simp; omega) (fun kk hk' => (Q1.out.lt kk hk').1))
      clear hown1 hgrow hat hlt1
      go_wp2_with fail
      go_roundg (24 - (k + 1))
      case measure => rw [HR.out]; omega
      case rel => exact ⟨k + 1, by omega, rfl, by go_num, Lib.hid ⟨by rw [ncells_take 24 supF k hlt]; exact T1.out, T2.out⟩⟩
    · obtain rfl : k = 24 := by omega
      rw [ncells_all] at Q1
      obtain ⟨g, c, rfl, _, _⟩ := Q1.out.form (by omega)
      go_wp2_with fail
      go_ret
      exact ⟨g, c, rfl, Q1.out, Q2.out⟩
set_option maxHeartbeats 4000000 in
set_option maxRecDepth 100000 in
theorem m10 (w : World) : Calls Tryd.prog 41 #[] w (MakesRow 20 madeF w) := by
  obtain ⟨iw, hi, hz0, hz1, hz2⟩ := info_parts info64
  go_enter Tryd.func41, Tryd.ntmps41
  go_wp2_with fail
  refine (n09 w).mono ?_
  rintro e w1 ⟨gs, cs, rfl, hown, hb⟩
  have HS := Lib.hid hown
  have HB := Lib.hid hb
  have hgs : w.heap.size ≤ gs ∧ gs < w1.heap.size := hown.lt gs rfl
  obtain ⟨hgs0, hgs1⟩ := hgs
  clear hown hb
  go_wp2_with fail
  go_loopg [1, 3] 20 (fun r v s wr => ∃ k : Nat, k ≤ 20 ∧ r = 20 - k ∧ s = .int .i64 k ∧ Hid (wr.ownsRow w1.heap.size 2 1 v k (ncells ((nums 20 madeF).take k)) ∧ Below w1.heap.size w1 wr))
  case atStart => exact ⟨0, by omega, by omega, rfl, Lib.hid ⟨World.ownsRow_nil _ _ _ _, Below.refl _ _⟩⟩
  case round =>
    obtain ⟨k, hk, hr, rfl, hq⟩ := hrel
    obtain ⟨q1, q2⟩ := hq.out
    have Q1 := Lib.hid q1
    have Q2 := Lib.hid q2
    have HR := Lib.hid hr
    clear q1 q2 hq hr
    have hz : w1.heap.size ≤ wr.heap.size := Q2.out.size
    by_cases hlt : k < 20
    · have hkm : k + 1 ≤ maxLen := by unfold maxLen; omega
      have hkb : (k + 1) * 8 ≤ 140737488355328 := by omega
      have c1 : wr.cell? ⟨gs, k, none⟩ = some (.int .i64 (supF k)) := (Q2.out.cell (p := ⟨gs, k, none⟩) hgs1).trans (ncell_at HS.out k (by omega))
      have HF := Lib.hid (own_far Q1.out hgs1)
      have hgr : gs < wr.heap.size := Nat.lt_of_lt_of_le hgs1 Q2.out.size
      obtain ⟨b0, b1⟩ := cry_bd k (by omega)
      obtain ⟨b2, b3⟩ := sup_bd k (by omega)
      have e1 : IntKind.i64.wrap (65536 * (k : Int)) = 65536 * (k : Int) := IntWalk.i64_in _ (by omega)
      have e2 : IntKind.i64.wrap (268435456 + 65536 * (k : Int)) = 268435456 + 65536 * (k : Int) := IntWalk.i64_in _ (by omega)
      have e3 : IntKind.i64.wrap (268435456 + 65536 * (k : Int) + cryF k) = 268435456 + 65536 * (k : Int) + cryF k := IntWalk.i64_in _ (by omega)
      have e4 : IntKind.i64.wrap (4 * supF k) = 4 * supF k := IntWalk.i64_in _ (by omega)
      have e5 : IntKind.i64.wrap (268435456 + 65536 * (k : Int) + cryF k + 4 * supF k) = 268435456 + 65536 * (k : Int) + cryF k + 4 * supF k := IntWalk.i64_in _ (by omega)
      have e6 : (k : Int).tmod 24 = (k : Int) := by rw [Int.tmod_eq_emod_of_nonneg (by omega)]; omega
      have hk32 : k < 32 := by omega
      have hk24 : (k : Int) < 24 := by omega
      go_wp2_with fail
      go_region_held3 (fun w' => w'.cell? ⟨gs, k, none⟩ = some (.int .i64 (supF k)))
        (first | go_keep | exact k1)
        (first
          | (go_at_call 29; refine (e08 k _ hk32).mono ?_; rintro e w' ⟨rfl, rfl⟩)
          | (refine step_append_lies _ rfl (.tmp 9) (.tmp 25) 24 rfl w1.heap.size 2 iw _ 1 8 Tryd.underlying24 hi hz0 hz1 hz2 rfl (by omega) u1 k (ncells ((nums 20 madeF).take k)) (by rfl) ((Q1.out.alloc _).drew)
                    ⟨wr.heap.size, 0, none⟩ 1 1 [.int .i64 (268435456 + 65536 * (k : Int) + cryF k + 4 * supF k)] (by rfl) (by rfl) (World.news_of_block (cs := #[.int .i64 (268435456 + 65536 * (k : Int) + cryF k + 4 * supF k)]) (t := 2) (fr := (0, 0)) (heap_alloc_new wr _)) (by simp [Value.oneCell'])
                    (by omega) hkm hkb (by simp; omega) (wr.heap.size + 1) (by simp) ?_; intro gg cap1 w2 hown1 hgrow hat hlt1; have k1 : w2.cell? ⟨gs, k, none⟩ = some (.int .i64 (supF k)) := (hgrow.cell_far ⟨gs, k, none⟩ (by simp; omega) HF.out).trans (by go_keep)))
      have T1 := Lib.hid hown1
      have T2 := Lib.hid (((Q2.out.alloc hz (.cells #[.int .i64 (268435456 + 65536 * (k : Int) + cryF k + 4 * supF k)] 2 (0, 0))).drew).grown hgrow (by simp; omega) (fun kk hk' => (Q1.out.lt kk hk').1))
      clear hown1 hgrow hat hlt1 e1 e2 e3 e4 e5 e6
      go_wp2_with fail
      go_roundg (20 - (k + 1))
      case measure => rw [HR.out]; omega
      case rel => exact ⟨k + 1, by omega, rfl, by go_num, Lib.hid ⟨by rw [ncells_take 20 madeF k hlt]; exact T1.out, T2.out⟩⟩
    · obtain rfl : k = 20 := by omega
      rw [ncells_all] at Q1
      obtain ⟨g, c, rfl, _, _⟩ := Q1.out.form (by omega)
      have hw1 := HB.out.size
      go_wp2_with fail
      go_ret
      exact ⟨g, c, rfl, own_mono Q1.out hw1, HB.out.trans (Q2.out.mono hw1)⟩
theorem ncells_set (n : Nat) (f : Nat → Int) (i : Nat) (v : Int) : (ncells (nums n f)).set i (.int .i64 v) = ncells (nums n fun k => if k = i then v else f k) := by
  apply List.ext_getElem
  · simp [ncells, nums]
  · intro j h1 h2
    simp only [ncells, nums, List.getElem_set, List.getElem_map, List.getElem_range]
    by_cases h : i = j
    · subst h; simp
    · rw [if_neg h, if_neg (fun e => h e.symm)]
theorem makes_congr {n : Nat} {f g : Nat → Int} (h : ∀ k, k < n → f k = g k) : nums n f = nums n g := by
  unfold nums
  exact List.map_congr_left fun k hk => h k (List.mem_range.1 hk)
def firstF (k : Nat) : Int := if k = 0 then madeF 0 + 4096 else madeF k
theorem bus_first : ∀ k, k < 20 → (if k = 19 then firstF 19 + 2 * cryF 19 else firstF k) = busF k := by decide +kernel
theorem f10 (w : World) : Calls Tryd.prog 28 #[] w (MakesRow 20 firstF w) := by
  have hb0 := (made_bd 0 (by omega)).1
  have hb1 := (made_bd 0 (by omega)).2
  have hset := Lib.hid (ncells_set 20 madeF 0 (madeF 0 + 4096))
  have hcg := Lib.hid (makes_congr (n := 20) (f := fun k => if k = 0 then madeF 0 + 4096 else madeF k) (g := firstF) (fun k _ => rfl))
  go_enter Tryd.func28, Tryd.ntmps28
  go_wp2_with fail
  refine (m10 w).mono ?_
  rintro e w1 ⟨g, c, rfl, hown, hb⟩
  have c0 := ncell_at hown 0 (by omega)
  have f0 := hown.frozenAt 0
  have HO := Lib.hid hown
  have HB := Lib.hid hb
  have hg := (hown.lt g rfl).1
  clear hown hb
  generalize madeF 0 = m0 at *
  go_wp2_with fail
  go_ret
  refine ⟨g, c, rfl, ?_, HB.out.setCell (p := ⟨g, 0, none⟩) hg _⟩
  have h1 := (HO.out.stored 0 (.int .i64 (m0 + 4096))).1
  rw [hset.out, hcg.out] at h1
  exact h1
set_option maxHeartbeats 1000000 in
set_option maxRecDepth 100000 in
theorem n10 (w : World) : Calls Tryd.prog 10 #[] w (MakesRow 20 busF w) := by
  have hf : 0 ≤ firstF 19 ∧ firstF 19 ≤ 1000000000 := by decide +kernel
  obtain ⟨hf0, hf1⟩ := hf
  have hset := Lib.hid (ncells_set 20 firstF 19 (firstF 19 + 2 * cryF 19))
  have hcg := Lib.hid (makes_congr (n := 20) (f := fun k => if k = 19 then firstF 19 + 2 * cryF 19 else firstF k) (g := busF) bus_first)
  have hcb := cry_bd 19 (by omega)
  obtain ⟨b0, b1⟩ := hcb
  have he := e08 19
  generalize cryF 19 = cv at *
  go_enter Tryd.func10, Tryd.ntmps10
  go_wp2_with fail
  refine (f10 w).mono ?_
  rintro e w1 ⟨g, c, rfl, hown, hb⟩
  have c0 := ncell_at hown 19 (by omega)
  have f0 := hown.frozenAt 19
  have HO := Lib.hid hown
  have HB := Lib.hid hb
  have HE := Lib.hid he
  have hg := (hown.lt g rfl).1
  clear hown hb he
  generalize firstF 19 = m0 at *
  have e1 : IntKind.i64.wrap (2 * cv) = 2 * cv := IntWalk.i64_in _ (by omega)
  have e2 : IntKind.i64.wrap (m0 + 2 * cv) = m0 + 2 * cv := IntWalk.i64_in _ (by omega)
  go_wp2_with fail
  go_region_with ((go_at_call 29; refine (HE.out _ (by omega)).mono ?_; rintro e w' ⟨rfl, rfl⟩))
  all_goals
    go_wp2_with fail
    go_ret
    refine ⟨g, c, rfl, ?_, HB.out.drew.setCell (p := ⟨g, 19, none⟩) hg _⟩
    have h1 := (HO.out.drew.stored 19 (.int .i64 (m0 + 2 * cv))).1
    rw [hset.out, hcg.out] at h1
    exact h1
end Go.Proofs.YtdhlmflbefnekaaDoor
