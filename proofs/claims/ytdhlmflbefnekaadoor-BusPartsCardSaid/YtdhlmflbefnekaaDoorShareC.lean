/- bus.Shares: the test of its sort. -/
import Derived.Test.YtdhlmflbefnekaaDoorShareV
import Derived.Test.YtdhlmflbefnekaaDoorDivC2
import Derived.Test.YtdhlmflbefnekaaDoorStabO
import Derived.Laws.EntriesVeiled
namespace Go.Proofs.YtdhlmflbefnekaaDoor
open Go.RowKit Go.ChangeShapes
theorem cmpu_any (a b : Nat) (w : World) : Calls Tryd.prog 40 #[.int .u64 a, .int .u64 b] w fun e w' => e = .returned (.int .i64 (if a < b then -1 else if b < a then 1 else 0)) ∧ w = w' := by
  by_cases h1 : a < b
  · rw [if_pos h1]
    have z1 : (a : Int) < (b : Int) := by omega
    go_enter Tryd.func40, Tryd.ntmps40
    go_wp2
    go_ret
    exact ⟨rfl, rfl⟩
  · by_cases h2 : b < a
    · rw [if_neg h1, if_pos h2]
      have z1 : ¬ (a : Int) < (b : Int) := by omega
      have z2 : (a : Int) > (b : Int) := by omega
      go_enter Tryd.func40, Tryd.ntmps40
      go_wp2
      go_ret
      exact ⟨rfl, rfl⟩
    · rw [if_neg h1, if_neg h2]
      have z1 : ¬ (a : Int) < (b : Int) := by omega
      have z2 : ¬ (a : Int) > (b : Int) := by omega
      go_enter Tryd.func40, Tryd.ntmps40
      go_wp2
      go_ret
      exact ⟨rfl, rfl⟩
/-- The test: by what is left over, the greater first. -/
def cmpR (r : Nat → Nat) (x y : Nat) : Int := if r y < r x then -1 else if r x < r y then 1 else 0
set_option maxHeartbeats 1000000 in
theorem cls_any (r : Nat → Nat) (n x y : Nat) (w : World) (hx : x < n) (hy : y < n) (hn : n ≤ 64) (bx gl c : Nat) (hb : w.cell? ⟨bx, 0, none⟩ = some (.slice (some ⟨gl, 0, none⟩) n c)) (hl : ∀ i, i < n → w.cell? ⟨gl, i, none⟩ = some (.int .u64 (r i : Nat))) :
    Calls Tryd.prog 39 #[.int .i64 x, .int .i64 y, .pointer (some ⟨bx, 0, none⟩)] w fun e w' => e = .returned (.int .i64 (cmpR r x y)) ∧ ∃ q, w' = w.drewN q := by
  have hc := fun w => cmpu_any (r y) (r x) w
  have c1 := hl x hx
  have c2 := hl y hy
  have z1 : IntKind.i64.wrap (x : Int) = (x : Int) := by rw [IntKind.wrap_i64]; omega
  have z2 : IntKind.i64.wrap (y : Int) = (y : Int) := by rw [IntKind.wrap_i64]; omega
  have z3 : (x : Int) < (n : Int) := by omega
  have z4 : (y : Int) < (n : Int) := by omega
  have e : (if r y < r x then (-1 : Int) else if r x < r y then 1 else 0) = cmpR r x y := rfl
  rw [e] at hc
  generalize cmpR r x y = t at *
  generalize r x = X at *
  generalize r y = Y at *
  clear hl e
  go_enter Tryd.func39, Tryd.ntmps39
  go_wp2_with fail
  go_quiet ((go_at_call 40; exact Calls.quiet_of_same ((hc _).mono fun _ _ ⟨h, e⟩ => ⟨h, e.symm⟩)))
  go_wp2_with fail
  go_ret
  exact ⟨rfl, _, rfl⟩
def encF {m : Nat} (x : Fin (m + 1)) : Value := .int .i64 (x.val : Int)
def cmpF {m : Nat} (r : Nat → Nat) (x y : Fin (m + 1)) : Int := cmpR r x.val y.val
def befF {m : Nat} (r : Nat → Nat) (x y : Fin (m + 1)) : Bool := Sh.bef r x.val y.val
open Go.Sort in
theorem befF_swo {m : Nat} (r : Nat → Nat) : SWO (befF (m := m) r) where
  irrefl x := (Sh.bef_swo r).irrefl _
  trans x y z := (Sh.bef_swo r).trans _ _ _
  ntrans x y z := (Sh.bef_swo r).ntrans _ _ _
def idF (m : Nat) : Array (Fin (m + 1)) := ((List.range (m + 1)).map fun i => Fin.ofNat (m + 1) i).toArray
theorem idF_size (m : Nat) : (idF m).size = m + 1 := by simp [idF]
theorem idF_vals (m : Nat) : (idF m).toList.map (·.val) = List.range (m + 1) := by
  unfold idF
  simp only [List.toList_toArray, List.map_map]
  apply List.ext_getElem (by simp)
  intro i h1 h2
  simp at h2
  simp [Fin.ofNat]
  omega
theorem idF_at (m i : Nat) (h : i < m + 1) : ((idF m)[i]!).val = i := by
  rw [getElem!_pos _ _ (by rw [idF_size]; exact h)]
  unfold idF
  simp [Fin.ofNat]
  omega
open Go.Sort Stb in
/-- The sort of the places by what is left over. -/
theorem sortsS (r : Nat → Nat) (m : Nat) (w : World) (B g c bx gl cl : Nat) (hm : m + 1 ≤ 64) (hown : w.ownsRow B 3 1 (.slice (some ⟨g, 0, none⟩) (m + 1) c) (m + 1) (rc ((List.range (m + 1)).map fun i : Nat => (i : Int)))) (hbx : bx < w.heap.size) (hgl : gl < w.heap.size) (hne1 : bx ≠ g) (hne2 : gl ≠ g)
    (hb : w.cell? ⟨bx, 0, none⟩ = some (.slice (some ⟨gl, 0, none⟩) (m + 1) cl)) (hl : ∀ i, i < m + 1 → w.cell? ⟨gl, i, none⟩ = some (.int .u64 (r i : Nat))) :
    Calls Tryd.prog (Stb.sortF) #[.slice (some ⟨g, 0, none⟩) (m + 1) c, .func (.func 39) #[] #[.pointer (some ⟨bx, 0, none⟩)]] w fun e w' => e = .returned (.tuple #[]) ∧ w'.ownsRow B 3 1 (.slice (some ⟨g, 0, none⟩) (m + 1) c) (m + 1) (rc ((Sh.ordS r (m + 1)).map fun i : Nat => (i : Int))) ∧ w.grownBy w' (some g) := by
  have hds := idF_size m
  have ev : ∀ l : List (Fin (m + 1)), l.map encF = rc ((l.map (·.val)).map fun i : Nat => (i : Int)) := fun l => by simp [rc, encF]
  have hrow : w.ownsRow B 3 1 (.slice (some ⟨g, 0, none⟩) (m + 1) c) (m + 1) ((idF m).toList.map encF) := by rw [ev, idF_vals]; exact hown
  have R : Row1 encF w g 0 (idF m) := ⟨fun _ => rfl, Stb.holds_of_own hrow hds, (hown.lt g rfl).2⟩
  have hc : CmpReads Tryd.prog 39 #[.pointer (some ⟨bx, 0, none⟩)] encF (cmpF r) g 0 (idF m).size w := fun k os dk _ x y =>
    cls_any r (m + 1) x.val y.val _ x.isLt y.isLt hm bx gl cl (by rw [Stb.cell_apart (d' := dk) ⟨k, os, rfl⟩ ⟨bx, 0, none⟩ hbx hne1]; exact hb) (fun i hi => by rw [Stb.cell_apart (d' := dk) ⟨k, os, rfl⟩ ⟨gl, i, none⟩ hgl hne2]; exact hl i hi)
  have h := Stb.sort_s encF (cmpF r) (befF r) (befF_swo r) 39 #[.pointer (some ⟨bx, 0, none⟩)] g 0 c (idF m) w (enters_of Tryd.func39 (by kernel_rfl) rfl) hc.lays R (by omega) (fun i j hij hj => by
    rw [hds] at hj
    unfold ltOf cmpF cmpR befF
    rw [idF_at m i (by omega), idF_at m j hj]
    rw [Bool.eq_iff_iff, Sh.bef_iff, decide_eq_true_eq]
    by_cases c1 : r i < r j
    · rw [if_pos c1]; omega
    · rw [if_neg c1]
      by_cases c2 : r j < r i
      · rw [if_pos c2]; omega
      · rw [if_neg c2]; omega)
  rw [hds] at h
  refine h.mono ?_
  rintro e w' ⟨he, d', p1, s1, hS⟩
  obtain ⟨o1, o2⟩ := Stb.own_sorted hrow hds (by rw [p1.1, hds]) hS
  refine ⟨he, ?_, o2⟩
  have p2 : PermIn 0 (idF m).size (idF m) d' := by rw [hds]; exact p1
  have s2 : SortedIn (befF r) 0 (idF m).size d' := by rw [hds]; exact s1
  have hu := sorted_unique_holds (befF_swo r) (fun x y e1 e2 => by
    unfold befF at e1 e2
    rw [← Bool.not_eq_true, Sh.bef_iff] at e1 e2
    exact Fin.ext (by omega)) (idF m) d' p2 s2
  have e3 : d'.toList.map (·.val) = Sh.ordS r (m + 1) := by
    rw [hu, Sh.ordS, ← idF_vals m]
    exact List.map_mergeSort (fun a _ b _ => rfl)
  rwa [ev, e3] at o1
end Go.Proofs.YtdhlmflbefnekaaDoor
