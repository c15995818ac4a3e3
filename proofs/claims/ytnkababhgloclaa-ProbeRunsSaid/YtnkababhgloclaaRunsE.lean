/- Two outcomes that read alike are the same. -/
import Derived.Test.YtnkababhgloclaaRunsV
import Derived.Test.YtnkababhgloclaaWorksA
namespace Go.Proofs.Ytnkababhgloclaa
open Go.RowKit Go.ChangeShapes Tx Nm
/-- A value that reads as an outcome. -/
def OutR (w : World) (v : Value) (o : Oc) : Prop := ∃ vd vg vs, v = .agg #[.bool o.good, .int .i64 o.at_, .int .u8 o.how, vd, vg, vs] ∧ Strs w vd o.done ∧ Strs w vg o.given ∧ Strs w vs o.stuck
def Oc.few (o : Oc) : Prop := o.done.length ≤ 4 ∧ o.given.length ≤ 4 ∧ o.stuck.length ≤ 4
theorem OutAt.read {w : World} {B : Nat} {v : Value} {o : Oc} (h : OutAt w B v o) (hf : o.few) : OutR w v o := by
  obtain ⟨vd, vg, vs, e, h1, h2, h3⟩ := h
  obtain ⟨f1, f2, f3⟩ := hf
  exact ⟨vd, vg, vs, e, strs_own h1 (by unfold maxLen; omega), strs_own h2 (by unfold maxLen; omega), strs_own h3 (by unfold maxLen; omega)⟩
theorem OutR.below {w w' : World} {v : Value} {o : Oc} (h : OutR w v o) (hb : Below w.heap.size w w') : OutR w' v o := by
  obtain ⟨vd, vg, vs, e, h1, h2, h3⟩ := h
  exact ⟨vd, vg, vs, e, h1.below hb, h2.below hb, h3.below hb⟩
theorem st_yes {w w' : World} {v u : Value} {ss : List ByteArray} (hv : Strs w v ss) (hu : Strs w u ss) (hb : Below w.heap.size w w') : Calls Try.prog 12 #[v, u] w' fun e w'' => e = .returned (.bool true) ∧ ∃ m, w'' = w'.drewN m := by
  have h := stexts_any v u ss ss w' (hv.below hb) (hu.below hb)
  have e : decide (ss = ss) = true := decide_eq_true rfl
  rw [e] at h
  exact h
theorem strs_slice {w : World} {v : Value} {ss : List ByteArray} (h : Strs w v ss) : ∃ a c, v = .slice a ss.length c := by
  obtain ⟨a, c, e, _⟩ := h
  exact ⟨a, c, e⟩
set_option maxHeartbeats 8000000 in
set_option maxRecDepth 100000 in
theorem sout_any {w : World} {v u : Value} {o : Oc} (hv : OutR w v o) (hu : OutR w u o) : Calls Try.prog 22 #[v, u] w fun e w' => e = .returned (.bool true) ∧ Below w.heap.size w w' := by
  obtain ⟨vd, vg, vs, rfl, h1, h2, h3⟩ := hv
  obtain ⟨ud, ug, us, rfl, k1, k2, k3⟩ := hu
  obtain ⟨g, at_, how, done, given, stuck⟩ := o
  simp only at h1 h2 h3 k1 k2 k3 ⊢
  obtain ⟨ad, cd, rfl⟩ := strs_slice h1
  obtain ⟨ag, cg, rfl⟩ := strs_slice h2
  obtain ⟨az, cz, rfl⟩ := strs_slice h3
  obtain ⟨bd, dd, rfl⟩ := strs_slice k1
  obtain ⟨bg, dg, rfl⟩ := strs_slice k2
  obtain ⟨bz, dz, rfl⟩ := strs_slice k3
  have b1 := (Below.refl w.heap.size w).alloc (Nat.le_refl _) (.cells #[.bool g, .int .i64 at_, .int .u8 how, .slice ad done.length cd, .slice ag given.length cg, .slice az stuck.length cz] 56)
  have b2 := b1.alloc (by simp) (.cells #[.bool g, .int .i64 at_, .int .u8 how, .slice bd done.length dd, .slice bg given.length dg, .slice bz stuck.length dz] 59)
  have p2 := (heap_alloc_old' _ (.cells #[.bool g, .int .i64 at_, .int .u8 how, .slice bd done.length dd, .slice bg given.length dg, .slice bz stuck.length dz] 59) (by simp)).trans (heap_alloc_new w (.cells #[.bool g, .int .i64 at_, .int .u8 how, .slice ad done.length cd, .slice ag given.length cg, .slice az stuck.length cz] 56))
  have p3 := heap_alloc2_new w (.cells #[.bool g, .int .i64 at_, .int .u8 how, .slice ad done.length cd, .slice ag given.length cg, .slice az stuck.length cz] 56) (.cells #[.bool g, .int .i64 at_, .int .u8 how, .slice bd done.length dd, .slice bg given.length dg, .slice bz stuck.length dz] 59)
  obtain ⟨w2, hw2⟩ : ∃ x, x = (w.alloc (.cells #[.bool g, .int .i64 at_, .int .u8 how, .slice ad done.length cd, .slice ag given.length cg, .slice az stuck.length cz] 56)).alloc (.cells #[.bool g, .int .i64 at_, .int .u8 how, .slice bd done.length dd, .slice bg given.length dg, .slice bz stuck.length dz] 59) := ⟨_, rfl⟩
  have HW2 := Lib.hid hw2
  rw [← hw2] at b2 p2 p3
  have B2 := Lib.hid b2
  have C1 := Lib.hid (fun w' (hb : Below w.heap.size w w') => st_yes h1 k1 hb)
  have C2 := Lib.hid (fun w' (hb : Below w.heap.size w w') => st_yes h2 k2 hb)
  have C3 := Lib.hid (fun w' (hb : Below w.heap.size w w') => st_yes h3 k3 hb)
  obtain ⟨pA, hpA⟩ : ∃ p, p = w.heap.size := ⟨_, rfl⟩
  obtain ⟨pB, hpB⟩ : ∃ p, p = w.heap.size + 1 := ⟨_, rfl⟩
  have HPA := Lib.hid hpA
  have HPB := Lib.hid hpB
  rw [← hpB] at p3
  rw [← hpA] at p2
  have x0 := (cell_of_row w2 pA 0 _ _ _ p2).trans (show (#[Value.bool g, .int .i64 at_, .int .u8 how, .slice ad done.length cd, .slice ag given.length cg, .slice az stuck.length cz] : Array Value)[0]? = some (.bool g) from rfl)
  have x1 := (cell_of_row w2 pA 1 _ _ _ p2).trans (show (#[Value.bool g, .int .i64 at_, .int .u8 how, .slice ad done.length cd, .slice ag given.length cg, .slice az stuck.length cz] : Array Value)[1]? = some (.int .i64 at_) from rfl)
  have x2 := (cell_of_row w2 pA 2 _ _ _ p2).trans (show (#[Value.bool g, .int .i64 at_, .int .u8 how, .slice ad done.length cd, .slice ag given.length cg, .slice az stuck.length cz] : Array Value)[2]? = some (.int .u8 how) from rfl)
  have x3 := (cell_of_row w2 pA 3 _ _ _ p2).trans (show (#[Value.bool g, .int .i64 at_, .int .u8 how, .slice ad done.length cd, .slice ag given.length cg, .slice az stuck.length cz] : Array Value)[3]? = some (.slice ad done.length cd) from rfl)
  have x4 := (cell_of_row w2 pA 4 _ _ _ p2).trans (show (#[Value.bool g, .int .i64 at_, .int .u8 how, .slice ad done.length cd, .slice ag given.length cg, .slice az stuck.length cz] : Array Value)[4]? = some (.slice ag given.length cg) from rfl)
  have x5 := (cell_of_row w2 pA 5 _ _ _ p2).trans (show (#[Value.bool g, .int .i64 at_, .int .u8 how, .slice ad done.length cd, .slice ag given.length cg, .slice az stuck.length cz] : Array Value)[5]? = some (.slice az stuck.length cz) from rfl)
  have y0 := (cell_of_row w2 pB 0 _ _ _ p3).trans (show (#[Value.bool g, .int .i64 at_, .int .u8 how, .slice bd done.length dd, .slice bg given.length dg, .slice bz stuck.length dz] : Array Value)[0]? = some (.bool g) from rfl)
  have y1 := (cell_of_row w2 pB 1 _ _ _ p3).trans (show (#[Value.bool g, .int .i64 at_, .int .u8 how, .slice bd done.length dd, .slice bg given.length dg, .slice bz stuck.length dz] : Array Value)[1]? = some (.int .i64 at_) from rfl)
  have y2 := (cell_of_row w2 pB 2 _ _ _ p3).trans (show (#[Value.bool g, .int .i64 at_, .int .u8 how, .slice bd done.length dd, .slice bg given.length dg, .slice bz stuck.length dz] : Array Value)[2]? = some (.int .u8 how) from rfl)
  have y3 := (cell_of_row w2 pB 3 _ _ _ p3).trans (show (#[Value.bool g, .int .i64 at_, .int .u8 how, .slice bd done.length dd, .slice bg given.length dg, .slice bz stuck.length dz] : Array Value)[3]? = some (.slice bd done.length dd) from rfl)
  have y4 := (cell_of_row w2 pB 4 _ _ _ p3).trans (show (#[Value.bool g, .int .i64 at_, .int .u8 how, .slice bd done.length dd, .slice bg given.length dg, .slice bz stuck.length dz] : Array Value)[4]? = some (.slice bg given.length dg) from rfl)
  have y5 := (cell_of_row w2 pB 5 _ _ _ p3).trans (show (#[Value.bool g, .int .i64 at_, .int .u8 how, .slice bd done.length dd, .slice bg given.length dg, .slice bz stuck.length dz] : Array Value)[5]? = some (.slice bz stuck.length dz) from rfl)
  clear h1 h2 h3 k1 k2 k3 p2 p3 b1 b2 hw2 hpA hpB
  go_enter Try.func22, Try.ntmps22
  go_upto_region 1 with fail
  rw [← HW2.out, ← HPB.out, ← HPA.out]
  go_wp2_with fail
  refine (C1.out w2 B2.out).mono ?_
  rintro er w3 ⟨rfl, m1, rfl⟩
  go_wp2_with fail
  refine (C2.out _ (below_drewN B2.out m1)).mono ?_
  rintro er w4 ⟨rfl, m2, rfl⟩
  go_wp2_with fail
  refine (C3.out _ (below_drewN B2.out _)).mono ?_
  rintro er w5 ⟨rfl, m3, rfl⟩
  go_wp2_with fail
  go_ret
  exact ⟨rfl, below_drewN B2.out _⟩
end Go.Proofs.Ytnkababhgloclaa
