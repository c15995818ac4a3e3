/- The walk of BusAsks. -/
import Derived.Test.YtdhlmflbefnekaaDoorRSlotC
namespace Go.Proofs.YtdhlmflbefnekaaDoor
open Go.RowKit Go.ChangeShapes
theorem holdsAt_of {P : Program} {W : World} {name : String} {L : List Int} {g : Nat} (hg : P.globalNamed name = some g) (h : Lib.TabIs P W name .i64 L) : Ev.HoldsAt W g L := by
  unfold Lib.TabIs World.var? at h
  rw [hg] at h
  simp only [Option.bind_some] at h
  split at h
  · rename_i c t fr hh
    cases h
    exact ⟨t, fr, hh⟩
  · cases h
theorem Vars.mk {W : World} (h0 : Lib.TabIs Tryd.prog W "reveille/bus.table" .i64 busL) : busAt W ∧ ∀ x ∈ busRun.tabs, Ev.HoldsAt W x.1 x.2 ∧ x.1 < Tryd.prog.globals.size := by
  refine ⟨bus_mk h0, fun x hx => ?_⟩
  simp only [busRun.tabs, List.mem_cons, List.not_mem_nil, or_false] at hx
  subst hx
  exact ⟨holdsAt_of bus_named h0, of_decide_eq_true (by kernel_rfl)⟩
set_option maxHeartbeats 1000000 in
theorem busAsks_walk (i a n s : Int) (W : World) (w0 : (Lit.int .i64 i).wf = true) (w1 : (Lit.int .i64 a).wf = true) (w2 : (Lit.int .i64 n).wf = true) (w3 : (Lit.int .i64 s).wf = true) (hsh : W.ShapedOpen Tryd.prog) (hv : busAt W ∧ ∀ x ∈ busRun.tabs, Ev.HoldsAt W x.1 x.2 ∧ x.1 < Tryd.prog.globals.size) :
    Calls Tryd.prog 4 #[.int .i64 i, .int .i64 a, .int .i64 n, .int .i64 s] W fun e w' => e = .returned (.bool true) ∧ Below W.heap.size W w' := by
  obtain ⟨i0, i1⟩ := bounds_i64 w0
  obtain ⟨a0, a1⟩ := bounds_i64 w1
  obtain ⟨n0, n1⟩ := bounds_i64 w2
  obtain ⟨s0, s1⟩ := bounds_i64 w3
  have hst : busRun.Stood W := ⟨hsh, hv.2⟩
  obtain ⟨x1, y1, B1, B2⟩ := busRun.begin_both hst i i0 i1
  obtain ⟨x2, y2, W1, W2⟩ := busRun.which_both hst a a0 a1
  have HS := Lib.hid (fun w hT => slot_any i n s w hT n0 n1 s0 s1)
  have HR := Lib.hid (fun w => rslot_any i n s w n0 n1 s0 s1)
  generalize slotV i n s = z at HS HR
  obtain ⟨z1, z2⟩ := z
  have HB1 := Lib.hid B1
  have HB2 := Lib.hid B2
  have HW1 := Lib.hid W1
  have HW2 := Lib.hid W2
  have HT := Lib.hid hv.1
  clear w0 w1 w2 w3 B1 B2 W1 W2 hst hv hsh i0 i1 a0 a1 n0 n1 s0 s1
  go_enter Tryd.func4, Tryd.ntmps4
  go_wp2_with fail
  refine (HB1.out _ (Below.refl _ _)).mono ?_
  rintro e w1 ⟨rfl, hb⟩
  have E1 := Lib.hid hb
  clear hb
  go_wp2_with fail
  refine (HB2.out _ E1.out).mono ?_
  rintro e w2 ⟨rfl, hb⟩
  have E2 := Lib.hid (E1.out.trans (hb.mono E1.out.size))
  clear hb
  go_wp2_with fail
  refine (HW1.out _ E2.out).mono ?_
  rintro e w3 ⟨rfl, hb⟩
  have E3 := Lib.hid (E2.out.trans (hb.mono E2.out.size))
  clear hb
  go_wp2_with fail
  refine (HW2.out _ E3.out).mono ?_
  rintro e w4 ⟨rfl, hb⟩
  have E4 := Lib.hid (E3.out.trans (hb.mono E3.out.size))
  clear hb
  go_wp2_with fail
  refine (HS.out _ (HT.out.grown E4.out)).mono ?_
  rintro e w' ⟨rfl, rfl⟩
  go_wp2_with fail
  refine (HR.out _).mono ?_
  rintro e w5 ⟨rfl, hb⟩
  have E5 := Lib.hid (E4.out.trans (hb.mono E4.out.size))
  clear hb
  go_wp2_with fail
  go_ret
  exact ⟨rfl, E5.out⟩
end Go.Proofs.YtdhlmflbefnekaaDoor
