/- RollOthers: for every input the law returns true and its arguments read as before; the card ties the listed variables to the program text. -/
import Derived.Test.YtlgbmjdlgjdolaaDoorRollOthersW
import Derived.Test.YtlgbmjdlgjdolaaDoorCards
import Derived.Test.YtlgbmjdlgjdolaaDoorTie
import Derived.WalkKit
import Derived.ProofKit
import Derived.OpenShut
import Derived.Deep.DeepHandedRow
import Derived.Lib.LaidTab
import Derived.Below
import Derived.Carry
import Derived.SizedLaws
import Derived.Stop.LaidErr
import Derived.ChangeMaps5
namespace Go.Proofs.YtlgbmjdlgjdolaaDoor.rollOthers
open Go.ChangeShapes Go.WideShapes Go.ChangeAt Go.RowKit
set_option linter.unusedVariables false
theorem own : ownKnob Tryd.prog.godebug = none := by kernel_rfl
theorem laidOut : laidOutB Tryd.prog = true := by kernel_rfl
theorem g0 : Tryd.prog.globalNamed "reveille/bus.table" = some 2 := by kernel_rfl
theorem g0T : (Tryd.prog.globals[2]?).map (·.type) = some 132 := by kernel_rfl
theorem g0c : Tryd.prog.cellsOf 132 = 20 := by kernel_rfl
theorem g0e : Tryd.prog.cellsOf 2 = 1 := by kernel_rfl
theorem table0 {W : World} (h : laidMetH Tryd.prog Rows.rollOthersRow.laid W) : Lib.TabIs Tryd.prog W "reveille/bus.table" .i64 [271672320, 279750992, 284866528, 289982064, 295097600, 300213136, 305328672, 310444208, 315559744, 320675280, 325790816, 330906352, 336021888, 341137424, 346252960, 351368496, 356484032, 361599568, 366715104, 411830640] :=
  Lib.tabIs_of_head g0 g0T Tryd.underlying132 Tryd.underlying2 g0e g0c (h)
theorem g1 : Tryd.prog.globalNamed "reveille/crystal.table" = some 0 := by kernel_rfl
theorem g1T : (Tryd.prog.globals[0]?).map (·.type) = some 128 := by kernel_rfl
theorem g1c : Tryd.prog.cellsOf 128 = 32 := by kernel_rfl
theorem g1e : Tryd.prog.cellsOf 2 = 1 := by kernel_rfl
theorem table1 {W : World} (h : laidMetH Tryd.prog Rows.rollOthersRow.laid W) : Lib.TabIs Tryd.prog W "reveille/crystal.table" .i64 [32768, 2000000, 3000000, 4000000, 5000000, 6000000, 7000000, 8000000, 9000000, 10000000, 11000000, 12000000, 13000000, 14000000, 15000000, 16000000, 17000000, 18000000, 19000000, 20000000, 21000000, 22000000, 23000000, 24000000, 25000000, 26000000, 27000000, 28000000, 29000000, 30000000, 31000000, 100000000] :=
  Lib.tabIs_of_head g1 g1T Tryd.underlying128 Tryd.underlying2 g1e g1c (laidMet.tail (h))
theorem g2 : Tryd.prog.globalNamed "reveille/radio.table" = some 4 := by kernel_rfl
theorem g2T : (Tryd.prog.globals[4]?).map (·.type) = some 132 := by kernel_rfl
theorem g2c : Tryd.prog.cellsOf 132 = 20 := by kernel_rfl
theorem g2e : Tryd.prog.cellsOf 2 = 1 := by kernel_rfl
theorem table2 {W : World} (h : laidMetH Tryd.prog Rows.rollOthersRow.laid W) : Lib.TabIs Tryd.prog W "reveille/radio.table" .i64 [432920000, 444020992, 451206528, 458392064, 465577600, 472763136, 479948672, 487134208, 494319744, 501505280, 508690816, 515876352, 523061888, 530247424, 537432960, 545618496, 518134032, 526269568, 533455104, 580610000] :=
  Lib.tabIs_of_head g2 g2T Tryd.underlying132 Tryd.underlying2 g2e g2c (laidMet.tail (laidMet.tail (h)))
theorem g3 : Tryd.prog.globalNamed "reveille/sensor.table" = some 3 := by kernel_rfl
theorem g3T : (Tryd.prog.globals[3]?).map (·.type) = some 134 := by kernel_rfl
theorem g3c : Tryd.prog.cellsOf 134 = 16 := by kernel_rfl
theorem g3e : Tryd.prog.cellsOf 2 = 1 := by kernel_rfl
theorem table3 {W : World} (h : laidMetH Tryd.prog Rows.rollOthersRow.laid W) : Lib.TabIs Tryd.prog W "reveille/sensor.table" .i64 [625000, 2122500, 3145000, 4167500, 5190000, 6212500, 7235000, 8257500, 9280000, 10302500, 11325000, 12347500, 13370000, 14392500, 15415000, 16937500] :=
  Lib.tabIs_of_head g3 g3T Tryd.underlying134 Tryd.underlying2 g3e g3c (laidMet.tail (laidMet.tail (laidMet.tail (h))))
theorem g4 : Tryd.prog.globalNamed "reveille/supply.table" = some 1 := by kernel_rfl
theorem g4T : (Tryd.prog.globals[1]?).map (·.type) = some 130 := by kernel_rfl
theorem g4c : Tryd.prog.cellsOf 130 = 24 := by kernel_rfl
theorem g4e : Tryd.prog.cellsOf 2 = 1 := by kernel_rfl
theorem table4 {W : World} (h : laidMetH Tryd.prog Rows.rollOthersRow.laid W) : Lib.TabIs Tryd.prog W "reveille/supply.table" .i64 [800000, 2312500, 3325000, 4337500, 5350000, 6362500, 7375000, 8387500, 9400000, 10412500, 11425000, 12437500, 13450000, 14462500, 15475000, 16487500, 17500000, 18512500, 19525000, 20537500, 21550000, 22562500, 23575000, 25000000] :=
  Lib.tabIs_of_head g4 g4T Tryd.underlying130 Tryd.underlying2 g4e g4c (laidMet.tail (laidMet.tail (laidMet.tail (laidMet.tail (h)))))
set_option maxRecDepth 100000 in
theorem contract (H : Type) (enc : TypeId × Value → H) (W : World) (base : Nat) (args : Array Value) (ds gs : List (DataW H)) (before : List MemPlace)
    (hval : ∀ (j : Nat) t v, Tryd.f7.params[j]? = some t → args[j]? = some v → Value.okWide Tryd.prog W .any base t v)
    (hW : DataW.Whole enc Tryd.prog Tryd.f7.params.toList Rows.rollOthersSpec.vars false W args.toList ds gs before)
    (hsz : (DataW.weightsEach Tryd.prog (Tryd.f7.params.toList ++ []) (ds ++ gs)).all (· ≤ reachBytes) = true) (hsh : W.ShapedOpen Tryd.prog) (hL : laidMetH Tryd.prog Rows.rollOthersRow.laid W) :
    Calls Tryd.prog 7 args W fun e W' => ∃ v, e = .returned v ∧ Rows.rollOthersSpec.post enc Tryd.prog Tryd.f7 false true false false W args v W' := by
  have hW' := hW
  obtain ⟨p, q, hA0, hV, rfl, hfz, hnd⟩ := hW
  have hA : DataW.TrodAll enc Tryd.prog W 0 (fun _ => true) true Tryd.f7.params.toList args.toList ds p := hA0
  rw [Tryd.params7] at hA hval
  obtain ⟨v0, vs0, d0, ds0, p0, q0, hargs, rfl, rfl, h0, r0⟩ := trodAll_cons hA
  obtain ⟨v1, vs1, d1, ds1, p1, q1, rfl, rfl, rfl, h1, r1⟩ := trodAll_cons r0
  obtain ⟨rfl, rfl, rfl⟩ := trodAll_nil r1
  obtain rfl : args = #[v0, v1] := by cases args; simp_all
  obtain ⟨rfl, rfl⟩ := trodVars_none hV
  obtain ⟨x0, rfl, rfl, rfl, wf0⟩ := open_int Tryd.underlying3 (hval 0 3 v0 rfl rfl) h0
  obtain ⟨x1, rfl, rfl, rfl, wf1⟩ := open_int Tryd.underlying2 (hval 1 2 v1 rfl rfl) h1
  clear hA0
  refine (rollOthers_walk x0 x1 W wf0 wf1 hsh (Vars.mk (table0 hL) (table1 hL) (table2 hL) (table3 hL) (table4 hL))).mono fun e W' ⟨he, bel⟩ => ?_
  subst he
  exact ⟨_, rfl, _, _, _, [], _, [], hW', trodAll_mk1 (shut_bool Tryd.underlying4 _), ((trodAll_cons_mk (shut_int Tryd.underlying3 wf0)
    (trodAll_cons_mk (shut_int Tryd.underlying2 wf1) trodAll_mk0))), rfl, bel.frame _, fun h => by cases h⟩
noncomputable def laidWorld (os : Os) : World :=
  { World.holding Tryd.prog os ⟨#[], #[], []⟩ with heap := ((((((World.holding Tryd.prog os ⟨#[], #[], []⟩).heap.modify 2 (fun
      | .cells _ t frozen => .cells #[.int .i64 271672320, .int .i64 279750992, .int .i64 284866528, .int .i64 289982064, .int .i64 295097600, .int .i64 300213136, .int .i64 305328672, .int .i64 310444208, .int .i64 315559744, .int .i64 320675280, .int .i64 325790816, .int .i64 330906352, .int .i64 336021888, .int .i64 341137424, .int .i64 346252960, .int .i64 351368496, .int .i64 356484032, .int .i64 361599568, .int .i64 366715104, .int .i64 411830640] t frozen
      | o => o)).modify 0 (fun
      | .cells _ t frozen => .cells #[.int .i64 32768, .int .i64 2000000, .int .i64 3000000, .int .i64 4000000, .int .i64 5000000, .int .i64 6000000, .int .i64 7000000, .int .i64 8000000, .int .i64 9000000, .int .i64 10000000, .int .i64 11000000, .int .i64 12000000, .int .i64 13000000, .int .i64 14000000, .int .i64 15000000, .int .i64 16000000, .int .i64 17000000, .int .i64 18000000, .int .i64 19000000, .int .i64 20000000, .int .i64 21000000, .int .i64 22000000, .int .i64 23000000, .int .i64 24000000, .int .i64 25000000, .int .i64 26000000, .int .i64 27000000, .int .i64 28000000, .int .i64 29000000, .int .i64 30000000, .int .i64 31000000, .int .i64 100000000] t frozen
      | o => o)).modify 4 (fun
      | .cells _ t frozen => .cells #[.int .i64 432920000, .int .i64 444020992, .int .i64 451206528, .int .i64 458392064, .int .i64 465577600, .int .i64 472763136, .int .i64 479948672, .int .i64 487134208, .int .i64 494319744, .int .i64 501505280, .int .i64 508690816, .int .i64 515876352, .int .i64 523061888, .int .i64 530247424, .int .i64 537432960, .int .i64 545618496, .int .i64 518134032, .int .i64 526269568, .int .i64 533455104, .int .i64 580610000] t frozen
      | o => o)).modify 3 (fun
      | .cells _ t frozen => .cells #[.int .i64 625000, .int .i64 2122500, .int .i64 3145000, .int .i64 4167500, .int .i64 5190000, .int .i64 6212500, .int .i64 7235000, .int .i64 8257500, .int .i64 9280000, .int .i64 10302500, .int .i64 11325000, .int .i64 12347500, .int .i64 13370000, .int .i64 14392500, .int .i64 15415000, .int .i64 16937500] t frozen
      | o => o)).modify 1 (fun
      | .cells _ t frozen => .cells #[.int .i64 800000, .int .i64 2312500, .int .i64 3325000, .int .i64 4337500, .int .i64 5350000, .int .i64 6362500, .int .i64 7375000, .int .i64 8387500, .int .i64 9400000, .int .i64 10412500, .int .i64 11425000, .int .i64 12437500, .int .i64 13450000, .int .i64 14462500, .int .i64 15475000, .int .i64 16487500, .int .i64 17500000, .int .i64 18512500, .int .i64 19525000, .int .i64 20537500, .int .i64 21550000, .int .i64 22562500, .int .i64 23575000, .int .i64 25000000] t frozen
      | o => o)) }
theorem laid_met (os : Os) : laidMet Tryd.prog Rows.rollOthersRow.laid ((laidWorld os).forCall (fun _ _ => 0) ⟨#[], #[.int .i64 0, .int .i64 0], []⟩).memory :=
  laidMet_of_run' 8 (by kernel_rfl) (by kernel_rfl)
theorem reads (os : Os) {H : Type} (enc : TypeId × Value → H) : ∃ places, DataW.whole enc Tryd.prog ((laidWorld os).forCall (fun _ _ => 0) ⟨#[], #[.int .i64 0, .int .i64 0], []⟩).memory Tryd.f7.params.toList Rows.rollOthersSpec.vars false (#[.int .i64 0, .int .i64 0] : Array Value).toList 8 = some ([.lit (.int .i64 0), .lit (.int .i64 0)], [], places) :=
  ⟨[], by kernel_rfl⟩
set_option maxRecDepth 100000 in
theorem lifted (os : Os) (started : os.Started) (H : Type) (enc : TypeId × Value → H) (F : Stop.Interp) :
    ReturnsInHanded {} Tryd.checked os 7 .any ((OpenSpec.ofChange Rows.rollOthersSpec).preRow enc Tryd.prog Tryd.f7 Rows.rollOthersRow.domain false Rows.rollOthersRow.laid) (((OpenSpec.ofChange Rows.rollOthersSpec).at F).post enc Tryd.prog Tryd.f7 false true false false) := by
  obtain ⟨places, hx⟩ := reads os enc
  refine returnsInHanded_of_row (C := Tryd.checked) (s := OpenSpec.ofChange Rows.rollOthersSpec) own started (by kernel_rfl) Tryd.func7
    (witness_row_at (enc := enc) (C := Tryd.checked) false (laidWorld os) #[.int .i64 0, .int .i64 0] rfl (by kernel_rfl) (by kernel_rfl) (by kernel_rfl)
      (OpenSpec.preRow_of_cond 8 hx (by kernel_rfl) (fun k hk => by cases hk) (by kernel_rfl) (laid_met os))) ?_
  intro W base args ds gs before hval hW _ hcond hsz hL hsh _
  exact contract H enc W base args ds gs before hval hW hsz hsh hL
theorem said : Rows.RollOthersSaid :=
  OpenClaim.holds_of_cond 7 Tryd.f7 rfl rfl rfl rfl rfl rfl rfl ⟨rfl, rfl, rfl, rfl, rfl⟩ rfl rfl rfl rfl rfl (by kernel_rfl) Tryd.func7 (by kernel_rfl)
    (of_decide_eq_true (by kernel_rfl)) (by unfold Func.isWrapper; first | (rw [if_pos (by decide +kernel)]; kernel_rfl) | (rw [if_neg (by decide +kernel)]; exact ⟨rfl, rfl⟩))
    (fun os started H enc _ F => by rw [OpenClaim.pre_eq_preRow]; exact lifted os started H enc F)
theorem plain (f : FuncId) (fn : Func) (hf : Tryd.pinned.checked.prog.funcNamed "reveille/reveillelaw13.RollOthers" = some f) (hfn : Tryd.pinned.checked.prog.funcs[f]? = some fn) :
    false = Tryd.pinned.checked.prog.looks [] ∧ ∀ (j : Nat) t, fn.params[j]? = some t → Tryd.pinned.checked.prog.wantsStandIn t = false := by
  obtain rfl : f = 7 := Option.some.inj ((show Tryd.prog.funcNamed "reveille/reveillelaw13.RollOthers" = some 7 by kernel_rfl).symm.trans hf) |>.symm
  obtain rfl : fn = Tryd.f7 := (Option.some.inj (Tryd.func7.symm.trans hfn)).symm
  refine ⟨by kernel_rfl, fun j t ht => ?_⟩
  rw [Tryd.params7] at ht
  have hm : t ∈ ([3, 2] : List Nat) := by simpa using Array.mem_of_getElem? ht
  simp only [List.mem_cons, List.not_mem_nil, or_false] at hm
  rcases hm with rfl | rfl
  · exact (show Tryd.prog.wantsStandIn 3 = false by kernel_rfl)
  · exact (show Tryd.prog.wantsStandIn 2 = false by kernel_rfl)
theorem card : Rows.RollOthersCardSaid :=
  Claim7.holds_tied_plain_at .later [] _ _ _ _ said (fun _ h => by cases h) (by kernel_rfl) (fun _ h => by cases h) rollOthers_row_tie rfl ⟨rfl, rfl⟩ (by kernel_rfl) rfl plain (by kernel_rfl)
#print axioms card
end Go.Proofs.YtlgbmjdlgjdolaaDoor.rollOthers
