/- SupplyStands: for every input the law returns true and its arguments read as before; the card ties the listed variables to the program text. -/
import Derived.Test.YtnomamimpnogpaaDoorSupplyStandsW
import Derived.Test.YtnomamimpnogpaaDoorCards
import Derived.Test.YtnomamimpnogpaaDoorTie
import Derived.WalkKit
import Derived.ProofKit
import Derived.OpenShut
import Derived.Deep.DeepHandedRow
import Derived.Lib.LaidTab
import Derived.Below
import Derived.Carry
import Derived.SizedLaws
import Derived.Stop.LaidErr
namespace Go.Proofs.YtnomamimpnogpaaDoor.supplyStands
open Go.ChangeShapes Go.WideShapes Go.ChangeAt Go.RowKit
set_option linter.unusedVariables false
theorem own : ownKnob Tryd.prog.godebug = none := by kernel_rfl
theorem laidOut : laidOutB Tryd.prog = true := by kernel_rfl
theorem g0 : Tryd.prog.globalNamed "reveille/crystal.table" = some 1 := by kernel_rfl
theorem g0T : (Tryd.prog.globals[1]?).map (·.type) = some 71 := by kernel_rfl
theorem g0c : Tryd.prog.cellsOf 71 = 32 := by kernel_rfl
theorem g0e : Tryd.prog.cellsOf 2 = 1 := by kernel_rfl
theorem table0 {W : World} (h : laidMetH Tryd.prog Rows.supplyStandsRow.laid W) : Lib.TabIs Tryd.prog W "reveille/crystal.table" .i64 [32768, 2000000, 3000000, 4000000, 5000000, 6000000, 7000000, 8000000, 9000000, 10000000, 11000000, 12000000, 13000000, 14000000, 15000000, 16000000, 17000000, 18000000, 19000000, 20000000, 21000000, 22000000, 23000000, 24000000, 25000000, 26000000, 27000000, 28000000, 29000000, 30000000, 31000000, 100000000] :=
  Lib.tabIs_of_head g0 g0T Tryd.underlying71 Tryd.underlying2 g0e g0c (h)
theorem g1 : Tryd.prog.globalNamed "reveille/supply.table" = some 0 := by kernel_rfl
theorem g1T : (Tryd.prog.globals[0]?).map (·.type) = some 36 := by kernel_rfl
theorem g1c : Tryd.prog.cellsOf 36 = 24 := by kernel_rfl
theorem g1e : Tryd.prog.cellsOf 2 = 1 := by kernel_rfl
theorem table1 {W : World} (h : laidMetH Tryd.prog Rows.supplyStandsRow.laid W) : Lib.TabIs Tryd.prog W "reveille/supply.table" .i64 [800000, 2312500, 3325000, 4337500, 5350000, 6362500, 7375000, 8387500, 9400000, 10412500, 11425000, 12437500, 13450000, 14462500, 15475000, 16487500, 17500000, 18512500, 19525000, 20537500, 21550000, 22562500, 23575000, 25000000] :=
  Lib.tabIs_of_head g1 g1T Tryd.underlying36 Tryd.underlying2 g1e g1c (laidMet.tail (h))
set_option maxRecDepth 100000 in
theorem contract (H : Type) (enc : TypeId × Value → H) (W : World) (base : Nat) (args : Array Value) (ds gs : List (DataW H)) (before : List MemPlace)
    (hval : ∀ (j : Nat) t v, Tryd.f9.params[j]? = some t → args[j]? = some v → Value.okWide Tryd.prog W .any base t v)
    (hW : DataW.Whole enc Tryd.prog Tryd.f9.params.toList Rows.supplyStandsSpec.vars false W args.toList ds gs before)
    (hsz : (DataW.weightsEach Tryd.prog (Tryd.f9.params.toList ++ []) (ds ++ gs)).all (· ≤ reachBytes) = true) (hsh : W.ShapedOpen Tryd.prog) (hL : laidMetH Tryd.prog Rows.supplyStandsRow.laid W) :
    Calls Tryd.prog 9 args W fun e W' => ∃ v, e = .returned v ∧ Rows.supplyStandsSpec.post enc Tryd.prog Tryd.f9 false true false false W args v W' := by
  have hW' := hW
  obtain ⟨p, q, hA0, hV, rfl, hfz, hnd⟩ := hW
  have hA : DataW.TrodAll enc Tryd.prog W 0 (fun _ => true) true Tryd.f9.params.toList args.toList ds p := hA0
  rw [Tryd.params9] at hA hval
  obtain ⟨hargs, rfl, rfl⟩ := trodAll_nil hA
  obtain rfl : args = #[] := by cases args; simp_all
  obtain ⟨rfl, rfl⟩ := trodVars_none hV
  clear hA0
  refine (supplyStands_walk  W  hsh (Vars.mk (table0 hL) (table1 hL))).mono fun e W' ⟨he, bel⟩ => ?_
  subst he
  exact ⟨_, rfl, _, _, _, [], [], [], hW', trodAll_mk1 (shut_bool Tryd.underlying4 _), (trodAll_mk0), rfl, bel.frame _, fun h => by cases h⟩
noncomputable def laidWorld (os : Os) : World :=
  { World.holding Tryd.prog os ⟨#[], #[], []⟩ with heap := (((World.holding Tryd.prog os ⟨#[], #[], []⟩).heap.modify 1 (fun
      | .cells _ t frozen => .cells #[.int .i64 32768, .int .i64 2000000, .int .i64 3000000, .int .i64 4000000, .int .i64 5000000, .int .i64 6000000, .int .i64 7000000, .int .i64 8000000, .int .i64 9000000, .int .i64 10000000, .int .i64 11000000, .int .i64 12000000, .int .i64 13000000, .int .i64 14000000, .int .i64 15000000, .int .i64 16000000, .int .i64 17000000, .int .i64 18000000, .int .i64 19000000, .int .i64 20000000, .int .i64 21000000, .int .i64 22000000, .int .i64 23000000, .int .i64 24000000, .int .i64 25000000, .int .i64 26000000, .int .i64 27000000, .int .i64 28000000, .int .i64 29000000, .int .i64 30000000, .int .i64 31000000, .int .i64 100000000] t frozen
      | o => o)).modify 0 (fun
      | .cells _ t frozen => .cells #[.int .i64 800000, .int .i64 2312500, .int .i64 3325000, .int .i64 4337500, .int .i64 5350000, .int .i64 6362500, .int .i64 7375000, .int .i64 8387500, .int .i64 9400000, .int .i64 10412500, .int .i64 11425000, .int .i64 12437500, .int .i64 13450000, .int .i64 14462500, .int .i64 15475000, .int .i64 16487500, .int .i64 17500000, .int .i64 18512500, .int .i64 19525000, .int .i64 20537500, .int .i64 21550000, .int .i64 22562500, .int .i64 23575000, .int .i64 25000000] t frozen
      | o => o)) }
theorem laid_met (os : Os) : laidMet Tryd.prog Rows.supplyStandsRow.laid ((laidWorld os).forCall (fun _ _ => 0) ⟨#[], #[], []⟩).memory :=
  laidMet_of_run' 8 (by kernel_rfl) (by kernel_rfl)
theorem reads (os : Os) {H : Type} (enc : TypeId × Value → H) : ∃ places, DataW.whole enc Tryd.prog ((laidWorld os).forCall (fun _ _ => 0) ⟨#[], #[], []⟩).memory Tryd.f9.params.toList Rows.supplyStandsSpec.vars false (#[] : Array Value).toList 8 = some ([], [], places) :=
  ⟨[], by kernel_rfl⟩
set_option maxRecDepth 100000 in
theorem lifted (os : Os) (started : os.Started) (H : Type) (enc : TypeId × Value → H) (F : Stop.Interp) :
    ReturnsInHanded {} Tryd.checked os 9 .any ((OpenSpec.ofChange Rows.supplyStandsSpec).preRow enc Tryd.prog Tryd.f9 Rows.supplyStandsRow.domain false Rows.supplyStandsRow.laid) (((OpenSpec.ofChange Rows.supplyStandsSpec).at F).post enc Tryd.prog Tryd.f9 false true false false) := by
  obtain ⟨places, hx⟩ := reads os enc
  refine returnsInHanded_of_row (C := Tryd.checked) (s := OpenSpec.ofChange Rows.supplyStandsSpec) own started (by kernel_rfl) Tryd.func9
    (witness_row_at (enc := enc) (C := Tryd.checked) false (laidWorld os) #[] rfl (by kernel_rfl) (by kernel_rfl) (by kernel_rfl)
      (OpenSpec.preRow_of_cond 8 hx (by kernel_rfl) (fun k hk => by cases hk) (by kernel_rfl) (laid_met os))) ?_
  intro W base args ds gs before hval hW _ hcond hsz hL hsh _
  exact contract H enc W base args ds gs before hval hW hsz hsh hL
theorem said : Rows.SupplyStandsSaid :=
  OpenClaim.holds_of_cond 9 Tryd.f9 rfl rfl rfl rfl rfl rfl rfl ⟨rfl, rfl, rfl, rfl, rfl⟩ rfl rfl rfl rfl rfl (by kernel_rfl) Tryd.func9 (by kernel_rfl)
    (of_decide_eq_true (by kernel_rfl)) (by unfold Func.isWrapper; first | (rw [if_pos (by decide +kernel)]; kernel_rfl) | (rw [if_neg (by decide +kernel)]; exact ⟨rfl, rfl⟩))
    (fun os started H enc _ F => by rw [OpenClaim.pre_eq_preRow]; exact lifted os started H enc F)
theorem plain (f : FuncId) (fn : Func) (hf : Tryd.pinned.checked.prog.funcNamed "reveille/reveillelaw09.SupplyStands" = some f) (hfn : Tryd.pinned.checked.prog.funcs[f]? = some fn) :
    false = Tryd.pinned.checked.prog.looks [] ∧ ∀ (j : Nat) t, fn.params[j]? = some t → Tryd.pinned.checked.prog.wantsStandIn t = false := by
  obtain rfl : f = 9 := Option.some.inj ((show Tryd.prog.funcNamed "reveille/reveillelaw09.SupplyStands" = some 9 by kernel_rfl).symm.trans hf) |>.symm
  obtain rfl : fn = Tryd.f9 := (Option.some.inj (Tryd.func9.symm.trans hfn)).symm
  refine ⟨by kernel_rfl, fun j t ht => ?_⟩
  rw [Tryd.params9] at ht
  simp at ht
theorem card : Rows.SupplyStandsCardSaid :=
  Claim7.holds_tied_plain_at .later [] _ _ _ _ said (fun _ h => by cases h) (by kernel_rfl) (fun _ h => by cases h) supplyStands_row_tie rfl ⟨rfl, rfl⟩ (by kernel_rfl) rfl plain (by kernel_rfl)
#print axioms card
end Go.Proofs.YtnomamimpnogpaaDoor.supplyStands
