/- The document's bag walked: Keep. -/
import Derived.Test.YtnkababhgloclaaRBagV
namespace Go.Proofs.Ytnkababhgloclaa
open Go.RowKit Go.ChangeShapes
set_option maxHeartbeats 4000000 in
set_option maxRecDepth 100000 in
theorem rkeep_of {w : World} {m : Nat} {id code : Int} {R : World → Prop} (hR : ∀ w1 w2, R w1 → Below w1.heap.size w1 w2 → R w2) (CU0 : Calls Try.prog 38 #[.pointer (some ⟨m, 0, none⟩), .int .i64 id] w fun e w' => ∃ t : RT, e = .returned (.tuple #[.agg #[.int .i64 t.id, .bool t.mark, .string t.name, .int .i64 t.code, .bool t.pan, .string t.word], .int .i64 code]) ∧ R w') :
    Calls Try.prog 40 #[.pointer (some ⟨m, 0, none⟩), .int .i64 id] w fun e w' => e = .returned (.int .i64 code) ∧ R w' := by
  have CU := Lib.hid CU0
  have HR := Lib.hid hR
  clear CU0 hR
  go_enter Try.func40, Try.ntmps40
  go_wp2_with fail
  refine CU.out.mono ?_
  rintro e w1 ⟨⟨tid, tm, tn, tc, tp, tw⟩, rfl, hr⟩
  simp only
  have RR := Lib.hid hr
  have TH := Lib.hid (zt6_there w1)
  clear hr CU
  go_wp2_with (refine wpList_store_all (by rfl) 92 (.tmp 5) (.tmp 11) (by rfl) w1.heap.size 0 [.int .i64 tid, .bool tm, .string tn, .int .i64 tc, .bool tp, .string tw] (by kernel_rfl) (by kernel_rfl) TH.out (by kernel_rfl) (rc6_one [⟨tid, tm, tn, tc, tp, tw⟩]) ?_)
  intro W9 HW9
  have FIN : Hid (R W9) := Lib.hid (HR.out w1 W9 RR.out (by
    rw [HW9.out]
    exact ((Below.refl w1.heap.size w1).alloc (Nat.le_refl _) _).trans (below_lay (Nat.le_refl _) _ _ _)))
  clear HW9 TH RR
  go_wp2_with fail
  go_ret
  exact ⟨rfl, FIN.out⟩
theorem rkeep_done {w : World} {B m : Nat} {L : List RT} {last : Int} (h : RBagAt w B m L last true) (id : Int) :
    Calls Try.prog 40 #[.pointer (some ⟨m, 0, none⟩), .int .i64 id] w fun e w' => e = .returned (.int .i64 5) ∧ Below w.heap.size w w' :=
  rkeep_of (fun w1 w2 h1 h2 => h1.trans (h2.mono h1.size)) ((rundo_done h id).mono fun e w' he => ⟨⟨0, false, ⟨#[]⟩, 0, false, ⟨#[]⟩⟩, he.1, he.2⟩)
theorem rkeep_none {w : World} {B m : Nat} {L : List RT} {last : Int} (h : RBagAt w B m L last false) (hl : L.length ≤ 256) (id : Int) (hp : posR L id false = none) :
    Calls Try.prog 40 #[.pointer (some ⟨m, 0, none⟩), .int .i64 id] w fun e w' => e = .returned (.int .i64 6) ∧ Below w.heap.size w w' :=
  rkeep_of (fun w1 w2 h1 h2 => h1.trans (h2.mono h1.size)) ((rundo_none h hl id hp).mono fun e w' he => ⟨⟨0, false, ⟨#[]⟩, 0, false, ⟨#[]⟩⟩, he.1, he.2⟩)
theorem rkeep_some {w : World} {B m : Nat} {L : List RT} {last : Int} (h : RBagAt w B m L last false) (hl : L.length ≤ 256) (hB : B ≤ w.heap.size) (id : Int) (i : Nat) (hp : posR L id false = some i) :
    Calls Try.prog 40 #[.pointer (some ⟨m, 0, none⟩), .int .i64 id] w fun e w' => e = .returned (.int .i64 0) ∧ RBagAt w' B m (L.eraseIdx i) last false ∧ Rel B (SD m) w w' :=
  rkeep_of (R := fun w' => RBagAt w' B m (L.eraseIdx i) last false ∧ Rel B (SD m) w w') (fun w1 w2 h1 h2 => ⟨h1.1.below h2, h1.2.trans (Rel.below h2)⟩) ((rundo_some h hl hB id i hp _ (List.getElem?_eq_getElem (posR_lt hp).1)).mono fun e w' he => ⟨_, he.1, he.2.1, he.2.2.1.mono (fun _ _ h => SM_SD h) (Nat.le_refl _)⟩)
end Go.Proofs.Ytnkababhgloclaa
