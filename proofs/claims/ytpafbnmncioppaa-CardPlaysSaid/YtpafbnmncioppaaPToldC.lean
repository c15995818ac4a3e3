/- Does a registry tell what the document's has? The law's told. (Printed by tools/gentold.py.) -/
import Derived.Test.YtpafbnmncioppaaPWeakC
import Derived.Test.YtpafbnmncioppaaPRegQ
import Derived.Test.YtpafbnmncioppaaSameAllC
import Derived.Deep.DeepCutAuto
import Derived.Deep.CutBlock
namespace Go.Proofs.Ytpafbnmncioppaa
open Go.RowKit Go.ChangeShapes Nm
set_option maxHeartbeats 16000000 in
set_option maxRecDepth 100000 in
theorem told_any (T T2 : Nat → Prop) (B b m : Nat) (cs rs : List Cd) (ns : List Nt) (fz : Bool) (w : World) (h : RegN T w B b cs rs ns fz) (h2 : RReg T2 w B m cs rs ns fz) (hB : B ≤ w.heap.size) (hn : ns.length ≤ 256) (hcs : cs.length ≤ 64) (hrs : rs.length ≤ 64) (hmc : ∀ c ∈ cs, c.comp.length ≤ 8796093022208) (hmr : ∀ c ∈ rs, c.comp.length ≤ 8796093022208) :
    Calls Try.prog 26 #[.pointer (some ⟨b, 0, none⟩), .pointer (some ⟨m, 0, none⟩)] w (GivesB true w) := by
  letI : RE := NE ns T
  have H1 := Lib.hid h
  obtain ⟨h0, vc, vr, vn, g1, g2, g3, ⟨g4, g5⟩, g6⟩ := h2
  have hmlt : m < w.heap.size := (Array.getElem?_eq_some_iff.1 g1).1
  have CELL : Hid (∀ w', Below w.heap.size w w' → w'.heap[m]? = some (.cells #[vc, vr, vn, .bool fz] 58 (0, 0))) := Lib.hid (fun w' hb => (hb.block m hmlt).trans g1)
  have CC : Hid (∀ w', Below w.heap.size w w' → CardsAt w' vc cs) := Lib.hid (fun w' hb => (g2.below hb).cards hcs hmc)
  have CR : Hid (∀ w', Below w.heap.size w w' → CardsAt w' vr rs) := Lib.hid (fun w' hb => (g3.below hb).cards hrs hmr)
  have CN : Hid (∀ w', Below w.heap.size w w' → NotesR w' vn ns) := Lib.hid (fun w' hb => notes_own (own_below g4 hb))
  have HMC := Lib.hid hmc
  have HMR := Lib.hid hmr
  clear h h0 g1 g2 g3 g4 g5 g6 hmlt hmc hmr
  go_enter Try.func26, Try.ntmps26
  go_wp2_with fail
  go_loopg [5] 2 (fun r vi wr => ∃ k : Nat, k ≤ 2 ∧ r = 2 - k ∧ vi = .int .i64 k ∧ Hid (Below w.heap.size w wr))
  case atStart => exact ⟨0, by omega, by omega, rfl, Lib.hid (Below.refl _ _)⟩
  case round =>
    obtain ⟨k, hk, hr, rfl, B0⟩ := hrel
    have HR := Lib.hid hr
    clear hr
    by_cases hlt : k < 2
    · have hkc1 : (0 : Int) ≤ (k : Int) := by omega
      have hkc2 : (k : Int) < 2 := by omega
      go_wp2_with fail
      refine (cards_any b B cs rs fz wr (Reg.below H1.out B0.out) (fun i hi => HMC.out _ (List.getElem_mem hi))).mono ?_
      rintro er w1 ⟨va, la, rfl, hla, oa, ra, hb⟩
      obtain ⟨aa, ca, rfl⟩ := own_slice oa
      have B1 := Lib.hid (B0.out.trans (hb.mono B0.out.size))
      have OA := Lib.hid (own_base oa B0.out.size)
      have RA : Hid (RowsOf w1 w.heap.size la) := Lib.hid (fun r hr => own_base (ra r hr) B0.out.size)
      have HLA := Lib.hid hla
      clear oa ra hb hla
      go_wp2_with fail
      refine (refused_any b B cs rs fz w1 (Reg.below H1.out B1.out) (fun i hi => HMR.out _ (List.getElem_mem hi))).mono ?_
      rintro er w2 ⟨vb, lb, rfl, hlb, ob, rb, hb⟩
      obtain ⟨ab, cb, rfl⟩ := own_slice ob
      have B2 := Lib.hid (B1.out.trans (hb.mono B1.out.size))
      have OB := Lib.hid (own_base ob B1.out.size)
      have RB : Hid (RowsOf w2 w.heap.size lb) := Lib.hid (fun r hr => own_base (rb r hr) B1.out.size)
      have HLB := Lib.hid hlb
      have OA2 := Lib.hid (own_below OA.out hb)
      have RA2 := Lib.hid (RA.out.below hb)
      clear ob rb hb hlb OA RA
      go_wp2_with fail
      refine (notes_any T b B cs rs ns fz w2 (RegN.below H1.out B2.out)).mono ?_
      rintro er w3 ⟨vd, ad, cd, rfl, rfl, od, hb⟩
      have B3 := Lib.hid (B2.out.trans (hb.mono B2.out.size))
      have OD := Lib.hid (own_base od B2.out.size)
      have OA3 := Lib.hid (own_below OA2.out hb)
      have RA3 := Lib.hid (RA2.out.below hb)
      have OB3 := Lib.hid (own_below OB.out hb)
      have RB3 := Lib.hid (RB.out.below hb)
      clear od hb OA2 RA2 OB RB
      go_upto_region 7 with fail
      go_cut [57] (fun t wx => t = .bool false ∧ Hid (Below w3.heap.size w3 wx))
      case first => as_aux_lemma => --ok
        have CA : Hid (CardsAt w3 (.slice aa la.length ca) cs) := Lib.hid (CRow.cards (T := fun _ => True) (B := w.heap.size) ⟨la, HLA.out, OA3.out, RA3.out, fun _ _ => trivial, fun _ _ _ _ => trivial⟩ hcs HMC.out)
        have CB : Hid (CardsAt w3 (.slice ab lb.length cb) rs) := Lib.hid (CRow.cards (T := fun _ => True) (B := w.heap.size) ⟨lb, HLB.out, OB3.out, RB3.out, fun _ _ => trivial, fun _ _ _ _ => trivial⟩ hrs HMR.out)
        have CD : Hid (NotesR w3 (.slice ad ns.length cd) ns) := Lib.hid (notes_own OD.out)
        have BT : Hid (∀ w', Below w3.heap.size w3 w' → Below w.heap.size w w') := Lib.hid (fun w' hb => B3.out.trans (hb.mono B3.out.size))
        have S1 : Hid (∀ w', Below w3.heap.size w3 w' → Calls Try.prog 19 #[.slice aa la.length ca, vc] w' (GivesB true w')) := Lib.hid (fun w' hb => by
          have := sameCards_any (.slice aa la.length ca) vc cs cs w' (CA.out.below hb) (CC.out _ (BT.out _ hb))
          rwa [sameAll_self] at this)
        have S2 : Hid (∀ w', Below w3.heap.size w3 w' → Calls Try.prog 19 #[.slice ab lb.length cb, vr] w' (GivesB true w')) := Lib.hid (fun w' hb => by
          have := sameCards_any (.slice ab lb.length cb) vr rs rs w' (CB.out.below hb) (CR.out _ (BT.out _ hb))
          rwa [sameAll_self] at this)
        have S3 : Hid (∀ w', Below w3.heap.size w3 w' → Calls Try.prog 43 #[.slice ad ns.length cd, vn] w' (GivesB true w')) := Lib.hid (fun w' hb => sameNotes_any (.slice ad ns.length cd) vn ns w' (CD.out.below hb) (CN.out _ (BT.out _ hb)) hn)
        have S4 : Hid (∀ w', Below w3.heap.size w3 w' → Calls Try.prog 34 #[.pointer (some ⟨b, 0, none⟩)] w' fun e w'' => e = .returned (.bool fz) ∧ w'' = w') := Lib.hid (fun w' hb => frozen_any b B cs rs fz w' (Reg.below H1.out (BT.out _ hb)))
        have EF : decide (fz = fz) = true := by simp
        have c0 : w3.cell? ⟨m, 0, none⟩ = some vc := (cell_of_row _ m 0 _ _ _ (CELL.out _ B3.out)).trans rfl
        have BZ : Hid (Below w3.heap.size w3 w3.drew) := Lib.hid ((Below.refl _ _).drew)
        refine wp_region_any (by kernel_rfl) ?_
        refine wpAny_take (i := 0) (v := ?_) rfl (by kernel_rfl) (by kernel_rfl) (by kernel_rfl) (fun _ _ _ h => h) (Or.inl ⟨by kernel_rfl, ?_⟩) ?_
        rotate_left
        · intro w
          go_simp
          try with_reducible rfl
        simp only [Act.put, List.getElem_toArray, List.getElem_cons_zero, List.getElem_cons_succ, List.setIfInBounds_toArray, List.set_cons_zero, List.set_cons_succ]
        refine wpAny_take (i := 1) (v := ?_) rfl (by kernel_rfl) (by kernel_rfl) (by kernel_rfl) (fun _ _ _ h => h) (Or.inl ⟨by kernel_rfl, ?_⟩) ?_
        rotate_left
        · intro w
          go_simp
          try with_reducible rfl
        simp only [Act.put, List.getElem_toArray, List.getElem_cons_zero, List.getElem_cons_succ, List.setIfInBounds_toArray, List.set_cons_zero, List.set_cons_succ]
        refine wpAny_take (i := 2) (v := ?_) rfl (by kernel_rfl) (by kernel_rfl) (by kernel_rfl) (fun _ _ _ h => h) (Or.inl ⟨by kernel_rfl, ?_⟩) ?_
        rotate_left
        · intro w
          go_simp
          try with_reducible rfl
        simp only [Act.put, List.getElem_toArray, List.getElem_cons_zero, List.getElem_cons_succ, List.setIfInBounds_toArray, List.set_cons_zero, List.set_cons_succ]
        refine wpAny_take (i := 3) (v := ?_) rfl (by kernel_rfl) (by kernel_rfl) (by kernel_rfl) (fun _ _ _ h => h) (Or.inl ⟨by kernel_rfl, ?_⟩) ?_
        rotate_left
        · intro w
          go_simp
          try with_reducible rfl
        simp only [Act.put, List.getElem_toArray, List.getElem_cons_zero, List.getElem_cons_succ, List.setIfInBounds_toArray, List.set_cons_zero, List.set_cons_succ]

        refine wpAny_ready (rs := [4]) (by kernel_rfl) (by simp) (AllReady.cons rfl (fun K hK => ?_) AllReady.nil)
        go_simp
        refine hK _ _ ?_
        clear hK K
        try simp only [Act.put, List.setIfInBounds_toArray, List.set_cons_zero, List.set_cons_succ]
        refine wpAny_ready (rs := [5]) (by kernel_rfl) (by simp) (AllReady.cons rfl (fun K hK => ?_) AllReady.nil)
        go_simp
        refine (S1.out _ BZ.out).mono ?_
        rintro er w4 ⟨rfl, hb⟩
        replace BZ := Lib.hid (BZ.out.trans (hb.mono BZ.out.size))
        have c1 : w4.cell? ⟨m, 1, none⟩ = some vr := (cell_of_row _ m 1 _ _ _ (CELL.out _ (BT.out _ BZ.out))).trans rfl
        clear hb
        go_simp
        refine hK _ _ ?_
        clear hK K
        try simp only [Act.put, List.setIfInBounds_toArray, List.set_cons_zero, List.set_cons_succ]
        refine wpAny_take (i := 6) (v := ?_) rfl (by kernel_rfl) (by kernel_rfl) (by kernel_rfl) (fun _ _ _ h => h) (Or.inl ⟨by kernel_rfl, ?_⟩) ?_
        rotate_left
        · intro w
          go_simp
          try with_reducible rfl
        simp only [Act.put, List.getElem_toArray, List.getElem_cons_zero, List.getElem_cons_succ, List.setIfInBounds_toArray, List.set_cons_zero, List.set_cons_succ]
        refine wpAny_take (i := 7) (v := ?_) rfl (by kernel_rfl) (by kernel_rfl) (by kernel_rfl) (fun _ _ _ h => h) (Or.inl ⟨by kernel_rfl, ?_⟩) ?_
        rotate_left
        · intro w
          go_simp
          try with_reducible rfl
        simp only [Act.put, List.getElem_toArray, List.getElem_cons_zero, List.getElem_cons_succ, List.setIfInBounds_toArray, List.set_cons_zero, List.set_cons_succ]
        refine wpAny_take (i := 8) (v := ?_) rfl (by kernel_rfl) (by kernel_rfl) (by kernel_rfl) (fun _ _ _ h => h) (Or.inl ⟨by kernel_rfl, ?_⟩) ?_
        rotate_left
        · intro w
          go_simp
          try with_reducible rfl
        simp only [Act.put, List.getElem_toArray, List.getElem_cons_zero, List.getElem_cons_succ, List.setIfInBounds_toArray, List.set_cons_zero, List.set_cons_succ]
        refine wpAny_take (i := 9) (v := ?_) rfl (by kernel_rfl) (by kernel_rfl) (by kernel_rfl) (fun _ _ _ h => h) (Or.inl ⟨by kernel_rfl, ?_⟩) ?_
        rotate_left
        · intro w
          go_simp
          try with_reducible rfl
        simp only [Act.put, List.getElem_toArray, List.getElem_cons_zero, List.getElem_cons_succ, List.setIfInBounds_toArray, List.set_cons_zero, List.set_cons_succ]
        refine wpAny_take (i := 10) (v := ?_) rfl (by kernel_rfl) (by kernel_rfl) (by kernel_rfl) (fun _ _ _ h => h) (Or.inl ⟨by kernel_rfl, ?_⟩) ?_
        rotate_left
        · intro w
          go_simp
          try with_reducible rfl
        simp only [Act.put, List.getElem_toArray, List.getElem_cons_zero, List.getElem_cons_succ, List.setIfInBounds_toArray, List.set_cons_zero, List.set_cons_succ]
        refine wpAny_take (i := 11) (v := ?_) rfl (by kernel_rfl) (by kernel_rfl) (by kernel_rfl) (fun _ _ _ h => h) (Or.inl ⟨by kernel_rfl, ?_⟩) ?_
        rotate_left
        · intro w
          go_simp
          try with_reducible rfl
        simp only [Act.put, List.getElem_toArray, List.getElem_cons_zero, List.getElem_cons_succ, List.setIfInBounds_toArray, List.set_cons_zero, List.set_cons_succ]
        refine wpAny_ready (rs := [12]) (by kernel_rfl) (by simp) (AllReady.cons rfl (fun K hK => ?_) AllReady.nil)
        go_simp
        refine hK _ _ ?_
        clear hK K
        try simp only [Act.put, List.setIfInBounds_toArray, List.set_cons_zero, List.set_cons_succ]
        refine wpAny_ready (rs := [13]) (by kernel_rfl) (by simp) (AllReady.cons rfl (fun K hK => ?_) AllReady.nil)
        go_simp
        refine (S2.out _ BZ.out).mono ?_
        rintro er w5 ⟨rfl, hb⟩
        replace BZ := Lib.hid (BZ.out.trans (hb.mono BZ.out.size))
        have c2 : w5.cell? ⟨m, 2, none⟩ = some vn := (cell_of_row _ m 2 _ _ _ (CELL.out _ (BT.out _ BZ.out))).trans rfl
        clear hb
        go_simp
        refine hK _ _ ?_
        clear hK K
        try simp only [Act.put, List.setIfInBounds_toArray, List.set_cons_zero, List.set_cons_succ]
        refine wpAny_take (i := 14) (v := ?_) rfl (by kernel_rfl) (by kernel_rfl) (by kernel_rfl) (fun _ _ _ h => h) (Or.inl ⟨by kernel_rfl, ?_⟩) ?_
        rotate_left
        · intro w
          go_simp
          try with_reducible rfl
        simp only [Act.put, List.getElem_toArray, List.getElem_cons_zero, List.getElem_cons_succ, List.setIfInBounds_toArray, List.set_cons_zero, List.set_cons_succ]
        refine wpAny_take (i := 15) (v := ?_) rfl (by kernel_rfl) (by kernel_rfl) (by kernel_rfl) (fun _ _ _ h => h) (Or.inl ⟨by kernel_rfl, ?_⟩) ?_
        rotate_left
        · intro w
          go_simp
          try with_reducible rfl
        simp only [Act.put, List.getElem_toArray, List.getElem_cons_zero, List.getElem_cons_succ, List.setIfInBounds_toArray, List.set_cons_zero, List.set_cons_succ]
        refine wpAny_take (i := 16) (v := ?_) rfl (by kernel_rfl) (by kernel_rfl) (by kernel_rfl) (fun _ _ _ h => h) (Or.inl ⟨by kernel_rfl, ?_⟩) ?_
        rotate_left
        · intro w
          go_simp
          try with_reducible rfl
        simp only [Act.put, List.getElem_toArray, List.getElem_cons_zero, List.getElem_cons_succ, List.setIfInBounds_toArray, List.set_cons_zero, List.set_cons_succ]
        refine wpAny_take (i := 17) (v := ?_) rfl (by kernel_rfl) (by kernel_rfl) (by kernel_rfl) (fun _ _ _ h => h) (Or.inl ⟨by kernel_rfl, ?_⟩) ?_
        rotate_left
        · intro w
          go_simp
          try with_reducible rfl
        simp only [Act.put, List.getElem_toArray, List.getElem_cons_zero, List.getElem_cons_succ, List.setIfInBounds_toArray, List.set_cons_zero, List.set_cons_succ]
        refine wpAny_take (i := 18) (v := ?_) rfl (by kernel_rfl) (by kernel_rfl) (by kernel_rfl) (fun _ _ _ h => h) (Or.inl ⟨by kernel_rfl, ?_⟩) ?_
        rotate_left
        · intro w
          go_simp
          try with_reducible rfl
        simp only [Act.put, List.getElem_toArray, List.getElem_cons_zero, List.getElem_cons_succ, List.setIfInBounds_toArray, List.set_cons_zero, List.set_cons_succ]
        refine wpAny_take (i := 19) (v := ?_) rfl (by kernel_rfl) (by kernel_rfl) (by kernel_rfl) (fun _ _ _ h => h) (Or.inl ⟨by kernel_rfl, ?_⟩) ?_
        rotate_left
        · intro w
          go_simp
          try with_reducible rfl
        simp only [Act.put, List.getElem_toArray, List.getElem_cons_zero, List.getElem_cons_succ, List.setIfInBounds_toArray, List.set_cons_zero, List.set_cons_succ]
        refine wpAny_take (i := 20) (v := ?_) rfl (by kernel_rfl) (by kernel_rfl) (by kernel_rfl) (fun _ _ _ h => h) (Or.inl ⟨by kernel_rfl, ?_⟩) ?_
        rotate_left
        · intro w
          go_simp
          try with_reducible rfl
        simp only [Act.put, List.getElem_toArray, List.getElem_cons_zero, List.getElem_cons_succ, List.setIfInBounds_toArray, List.set_cons_zero, List.set_cons_succ]
        refine wpAny_ready (rs := [21]) (by kernel_rfl) (by simp) (AllReady.cons rfl (fun K hK => ?_) AllReady.nil)
        go_simp
        refine hK _ _ ?_
        clear hK K
        try simp only [Act.put, List.setIfInBounds_toArray, List.set_cons_zero, List.set_cons_succ]
        refine wpAny_ready (rs := [22]) (by kernel_rfl) (by simp) (AllReady.cons rfl (fun K hK => ?_) AllReady.nil)
        go_simp
        refine (S3.out _ BZ.out).mono ?_
        rintro er w6 ⟨rfl, hb⟩
        replace BZ := Lib.hid (BZ.out.trans (hb.mono BZ.out.size))
        have c3 : w6.cell? ⟨m, 3, none⟩ = some (.bool fz) := (cell_of_row _ m 3 _ _ _ (CELL.out _ (BT.out _ BZ.out))).trans rfl
        clear hb
        go_simp
        refine hK _ _ ?_
        clear hK K
        try simp only [Act.put, List.setIfInBounds_toArray, List.set_cons_zero, List.set_cons_succ]
        refine wpAny_take (i := 23) (v := ?_) rfl (by kernel_rfl) (by kernel_rfl) (by kernel_rfl) (fun _ _ _ h => h) (Or.inl ⟨by kernel_rfl, ?_⟩) ?_
        rotate_left
        · intro w
          go_simp
          try with_reducible rfl
        simp only [Act.put, List.getElem_toArray, List.getElem_cons_zero, List.getElem_cons_succ, List.setIfInBounds_toArray, List.set_cons_zero, List.set_cons_succ]
        refine wpAny_take (i := 24) (v := ?_) rfl (by kernel_rfl) (by kernel_rfl) (by kernel_rfl) (fun _ _ _ h => h) (Or.inl ⟨by kernel_rfl, ?_⟩) ?_
        rotate_left
        · intro w
          go_simp
          try with_reducible rfl
        simp only [Act.put, List.getElem_toArray, List.getElem_cons_zero, List.getElem_cons_succ, List.setIfInBounds_toArray, List.set_cons_zero, List.set_cons_succ]
        refine wpAny_take (i := 25) (v := ?_) rfl (by kernel_rfl) (by kernel_rfl) (by kernel_rfl) (fun _ _ _ h => h) (Or.inl ⟨by kernel_rfl, ?_⟩) ?_
        rotate_left
        · intro w
          go_simp
          try with_reducible rfl
        simp only [Act.put, List.getElem_toArray, List.getElem_cons_zero, List.getElem_cons_succ, List.setIfInBounds_toArray, List.set_cons_zero, List.set_cons_succ]
        refine wpAny_take (i := 26) (v := ?_) rfl (by kernel_rfl) (by kernel_rfl) (by kernel_rfl) (fun _ _ _ h => h) (Or.inl ⟨by kernel_rfl, ?_⟩) ?_
        rotate_left
        · intro w
          go_simp
          try with_reducible rfl
        simp only [Act.put, List.getElem_toArray, List.getElem_cons_zero, List.getElem_cons_succ, List.setIfInBounds_toArray, List.set_cons_zero, List.set_cons_succ]
        refine wpAny_take (i := 28) (v := ?_) rfl (by kernel_rfl) (by kernel_rfl) (by kernel_rfl) (fun _ _ _ h => h) (Or.inl ⟨by kernel_rfl, ?_⟩) ?_
        rotate_left
        · intro w
          go_simp
          try with_reducible rfl
        simp only [Act.put, List.getElem_toArray, List.getElem_cons_zero, List.getElem_cons_succ, List.setIfInBounds_toArray, List.set_cons_zero, List.set_cons_succ]
        refine wpAny_take (i := 29) (v := ?_) rfl (by kernel_rfl) (by kernel_rfl) (by kernel_rfl) (fun _ _ _ h => h) (Or.inl ⟨by kernel_rfl, ?_⟩) ?_
        rotate_left
        · intro w
          go_simp
          try with_reducible rfl
        simp only [Act.put, List.getElem_toArray, List.getElem_cons_zero, List.getElem_cons_succ, List.setIfInBounds_toArray, List.set_cons_zero, List.set_cons_succ]
        refine wpAny_take (i := 30) (v := ?_) rfl (by kernel_rfl) (by kernel_rfl) (by kernel_rfl) (fun _ _ _ h => h) (Or.inl ⟨by kernel_rfl, ?_⟩) ?_
        rotate_left
        · intro w
          go_simp
          try with_reducible rfl
        simp only [Act.put, List.getElem_toArray, List.getElem_cons_zero, List.getElem_cons_succ, List.setIfInBounds_toArray, List.set_cons_zero, List.set_cons_succ]
        refine wpAny_ready (rs := [27, 31]) (by kernel_rfl) (by simp) (AllReady.cons rfl (fun K hK => ?_) (AllReady.cons rfl (fun K hK => ?_) AllReady.nil))
        · skip
          go_simp
          refine (S4.out _ BZ.out).mono ?_
          rintro er w7 ⟨rfl, rfl⟩
          go_simp
          refine hK _ _ ?_
          clear hK K
          try simp only [Act.put, List.setIfInBounds_toArray, List.set_cons_zero, List.set_cons_succ]
          refine wpAny_ready (rs := [31]) (by kernel_rfl) (by simp) (AllReady.cons rfl (fun K hK => ?_) AllReady.nil)
          go_simp
          refine hK _ _ ?_
          clear hK K
          try simp only [Act.put, List.setIfInBounds_toArray, List.set_cons_zero, List.set_cons_succ]
          refine wpAny_take (i := 32) (v := ?_) rfl (by kernel_rfl) (by kernel_rfl) (by kernel_rfl) (fun _ _ _ h => h) (Or.inl ⟨by kernel_rfl, ?_⟩) ?_
          rotate_left
          · intro w
            go_simp
            try with_reducible rfl
          simp only [Act.put, List.getElem_toArray, List.getElem_cons_zero, List.getElem_cons_succ, List.setIfInBounds_toArray, List.set_cons_zero, List.set_cons_succ]
          refine wpAny_take (i := 33) (v := ?_) rfl (by kernel_rfl) (by kernel_rfl) (by kernel_rfl) (fun _ _ _ h => h) (Or.inl ⟨by kernel_rfl, ?_⟩) ?_
          rotate_left
          · intro w
            go_simp
            try with_reducible rfl
          simp only [Act.put, List.getElem_toArray, List.getElem_cons_zero, List.getElem_cons_succ, List.setIfInBounds_toArray, List.set_cons_zero, List.set_cons_succ]
          refine wpAny_done (by kernel_rfl) ?_ _
          go_wp2_with fail
          go_meet
          exact ⟨by first | rfl | simp, BZ⟩
        · skip
          go_simp
          refine hK _ _ ?_
          clear hK K
          try simp only [Act.put, List.setIfInBounds_toArray, List.set_cons_zero, List.set_cons_succ]
          refine wpAny_ready (rs := [27]) (by kernel_rfl) (by simp) (AllReady.cons rfl (fun K hK => ?_) AllReady.nil)
          go_simp
          refine (S4.out _ BZ.out).mono ?_
          rintro er w7 ⟨rfl, rfl⟩
          go_simp
          refine hK _ _ ?_
          clear hK K
          try simp only [Act.put, List.setIfInBounds_toArray, List.set_cons_zero, List.set_cons_succ]
          refine wpAny_take (i := 32) (v := ?_) rfl (by kernel_rfl) (by kernel_rfl) (by kernel_rfl) (fun _ _ _ h => h) (Or.inl ⟨by kernel_rfl, ?_⟩) ?_
          rotate_left
          · intro w
            go_simp
            try with_reducible rfl
          simp only [Act.put, List.getElem_toArray, List.getElem_cons_zero, List.getElem_cons_succ, List.setIfInBounds_toArray, List.set_cons_zero, List.set_cons_succ]
          refine wpAny_take (i := 33) (v := ?_) rfl (by kernel_rfl) (by kernel_rfl) (by kernel_rfl) (fun _ _ _ h => h) (Or.inl ⟨by kernel_rfl, ?_⟩) ?_
          rotate_left
          · intro w
            go_simp
            try with_reducible rfl
          simp only [Act.put, List.getElem_toArray, List.getElem_cons_zero, List.getElem_cons_succ, List.setIfInBounds_toArray, List.set_cons_zero, List.set_cons_succ]
          refine wpAny_done (by kernel_rfl) ?_ _
          go_wp2_with fail
          go_meet
          exact ⟨by first | rfl | simp, BZ⟩
      case rest =>
        obtain ⟨rfl, hcut⟩ := hcut
        have hla : la.length ≤ 64 := by rw [← List.length_map (f := (·.1)), HLA.out]; exact hcs
        have hlb : lb.length ≤ 64 := by rw [← List.length_map (f := (·.1)), HLB.out]; exact hrs
        have PA : Hid (CardsW wc w.heap.size wc.heap.size (.slice aa la.length ca)) := Lib.hid (cardsW_own (own_below OA3.out hcut.out) (RA3.out.below hcut.out) (fun r hr => by
          have := HMC.out r.1 (by rw [← HLA.out]; exact List.mem_map.2 ⟨r, hr, rfl⟩)
          unfold maxLen
          omega) (by unfold maxLen; omega))
        have PB : Hid (CardsW wc w.heap.size wc.heap.size (.slice ab lb.length cb)) := Lib.hid (cardsW_own (own_below OB3.out hcut.out) (RB3.out.below hcut.out) (fun r hr => by
          have := HMR.out r.1 (by rw [← HLB.out]; exact List.mem_map.2 ⟨r, hr, rfl⟩)
          unfold maxLen
          omega) (by unfold maxLen; omega))
        have PN : Hid (NotesW wc w.heap.size (.slice ad ns.length cd)) := Lib.hid (notesW_own (nc_len ns) (own_below OD.out hcut.out))
        have B4 : Hid (Below w.heap.size w wc) := Lib.hid (B3.out.trans (hcut.out.mono B3.out.size))
        have hwc : w.heap.size ≤ wc.heap.size := B4.out.size
        clear hcut OA3 RA3 OB3 RB3 OD B3 HLA HLB B0 B1 B2
        obtain ⟨na, hna⟩ : ∃ n, la.length = n := ⟨_, rfl⟩
        obtain ⟨nb, hnb⟩ : ∃ n, lb.length = n := ⟨_, rfl⟩
        obtain ⟨nd, hnd⟩ : ∃ n, ns.length = n := ⟨_, rfl⟩
        rw [hna] at PA hla ⊢
        rw [hnb] at PB hlb ⊢
        rw [hnd] at PN hn ⊢
        clear hna hnb hnd
        have T0 : Hid (∀ t, TwoW w.heap.size wc.heap.size (.slice aa na ca) (.slice ab nb cb) (.slice ad nd cd) (wc.alloc (.cells #[.slice aa na ca, .slice ab nb cb] t))) := Lib.hid (fun t => twoW_new hwc PA.out PB.out PN.out)
        have B5 : Hid (∀ t, Below w.heap.size w (wc.alloc (.cells #[.slice aa na ca, .slice ab nb cb] t))) := Lib.hid (fun t => B4.out.alloc hwc _)
        obtain ⟨G, hG⟩ : ∃ g, g = wc.heap.size := ⟨_, rfl⟩
        have HG := Lib.hid hG
        clear PA PB PN B4 hG hwc
        go_wp2_with fail
        rw [← HG.out] at T0 ⊢
        go_loopg [62] 2 (fun r v62 wl => ∃ i : Nat, i ≤ 2 ∧ r = 2 - i ∧ v62 = .int .i64 i ∧ Hid (TwoW w.heap.size G (.slice aa na ca) (.slice ab nb cb) (.slice ad nd cd) wl ∧ Below w.heap.size w wl))
        case atStart => exact ⟨0, by omega, by omega, rfl, Lib.hid ⟨T0.out _, B5.out _⟩⟩
        case round =>
          clear T0 B5
          obtain ⟨i, hi, hr2, rfl, hq⟩ := hrel
          have HR2 := Lib.hid hr2
          have TT := Lib.hid hq.out.1
          have BB := Lib.hid hq.out.2
          clear hr2 hq
          by_cases hli : i < 2
          · obtain ⟨vl, hcell, hvl⟩ := TT.out.at i hli
            have HV : Hid (vl = .slice aa na ca ∨ vl = .slice ab nb cb) := Lib.hid hvl
            obtain ⟨al, nl, cl, el, hn1, hn2, _⟩ := TT.out.one hvl
            subst el
            have hic1 : (0 : Int) ≤ (i : Int) := by omega
            have hic2 : (i : Int) < 2 := by omega
            unfold maxLen at hn1
            clear hvl
            go_wp2_with fail
            go_loopg [11] nl (fun r v11 wl => ∃ j : Nat, j ≤ nl ∧ r = nl - j ∧ v11 = .int .i64 j ∧ Hid (TwoW w.heap.size G (.slice aa na ca) (.slice ab nb cb) (.slice ad nd cd) wl ∧ Below w.heap.size w wl))
            case atStart => exact ⟨0, by omega, by omega, rfl, Lib.hid ⟨TT.out, BB.out⟩⟩
            case round =>
              clear hcell TT BB
              obtain ⟨j, hj, hr3, rfl, hq⟩ := hrel
              have HR3 := Lib.hid hr3
              have TT := Lib.hid hq.out.1
              have BB := Lib.hid hq.out.2
              clear hr3 hq
              by_cases hlj : j < nl
              · obtain ⟨g, rfl, hgG, hgB, hcw, am, m, cm, hc3, hm, hsw⟩ := (TT.out.one HV.out).get hlj
                have HGG := Lib.hid hgG
                have HGB := Lib.hid hgB
                have SW := Lib.hid hsw
                have hjc1 : (0 : Int) ≤ (j : Int) := by omega
                have hjc2 : (j : Int) < (nl : Int) := by omega
                have C3 := Lib.hid hc3
                unfold maxLen at hm
                clear hcw hgG hgB hsw
                go_wp2_with fail
                go_loopg [12] m (fun r v12 wl => ∃ p : Nat, p ≤ m ∧ r = m - p ∧ v12 = .int .i64 p ∧ Hid (TwoW w.heap.size G (.slice aa na ca) (.slice ab nb cb) (.slice ad nd cd) wl ∧ Below w.heap.size w wl ∧ wl.cell? ⟨g, j * 7 + 3, none⟩ = some (.slice am m cm) ∧ StrW wl w.heap.size (.slice am m cm)))
                case atStart => exact ⟨0, by omega, by omega, rfl, Lib.hid ⟨TT.out, BB.out, C3.out, SW.out⟩⟩
                case round =>
                  clear hc3 C3 SW TT BB
                  obtain ⟨p, hp, hr4, rfl, hq⟩ := hrel
                  have HR4 := Lib.hid hr4
                  have TT := Lib.hid hq.out.1
                  have BB := Lib.hid hq.out.2.1
                  have hc3 := hq.out.2.2.1
                  have C3 := Lib.hid hc3
                  have SW := Lib.hid hq.out.2.2.2
                  clear hr4 hq
                  by_cases hlp : p < m
                  · obtain ⟨b', off, s', rfl, hb', hcs', hfz'⟩ := SW.out.get hlp
                    have hpc1 : (0 : Int) ≤ (p : Int) := by omega
                    have hpc2 : (p : Int) < (m : Int) := by omega
                    have T6 := Lib.hid (TT.out.str hcs' ⟨#[126]⟩)
                    have S6 := Lib.hid (SW.out.set hcs' ⟨#[126]⟩)
                    have B6 := Lib.hid (Below.setCell BB.out (p := ⟨b', off + p, none⟩) hb' (.string ⟨#[126]⟩))
                    have C6 := Lib.hid ((World.cell?_setCell_other _ _ _ (.string ⟨#[126]⟩) (fun e : (⟨b', off + p, none⟩ : Addr) = ⟨g, j * 7 + 3, none⟩ => by rw [e, C3.out] at hcs'; cases hcs')).trans C3.out)
                    clear hb'
                    go_wp2_with fail
                    go_roundg (m - (p + 1))
                    case measure => rw [HR4.out]; omega
                    case rel => exact ⟨p + 1, by omega, rfl, by first | rfl | simp, Lib.hid ⟨T6.out, B6.out, C6.out, S6.out⟩⟩
                  · obtain rfl : p = m := by omega
                    have CW : Hid (CardW (‹World› : World) w.heap.size g nl) := Lib.hid (by
                      obtain ⟨g', e, _, _, h, _⟩ := (TT.out.one HV.out).get hlj
                      cases e
                      exact h)
                    have TH := Lib.hid (CW.out.there hlj)
                    go_wp2_with (refine wpList_store_all (by rfl) 38 (.tmp 92) (.tmp 91) (by rfl) g (j * 7) [.string ⟨#[126]⟩, .string .empty, .int .u8 0, .slice none 0 0, .int .i8 0, .string .empty, .int .i16 0] (by kernel_rfl) (by kernel_rfl) TH.out (by kernel_rfl) (cells_one7 _ _ _ _ _ _) ?_)
                    intro W4 HW4
                    have T6 : Hid (TwoW w.heap.size G (.slice aa na ca) (.slice ab nb cb) (.slice ad nd cd) W4) := Lib.hid (by rw [HW4.out]; exact TT.out.put HGG.out CW.out hlj _ _ _ _ _ _)
                    have B6 : Hid (Below w.heap.size w W4) := Lib.hid (by rw [HW4.out]; exact putAll_below HGB.out _ _ _ BB.out)
                    clear HW4 TH CW hc3
                    go_wp2_with fail
                    go_roundg (nl - (j + 1))
                    case measure => rw [HR3.out]; omega
                    case rel => exact ⟨j + 1, by omega, rfl, by first | rfl | simp, Lib.hid ⟨T6.out, B6.out⟩⟩
              · obtain rfl : j = nl := by omega
                go_wp2_with fail
                go_roundg (2 - (i + 1))
                case measure => rw [HR2.out]; omega
                case rel => exact ⟨i + 1, by omega, rfl, by first | rfl | simp, Lib.hid ⟨TT.out, BB.out⟩⟩
          · obtain rfl : i = 2 := by omega
            go_wp2_with fail
            go_loopg [13] nd (fun r v13 wl => ∃ j : Nat, j ≤ nd ∧ r = nd - j ∧ v13 = .int .i64 j ∧ Hid (NotesW wl w.heap.size (.slice ad nd cd) ∧ Below w.heap.size w wl))
            case atStart => exact ⟨0, by omega, by omega, rfl, Lib.hid ⟨TT.out.c, BB.out⟩⟩
            case round =>
              clear TT BB
              obtain ⟨j, hj, hr3, rfl, hq⟩ := hrel
              have HR3 := Lib.hid hr3
              have NN := Lib.hid hq.out.1
              have BB := Lib.hid hq.out.2
              clear hr3 hq
              by_cases hlj : j < nd
              · obtain ⟨g, rfl, hgB, hth⟩ := NN.out.get hlj
                have TH := Lib.hid hth
                have HGB := Lib.hid hgB
                have hjc1 : (0 : Int) ≤ (j : Int) := by omega
                have hjc2 : (j : Int) < (nd : Int) := by omega
                clear hth hgB
                go_wp2_with (refine wpList_store_all (by rfl) 80 (.tmp 103) (.tmp 102) (by rfl) g (j * 4) [.string ⟨#[126]⟩, .int .i64 0, .int .i64 0, .int .i64 0] (by kernel_rfl) (by kernel_rfl) TH.out (by kernel_rfl) (ncells_one ⟨_, _, _, _⟩) ?_)
                intro W4 HW4
                have N6 : Hid (NotesW W4 w.heap.size (.slice (some ⟨g, 0, none⟩) nd cd)) := Lib.hid (by rw [HW4.out]; exact NN.out.like (some_put _ _ _))
                have B6 : Hid (Below w.heap.size w W4) := Lib.hid (by rw [HW4.out]; exact putAll_below HGB.out _ _ _ BB.out)
                clear HW4 TH
                go_wp2_with fail
                go_roundg (nd - (j + 1))
                case measure => rw [HR3.out]; omega
                case rel => exact ⟨j + 1, by omega, rfl, by first | rfl | simp, Lib.hid ⟨N6.out, B6.out⟩⟩
              · obtain rfl : j = nd := by omega
                go_wp2_with fail
                go_roundg (2 - (k + 1))
                case measure => rw [HR.out]; omega
                case rel => exact ⟨k + 1, by omega, rfl, by first | rfl | simp, Lib.hid BB.out⟩
    · obtain rfl : k = 2 := by omega
      go_wp2_with fail
      go_ret
      exact ⟨rfl, B0.out⟩
end Go.Proofs.Ytpafbnmncioppaa
