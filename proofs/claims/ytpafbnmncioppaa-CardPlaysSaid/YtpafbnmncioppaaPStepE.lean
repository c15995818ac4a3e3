/- A step of the script: a card enters both registries. -/
import Derived.Test.YtpafbnmncioppaaPStepC
namespace Go.Proofs.Ytpafbnmncioppaa
open Go.RowKit Go.ChangeShapes Nm
theorem RegN.grown {okT : Nat → Prop} {w w' : World} {B b : Nat} {cs rs : List Cd} {ns : List Nt} {fz : Bool} {e : Ending} {x : Int} (h : @Ent (NE ns okT) w B b x cs rs fz e w') : RegN okT w' B b cs rs ns fz := h.2.1
theorem kept_setString {X : Nat → Prop} (w : World) (a : Addr) (v : Value) (h : X a.block) : Kept X w (w.setCell a v) := ⟨rfl, rfl, rfl, by simp, fun k _ hx => Below.heap_setCell w _ _ k (fun e => hx (by rw [e]; exact h))⟩
set_option maxHeartbeats 16000000 in
set_option maxRecDepth 100000 in
theorem step_enter (T : Nat → Prop) (W : World) (B b m : Nat) (cs rs : List Cd) (ns : List Nt) (fz : Bool) (n f q p : ByteArray) (who kind l s e i sm : Int) (ss : List ByteArray) (sl : Value) (w : World) (hp : PairS T w B b m cs rs ns fz) (hBW : B = W.heap.size) (hW : Below B W w)
    (hs : Strs W sl ss) (hn : ss.length ≤ 8796093022208) (hok : Cd.ok ⟨n, f, l, ss, s, q, e⟩) (hk1 : ¬ kind = 1) (hk2 : ¬ kind = 2) (hk3 : ¬ kind = 3) :
    Calls Try.prog 25 #[.pointer (some ⟨b, 0, none⟩), .pointer (some ⟨m, 0, none⟩), .agg #[.int .i64 who, .int .i64 kind, .string n, .string f, .int .u8 l, sl, .int .i8 s, .string q, .int .i16 e, .string p, .int .i64 i, .int .i64 sm]] w (Stepped T w B b m) := by
  have hB := Lib.hid (show B ≤ w.heap.size from Nat.le_trans (Nat.le_of_eq hBW) hW.size)
  have HBW := Lib.hid hBW
  have HW := Lib.hid hW
  have b1 : Below w.heap.size w (w.alloc (.cells #[.int .i64 who, .int .i64 kind, .string n, .string f, .int .u8 l, sl, .int .i8 s, .string q, .int .i16 e, .string p, .int .i64 i, .int .i64 sm] 61)) := (Below.refl _ w).alloc (Nat.le_refl _) _
  have z1 : (w.alloc (.cells #[.int .i64 who, .int .i64 kind, .string n, .string f, .int .u8 l, sl, .int .i8 s, .string q, .int .i16 e, .string p, .int .i64 i, .int .i64 sm] 61)).heap.size = w.heap.size + 1 := by simp
  have Z1 := Lib.hid z1
  have HP := Lib.hid hp
  have B1 := Lib.hid b1
  have NB : Hid (w.heap.size ≠ b) := Lib.hid (by have := (hp.lt b hp.tb).2; omega)
  have HS : Hid (∀ w', Below B W w' → Strs w' sl ss) := Lib.hid (fun w' h => hs.below (by rw [← hBW]; exact h))
  have HN := Lib.hid hn
  have HOK := Lib.hid hok
  have AT : Hid (∀ w' : World, w'.heap[w.heap.size]? = (w.alloc (.cells #[.int .i64 who, .int .i64 kind, .string n, .string f, .int .u8 l, sl, .int .i8 s, .string q, .int .i16 e, .string p, .int .i64 i, .int .i64 sm] 61)).heap[w.heap.size]? → w'.cell? ⟨w.heap.size, 2, none⟩ = some (.string n) ∧ w'.cell? ⟨w.heap.size, 3, none⟩ = some (.string f) ∧ w'.cell? ⟨w.heap.size, 4, none⟩ = some (.int .u8 l) ∧ w'.cell? ⟨w.heap.size, 5, none⟩ = some sl ∧ w'.cell? ⟨w.heap.size, 6, none⟩ = some (.int .i8 s) ∧ w'.cell? ⟨w.heap.size, 7, none⟩ = some (.string q) ∧ w'.cell? ⟨w.heap.size, 8, none⟩ = some (.int .i16 e)) := Lib.hid (fun w' h => ⟨box_at h 2 rfl, box_at h 3 rfl, box_at h 4 rfl, box_at h 5 rfl, box_at h 6 rfl, box_at h 7 rfl, box_at h 8 rfl⟩)
  have C1 := Lib.hid (twin_walk n f q l s e ss sl _ (HS.out _ (hW.trans (b1.mono hB.out))) hn)
  clear hp b1 hBW hW z1 hs hn hok
  go_enter Try.func25, Try.ntmps25
  go_wp2_with fail
  refine C1.out.mono ?_
  rintro er w1 ⟨g, cap, rfl, ho, hb⟩
  simp only [Cd.cells]
  have O1 := Lib.hid ho
  have B2 := Lib.hid (B1.out.trans (hb.mono B1.out.size))
  have X1 := Lib.hid hb
  have hgl := ho.lt g rfl
  have HG : Hid (w.heap.size < g ∧ g < w1.heap.size) := Lib.hid (by have := Z1.out; omega)
  have ba : Below w1.heap.size w1 (w1.alloc (.cells #[.string n, .string f, .int .u8 l, .slice (some ⟨g, 0, none⟩) ss.length cap, .int .i8 s, .string q, .int .i16 e] 38)) := (Below.refl _ w1).alloc (Nat.le_refl _) _
  have za : (w1.alloc (.cells #[.string n, .string f, .int .u8 l, .slice (some ⟨g, 0, none⟩) ss.length cap, .int .i8 s, .string q, .int .i16 e] 38)).heap.size = w1.heap.size + 1 := by simp
  have ZA := Lib.hid za
  have B3 := Lib.hid (B2.out.trans (ba.mono B2.out.size))
  have OA := Lib.hid (own_below ho ba)
  have XA := Lib.hid (X1.out.trans (ba.mono X1.out.size))
  have hss : ss.length ≤ maxLen := by have := HN.out; unfold maxLen; omega
  have SA := Lib.hid (strs_own OA.out hss)
  obtain ⟨T1, hT1⟩ : ∃ T1 : Nat → Prop, T1 = fun k => T k ∨ w1.heap.size + 1 ≤ k := ⟨_, rfl⟩
  have HT1 : Hid ((∀ k, T k → T1 k) ∧ (∀ k, T1 k → T k ∨ w1.heap.size + 1 ≤ k) ∧ ∀ k, w1.heap.size + 1 ≤ k → T1 k) := Lib.hid (by subst hT1; exact ⟨fun _ h => .inl h, fun _ h => h, fun _ h => .inr h⟩)
  have R1 : Hid (RegN T1 (w1.alloc (.cells #[.string n, .string f, .int .u8 l, .slice (some ⟨g, 0, none⟩) ss.length cap, .int .i8 s, .string q, .int .i16 e] 38)) B b cs rs ns fz) := Lib.hid ((HP.out.reg.below B3.out).mono fun _ _ h => HT1.out.1 _ h)
  have C2 := @enter_any (NE ns T1) b B cs rs fz n f q l s e ss (.slice (some ⟨g, 0, none⟩) ss.length cap) _ R1.out (Nat.le_trans hB.out B3.out.size) (few_i HP.out.mc) SA.out HN.out HOK.out (fun k hk => HT1.out.2.2 k (by rw [za] at hk; exact hk))
  obtain ⟨x, hx⟩ : ∃ x, entA cs rs fz ⟨n, f, l, ss, s, q, e⟩ = x := ⟨_, rfl⟩
  rw [hx] at C2
  have HX := Lib.hid hx
  have C2 := Lib.hid C2
  clear ho hb C1 hgl ba za hx hT1
  go_wp2_with fail
  refine C2.out.mono ?_
  rintro er w2 hen
  have hr : RegN T1 w2 B b (entC cs rs fz ⟨n, f, l, ss, s, q, e⟩) (entR cs rs fz ⟨n, f, l, ss, s, q, e⟩) ns fz := hen.2.1
  have hg := hen.2.2
  obtain ⟨rfl, _⟩ := hen
  have R2 := Lib.hid hr
  have hbw1 : w1.heap.size ≠ b := by have := (HP.out.lt b HP.out.tb).2; have := B2.out.size; omega
  have ib2 : w2.heap[w1.heap.size]? = (w1.alloc (.cells #[.string n, .string f, .int .u8 l, .slice (some ⟨g, 0, none⟩) ss.length cap, .int .i8 s, .string q, .int .i16 e] 38)).heap[w1.heap.size]? := hg.block _ (by rw [ZA.out]; omega) (fun e => hbw1 (by simpa using e))
  have IB2 := Lib.hid ib2
  have ab2 := (hg.block w.heap.size (by rw [ZA.out]; have := HG.out; omega) (fun e => NB.out (by simpa using e))).trans (XA.out.block w.heap.size (by rw [Z1.out]; omega))
  have AB2 := Lib.hid ab2
  have O2 : Hid (w2.ownsRow w.heap.size 9 1 (.slice (some ⟨g, 0, none⟩) ss.length cap) ss.length (sc ss)) := Lib.hid (own_base (own_still OA.out (fun g' C e _ => by
    cases e
    exact hg.block g (by rw [ZA.out]; have := HG.out; omega) (fun e => by
      have h1 := (HP.out.lt b HP.out.tb).2
      have h2 := HG.out
      have h3 : g = b := by simpa using e
      omega))) (by rw [Z1.out]; omega))
  have K2 : Hid (Kept (fun k => T k ∨ w.heap.size ≤ k) w w2) := Lib.hid ((Kept.below B3.out).trans (Kept.grown hg (.inl HP.out.tb)))
  have BW2 : Hid (Below B W w2) := Lib.hid (K2.out.out (fun k hk => by rcases hk with hk | hk; exact (HP.out.lt k hk).1; exact Nat.le_trans hB.out hk) HW.out hB.out)
  have C3 := rsame_walk n f q n f q l s e l s e ss ss (.slice (some ⟨g, 0, none⟩) ss.length cap) sl w2 (strs_own O2.out hss) (HS.out _ BW2.out)
  rw [sameB_self] at C3
  have C3 := Lib.hid C3
  obtain ⟨i0, i1, i2, i3, i4, i5, i6⟩ : w2.cell? ⟨w1.heap.size, 0, none⟩ = some (.string n) ∧ w2.cell? ⟨w1.heap.size, 1, none⟩ = some (.string f) ∧ w2.cell? ⟨w1.heap.size, 2, none⟩ = some (.int .u8 l) ∧ w2.cell? ⟨w1.heap.size, 3, none⟩ = some (.slice (some ⟨g, 0, none⟩) ss.length cap) ∧ w2.cell? ⟨w1.heap.size, 4, none⟩ = some (.int .i8 s) ∧ w2.cell? ⟨w1.heap.size, 5, none⟩ = some (.string q) ∧ w2.cell? ⟨w1.heap.size, 6, none⟩ = some (.int .i16 e) := ⟨box_at ib2 0 rfl, box_at ib2 1 rfl, box_at ib2 2 rfl, box_at ib2 3 rfl, box_at ib2 4 rfl, box_at ib2 5 rfl, box_at ib2 6 rfl⟩
  obtain ⟨j0, j1, j2, j3, j4, j5, j6⟩ := AT.out w2 ab2
  have D2 : Hid (RReg T w2 B m cs rs ns fz) := Lib.hid ((HP.out.ref.below B3.out).grown R1.out hg)
  clear hr hg ib2 ab2 C2 R1 OA SA
  go_wp2_with fail
  refine C3.out.mono ?_
  rintro er w3 ⟨rfl, hb⟩
  have B4 := Lib.hid hb
  have hg2 : g < w2.heap.size := own_block_lt O2.out rfl
  have O3 := Lib.hid (own_below O2.out hb)
  have S3 := Lib.hid (strW_own O3.out hss)
  have hw12 : w1.heap.size < w2.heap.size := (Array.getElem?_eq_some_iff.1 (IB2.out.trans (heap_alloc_new w1 _))).1
  have IB3 : Hid (w3.heap[w1.heap.size]? = (w1.alloc (.cells #[.string n, .string f, .int .u8 l, .slice (some ⟨g, 0, none⟩) ss.length cap, .int .i8 s, .string q, .int .i16 e] 38)).heap[w1.heap.size]?) := Lib.hid ((hb.block _ hw12).trans IB2.out)
  have AB3 := Lib.hid ((hb.block w.heap.size (by have := HG.out; omega)).trans AB2.out)
  have R3 := Lib.hid (R2.out.below hb)
  have D3 := Lib.hid (D2.out.below hb)
  have K3 : Hid (Kept (fun k => T k ∨ w.heap.size ≤ k) w w3) := Lib.hid (K2.out.trans (Kept.below hb))
  have HG3 : Hid (w1.heap.size < w3.heap.size) := Lib.hid (Nat.lt_of_lt_of_le hw12 hb.size)
  clear hb C3 j0 j1 j2 j3 j4 j5 j6 i0 i1 i2 i3 i4 i5 i6 hw12 hg2 hbw1
  have hnn : ss.length ≤ 8796093022208 := HN.out
  clear hss
  go_wp2_with fail
  go_loopg [11] ss.length (fun r v wr => ∃ k : Nat, k ≤ ss.length ∧ r = ss.length - k ∧ v = .int .i64 k ∧ Hid (Kept (fun j => j = g) w3 wr ∧ StrW wr w.heap.size (.slice (some ⟨g, 0, none⟩) ss.length cap)))
  case atStart => exact ⟨0, by omega, by omega, rfl, Lib.hid ⟨Kept.refl _ _, S3.out⟩⟩
  case round =>
    obtain ⟨k, hk, hr, rfl, hq⟩ := hrel
    have HR := Lib.hid hr
    have KG := Lib.hid hq.out.1
    have SW := Lib.hid hq.out.2
    clear hr hq
    have i3 : wr.cell? ⟨w1.heap.size, 3, none⟩ = some (.slice (some ⟨g, 0, none⟩) ss.length cap) := box_at ((KG.out.block _ HG3.out (by have := HG.out; omega)).trans IB3.out) 3 rfl
    by_cases hlt : k < ss.length
    · obtain ⟨b', off, s', eb, hb', hcs', hfz'⟩ := SW.out.get hlt
      cases eb
      rw [Nat.zero_add] at hcs' hfz'
      have hkc1 : (0 : Int) ≤ (k : Int) := by omega
      have hkc2 : (k : Int) < (ss.length : Int) := by omega
      have S6 := Lib.hid (SW.out.set hcs' ⟨#[126]⟩)
      have K6 : Hid (Kept (fun j => j = g) w3 (wr.setCell ⟨g, k, none⟩ (.string ⟨#[126]⟩))) := Lib.hid (KG.out.trans (kept_setString _ _ _ rfl))
      clear hb'
      go_wp2_with fail
      go_roundg (ss.length - (k + 1))
      case measure => rw [HR.out]; omega
      case rel => exact ⟨k + 1, by omega, rfl, by first | rfl | simp, Lib.hid ⟨K6.out, S6.out⟩⟩
    · obtain rfl : k = ss.length := by omega
      have hTg : ¬ T g := fun h => by have := (HP.out.lt g h).2; have := HG.out; omega
      have gb : g ≠ b := fun h => hTg (h ▸ HP.out.tb)
      have T1g : ¬ T1 g := fun h => by
        rcases HT1.out.2.1 g h with h | h
        · exact hTg h
        · have := HG.out; omega
      have R4 : Hid (RegN T1 wr B b (entC cs rs fz ⟨n, f, l, ss, s, q, e⟩) (entR cs rs fz ⟨n, f, l, ss, s, q, e⟩) ns fz) := Lib.hid (R3.out.still fun j C t hC d => KG.out.block j (Array.getElem?_eq_some_iff.1 hC).1 (by
        rintro rfl
        rcases d with ⟨d, _⟩ | ⟨d, _⟩
        · exact gb d
        · exact T1g d))
      have K4 : Hid (Kept (fun k => T k ∨ w.heap.size ≤ k) w wr) := Lib.hid (K3.out.trans (KG.out.mono fun j _ e => .inr (by rw [e]; have := HG.out; omega)))
      have K5 : Hid (Kept T w wr) := Lib.hid (K4.out.mono fun j hj d => by
        rcases d with d | d
        · exact d
        · omega)
      have BW4 : Hid (Below B W wr) := Lib.hid (K5.out.out (fun k hk => (HP.out.lt k hk).1) HW.out hB.out)
      have D4 : Hid (RReg T wr B m cs rs ns fz) := Lib.hid (D3.out.still fun j C t hC ht _ => KG.out.block j (Array.getElem?_eq_some_iff.1 hC).1 (by
        rintro rfl
        exact hTg ht))
      obtain ⟨j0, j1, j2, j3, j4, j5, j6⟩ := AT.out wr ((KG.out.block w.heap.size (by have := HG.out; have := HG3.out; omega) (by have := HG.out; omega)).trans AB3.out)
      have h4 := (HP.out.reg).at
      have C4 := renter_any T B m cs rs ns fz n f q l s e ss sl wr D4.out (Nat.le_trans hB.out K5.out.size) (fun k hk => Nat.lt_of_lt_of_le (HP.out.lt k hk).2 K5.out.size) h4.2.1 h4.2.2.1 HP.out.mc (HS.out _ BW4.out) HN.out HOK.out
      rw [HX.out] at C4
      have C4 := Lib.hid C4
      have dx : decide (x = x) = true := by simp
      clear h4 hTg gb T1g
      go_wp2_with fail
      refine C4.out.mono ?_
      rintro er w5 hd
      have D := Lib.hid hd
      obtain ⟨rfl, _⟩ := hd
      go_wp2_with fail
      go_ret
      exact ⟨rfl, HP.out.step hB.out K5.out R4.out HT1.out.1 (fun k d => (HT1.out.2.1 k d).elim .inl fun d => .inr (by have := HG.out; omega)) D.out (few_entC HP.out.mc HN.out) (few_entR HP.out.mr HN.out)⟩
end Go.Proofs.Ytpafbnmncioppaa
