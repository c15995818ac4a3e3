/- A step of the script with no registry. -/
import Derived.Test.YtpafbnmncioppaaPStepE
namespace Go.Proofs.Ytpafbnmncioppaa
open Go.RowKit Go.ChangeShapes Nm
set_option maxHeartbeats 8000000 in
set_option maxRecDepth 100000 in
theorem nil_mark (n f q p : ByteArray) (who l s e i sm : Int) (sl : Value) (w : World) :
    Calls Try.prog 25 #[.pointer none, .pointer none, .agg #[.int .i64 who, .int .i64 1, .string n, .string f, .int .u8 l, sl, .int .i8 s, .string q, .int .i16 e, .string p, .int .i64 i, .int .i64 sm]] w (GivesB true w) := by
  have B1 : Hid (Below w.heap.size w (w.alloc (.cells #[.int .i64 who, .int .i64 1, .string n, .string f, .int .u8 l, sl, .int .i8 s, .string q, .int .i16 e, .string p, .int .i64 i, .int .i64 sm] 61))) := Lib.hid ((Below.refl _ w).alloc (Nat.le_refl _) _)
  go_enter Try.func25, Try.ntmps25
  go_wp2_with fail
  refine (mark_nil p i sm _).mono ?_
  rintro er w1 ⟨rfl, hb⟩
  have B2 := Lib.hid (B1.out.trans (hb.mono B1.out.size))
  clear hb
  go_wp2_with fail
  go_ret
  exact ⟨rfl, B2.out⟩
set_option maxHeartbeats 8000000 in
set_option maxRecDepth 100000 in
theorem nil_end (n f q p : ByteArray) (who l s e i sm : Int) (sl : Value) (w : World) :
    Calls Try.prog 25 #[.pointer none, .pointer none, .agg #[.int .i64 who, .int .i64 2, .string n, .string f, .int .u8 l, sl, .int .i8 s, .string q, .int .i16 e, .string p, .int .i64 i, .int .i64 sm]] w (GivesB true w) := by
  have B1 : Hid (Below w.heap.size w (w.alloc (.cells #[.int .i64 who, .int .i64 2, .string n, .string f, .int .u8 l, sl, .int .i8 s, .string q, .int .i16 e, .string p, .int .i64 i, .int .i64 sm] 61))) := Lib.hid ((Below.refl _ w).alloc (Nat.le_refl _) _)
  go_enter Try.func25, Try.ntmps25
  go_wp2_with fail
  refine (freeze_nil _).mono ?_
  rintro er w1 ⟨rfl, hb⟩
  have B2 := Lib.hid (B1.out.trans (hb.mono B1.out.size))
  clear hb
  go_wp2_with fail
  go_ret
  exact ⟨rfl, B2.out⟩
set_option maxHeartbeats 8000000 in
set_option maxRecDepth 100000 in
theorem nil_tell (n f q p : ByteArray) (who l s e i sm : Int) (sl : Value) (w : World) :
    Calls Try.prog 25 #[.pointer none, .pointer none, .agg #[.int .i64 who, .int .i64 3, .string n, .string f, .int .u8 l, sl, .int .i8 s, .string q, .int .i16 e, .string p, .int .i64 i, .int .i64 sm]] w (GivesB true w) := by
  have B1 : Hid (Below w.heap.size w (w.alloc (.cells #[.int .i64 who, .int .i64 3, .string n, .string f, .int .u8 l, sl, .int .i8 s, .string q, .int .i16 e, .string p, .int .i64 i, .int .i64 sm] 61))) := Lib.hid ((Below.refl _ w).alloc (Nat.le_refl _) _)
  go_enter Try.func25, Try.ntmps25
  go_wp2_with fail
  refine (cards_nil _).mono ?_
  rintro er w1 ⟨rfl, hb⟩
  have B2 := Lib.hid (B1.out.trans (hb.mono B1.out.size))
  clear hb
  go_wp2_with fail
  refine (refused_nil _).mono ?_
  rintro er w2 ⟨rfl, hb⟩
  have B3 := Lib.hid (B2.out.trans (hb.mono B2.out.size))
  clear hb
  go_wp2_with fail
  refine (notes_nil _).mono ?_
  rintro er w3 ⟨rfl, hb⟩
  have B4 := Lib.hid (B3.out.trans (hb.mono B3.out.size))
  clear hb
  go_wp2_with fail
  refine (frozen_nil _).mono ?_
  rintro er w4 ⟨rfl, hb⟩
  have B5 := Lib.hid (B4.out.trans (hb.mono B4.out.size))
  clear hb
  go_wp2_with fail
  go_ret
  exact ⟨rfl, B5.out⟩
set_option maxHeartbeats 16000000 in
set_option maxRecDepth 100000 in
theorem nil_enter (n f q p : ByteArray) (who kind l s e i sm : Int) (ss : List ByteArray) (sl : Value) (w : World) (hs : Strs w sl ss) (hn : ss.length ≤ 8796093022208) (hk1 : ¬ kind = 1) (hk2 : ¬ kind = 2) (hk3 : ¬ kind = 3) :
    Calls Try.prog 25 #[.pointer none, .pointer none, .agg #[.int .i64 who, .int .i64 kind, .string n, .string f, .int .u8 l, sl, .int .i8 s, .string q, .int .i16 e, .string p, .int .i64 i, .int .i64 sm]] w (GivesB true w) := by
  have b1 : Below w.heap.size w (w.alloc (.cells #[.int .i64 who, .int .i64 kind, .string n, .string f, .int .u8 l, sl, .int .i8 s, .string q, .int .i16 e, .string p, .int .i64 i, .int .i64 sm] 61)) := (Below.refl _ w).alloc (Nat.le_refl _) _
  have Z1 : Hid ((w.alloc (.cells #[.int .i64 who, .int .i64 kind, .string n, .string f, .int .u8 l, sl, .int .i8 s, .string q, .int .i16 e, .string p, .int .i64 i, .int .i64 sm] 61)).heap.size = w.heap.size + 1) := Lib.hid (by simp)
  have B1 := Lib.hid b1
  have HS : Hid (∀ w', Below w.heap.size w w' → Strs w' sl ss) := Lib.hid (fun w' h => hs.below h)
  have HN := Lib.hid hn
  have AT : Hid (∀ w' : World, w'.heap[w.heap.size]? = (w.alloc (.cells #[.int .i64 who, .int .i64 kind, .string n, .string f, .int .u8 l, sl, .int .i8 s, .string q, .int .i16 e, .string p, .int .i64 i, .int .i64 sm] 61)).heap[w.heap.size]? → w'.cell? ⟨w.heap.size, 2, none⟩ = some (.string n) ∧ w'.cell? ⟨w.heap.size, 3, none⟩ = some (.string f) ∧ w'.cell? ⟨w.heap.size, 4, none⟩ = some (.int .u8 l) ∧ w'.cell? ⟨w.heap.size, 5, none⟩ = some sl ∧ w'.cell? ⟨w.heap.size, 6, none⟩ = some (.int .i8 s) ∧ w'.cell? ⟨w.heap.size, 7, none⟩ = some (.string q) ∧ w'.cell? ⟨w.heap.size, 8, none⟩ = some (.int .i16 e)) := Lib.hid (fun w' h => ⟨box_at h 2 rfl, box_at h 3 rfl, box_at h 4 rfl, box_at h 5 rfl, box_at h 6 rfl, box_at h 7 rfl, box_at h 8 rfl⟩)
  have C1 := Lib.hid (twin_walk n f q l s e ss sl _ (HS.out _ b1) hn)
  clear b1 hs hn
  go_enter Try.func25, Try.ntmps25
  go_wp2_with fail
  refine C1.out.mono ?_
  rintro er w1 ⟨g, cap, rfl, ho, hb⟩
  simp only [Cd.cells]
  have B2 := Lib.hid (B1.out.trans (hb.mono B1.out.size))
  have X1 := Lib.hid hb
  have hgl := ho.lt g rfl
  have HG : Hid (w.heap.size < g ∧ g < w1.heap.size) := Lib.hid (by have := Z1.out; omega)
  have ba : Below w1.heap.size w1 (w1.alloc (.cells #[.string n, .string f, .int .u8 l, .slice (some ⟨g, 0, none⟩) ss.length cap, .int .i8 s, .string q, .int .i16 e] 38)) := (Below.refl _ w1).alloc (Nat.le_refl _) _
  have za : (w1.alloc (.cells #[.string n, .string f, .int .u8 l, .slice (some ⟨g, 0, none⟩) ss.length cap, .int .i8 s, .string q, .int .i16 e] 38)).heap.size = w1.heap.size + 1 := by simp
  have ZA := Lib.hid za
  have B3 := Lib.hid (B2.out.trans (ba.mono B2.out.size))
  have OA := Lib.hid (own_below ho ba)
  have XA := Lib.hid (X1.out.trans (ba.mono X1.out.size))
  have hss : ss.length ≤ maxLen := by have := HN.out; unfold maxLen; omega
  have C2 := Lib.hid (enter_nil n f q l s e (.slice (some ⟨g, 0, none⟩) ss.length cap) (w1.alloc (.cells #[.string n, .string f, .int .u8 l, .slice (some ⟨g, 0, none⟩) ss.length cap, .int .i8 s, .string q, .int .i16 e] 38)))
  clear ho hb C1 hgl ba za
  go_wp2_with fail
  refine C2.out.mono ?_
  rintro er w2 ⟨rfl, hb⟩
  have ib2 : w2.heap[w1.heap.size]? = (w1.alloc (.cells #[.string n, .string f, .int .u8 l, .slice (some ⟨g, 0, none⟩) ss.length cap, .int .i8 s, .string q, .int .i16 e] 38)).heap[w1.heap.size]? := hb.block _ (by rw [ZA.out]; omega)
  have IB2 := Lib.hid ib2
  have ab2 := (hb.block w.heap.size (by rw [ZA.out]; have := HG.out; omega)).trans (XA.out.block w.heap.size (by rw [Z1.out]; omega))
  have AB2 := Lib.hid ab2
  have O2 : Hid (w2.ownsRow w.heap.size 9 1 (.slice (some ⟨g, 0, none⟩) ss.length cap) ss.length (sc ss)) := Lib.hid (own_base (own_below OA.out hb) (by rw [Z1.out]; omega))
  have B4 := Lib.hid (B3.out.trans (hb.mono B3.out.size))
  have C3 := rsame_walk n f q n f q l s e l s e ss ss (.slice (some ⟨g, 0, none⟩) ss.length cap) sl w2 (strs_own O2.out hss) (HS.out _ B4.out)
  rw [sameB_self] at C3
  have C3 := Lib.hid C3
  obtain ⟨i0, i1, i2, i3, i4, i5, i6⟩ : w2.cell? ⟨w1.heap.size, 0, none⟩ = some (.string n) ∧ w2.cell? ⟨w1.heap.size, 1, none⟩ = some (.string f) ∧ w2.cell? ⟨w1.heap.size, 2, none⟩ = some (.int .u8 l) ∧ w2.cell? ⟨w1.heap.size, 3, none⟩ = some (.slice (some ⟨g, 0, none⟩) ss.length cap) ∧ w2.cell? ⟨w1.heap.size, 4, none⟩ = some (.int .i8 s) ∧ w2.cell? ⟨w1.heap.size, 5, none⟩ = some (.string q) ∧ w2.cell? ⟨w1.heap.size, 6, none⟩ = some (.int .i16 e) := ⟨box_at ib2 0 rfl, box_at ib2 1 rfl, box_at ib2 2 rfl, box_at ib2 3 rfl, box_at ib2 4 rfl, box_at ib2 5 rfl, box_at ib2 6 rfl⟩
  obtain ⟨j0, j1, j2, j3, j4, j5, j6⟩ := AT.out w2 ab2
  clear hb ib2 ab2 C2 OA
  go_wp2_with fail
  refine C3.out.mono ?_
  rintro er w3 ⟨rfl, hb⟩
  have O3 := Lib.hid (own_below O2.out hb)
  have S3 := Lib.hid (strW_own O3.out hss)
  have hw12 : w1.heap.size < w2.heap.size := (Array.getElem?_eq_some_iff.1 (IB2.out.trans (heap_alloc_new w1 _))).1
  have IB3 : Hid (w3.heap[w1.heap.size]? = (w1.alloc (.cells #[.string n, .string f, .int .u8 l, .slice (some ⟨g, 0, none⟩) ss.length cap, .int .i8 s, .string q, .int .i16 e] 38)).heap[w1.heap.size]?) := Lib.hid ((hb.block _ hw12).trans IB2.out)
  have B5 := Lib.hid (B4.out.trans (hb.mono B4.out.size))
  have HG3 : Hid (w1.heap.size < w3.heap.size) := Lib.hid (Nat.lt_of_lt_of_le hw12 hb.size)
  clear hb C3 j0 j1 j2 j3 j4 j5 j6 i0 i1 i2 i3 i4 i5 i6 hw12
  have hnn : ss.length ≤ 8796093022208 := HN.out
  clear hss
  go_wp2_with fail
  go_loopg [11] ss.length (fun r v wr => ∃ k : Nat, k ≤ ss.length ∧ r = ss.length - k ∧ v = .int .i64 k ∧ Hid (Kept (fun j => j = g) w3 wr ∧ StrW wr w.heap.size (.slice (some ⟨g, 0, none⟩) ss.length cap)))
  case atStart => exact ⟨0, by omega, by omega, rfl, Lib.hid ⟨Kept.refl _ _, S3.out⟩⟩
  case round =>
    obtain ⟨k, hk, hr, rfl, hq⟩ := hrel
    have HR := Lib.hid hr
    have KG := Lib.hid hq.out.1
    have SW := Lib.hid hq.out.2
    clear hr hq
    have i3 : wr.cell? ⟨w1.heap.size, 3, none⟩ = some (.slice (some ⟨g, 0, none⟩) ss.length cap) := box_at ((KG.out.block _ HG3.out (by have := HG.out; omega)).trans IB3.out) 3 rfl
    by_cases hlt : k < ss.length
    · obtain ⟨b', off, s', eb, hb', hcs', hfz'⟩ := SW.out.get hlt
      cases eb
      rw [Nat.zero_add] at hcs' hfz'
      have hkc1 : (0 : Int) ≤ (k : Int) := by omega
      have hkc2 : (k : Int) < (ss.length : Int) := by omega
      have S6 := Lib.hid (SW.out.set hcs' ⟨#[126]⟩)
      have K6 : Hid (Kept (fun j => j = g) w3 (wr.setCell ⟨g, k, none⟩ (.string ⟨#[126]⟩))) := Lib.hid (KG.out.trans (kept_setString _ _ _ rfl))
      clear hb'
      go_wp2_with fail
      go_roundg (ss.length - (k + 1))
      case measure => rw [HR.out]; omega
      case rel => exact ⟨k + 1, by omega, rfl, by first | rfl | simp, Lib.hid ⟨K6.out, S6.out⟩⟩
    · obtain rfl : k = ss.length := by omega
      have BF : Hid (Below w.heap.size w wr) := Lib.hid (KG.out.out (fun k hk => by rw [hk]; have := HG.out; omega) B5.out B5.out.size)
      go_wp2_with fail
      go_ret
      exact ⟨rfl, BF.out⟩
/-- Any step of the script with no registry. -/
theorem nil_any (n f q p : ByteArray) (who kind l s e i sm : Int) (ss : List ByteArray) (sl : Value) (w : World) (hs : Strs w sl ss) (hn : ss.length ≤ 8796093022208) :
    Calls Try.prog 25 #[.pointer none, .pointer none, .agg #[.int .i64 who, .int .i64 kind, .string n, .string f, .int .u8 l, sl, .int .i8 s, .string q, .int .i16 e, .string p, .int .i64 i, .int .i64 sm]] w (GivesB true w) := by
  by_cases h1 : kind = 1
  · subst h1; exact nil_mark n f q p who l s e i sm sl w
  by_cases h2 : kind = 2
  · subst h2; exact nil_end n f q p who l s e i sm sl w
  by_cases h3 : kind = 3
  · subst h3; exact nil_tell n f q p who l s e i sm sl w
  exact nil_enter n f q p who kind l s e i sm ss sl w hs hn h1 h2 h3
/-- Any step of the script with two registries. -/
theorem step_any (T : Nat → Prop) (W : World) (B b m : Nat) (cs rs : List Cd) (ns : List Nt) (fz : Bool) (n f q p : ByteArray) (who kind l s e i sm : Int) (ss : List ByteArray) (sl : Value) (w : World) (hp : PairS T w B b m cs rs ns fz) (hBW : B = W.heap.size) (hW : Below B W w)
    (hs : Strs W sl ss) (hn : ss.length ≤ 8796093022208) (hok : Cd.ok ⟨n, f, l, ss, s, q, e⟩) :
    Calls Try.prog 25 #[.pointer (some ⟨b, 0, none⟩), .pointer (some ⟨m, 0, none⟩), .agg #[.int .i64 who, .int .i64 kind, .string n, .string f, .int .u8 l, sl, .int .i8 s, .string q, .int .i16 e, .string p, .int .i64 i, .int .i64 sm]] w (Stepped T w B b m) := by
  by_cases h1 : kind = 1
  · subst h1; exact step_mark T W B b m cs rs ns fz n f q p who l s e i sm sl w hp hBW hW
  by_cases h2 : kind = 2
  · subst h2; exact step_end T W B b m cs rs ns fz n f q p who l s e i sm sl w hp hBW hW
  by_cases h3 : kind = 3
  · subst h3; exact step_tell T W B b m cs rs ns fz n f q p who l s e i sm sl w hp hBW hW
  exact step_enter T W B b m cs rs ns fz n f q p who kind l s e i sm ss sl w hp hBW hW hs hn hok h1 h2 h3
end Go.Proofs.Ytpafbnmncioppaa
