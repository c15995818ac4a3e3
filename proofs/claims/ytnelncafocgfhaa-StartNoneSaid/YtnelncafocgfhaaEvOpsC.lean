/- Operations: conversions, places, slices, parts. -/
import Derived.Test.YtnelncafocgfhaaEvOpsB
import Derived.Laws.BytesString
import Derived.Laws.RangeString
import Derived.Laws.MakeOwn
namespace Go.Proofs.Ytnelncafocgfhaa
open Go.RowKit
namespace Ev
set_option linter.unusedSectionVars false
variable [Env]
section
variable {P : Program} {β : Beta} {w : World} {s : St}
theorem un_ok {op : UnOp} {a v : AV} {u : Value} (h : unAV op a = some v) (hu : Rep β a u) : VG P (Op.unary op u) β w v := by
  unfold unAV at h
  split at h
  · cases h; cases hu
    exact ⟨_, by simp only [Op.unary, Op.intArith, Sem.run_pure]; rfl, by rw [wrapK_eq]; rfl⟩
  · cases h; cases hu
    exact ⟨.bool _, rfl, rfl⟩
  · cases h
theorem conv_ok {src dst : TypeId} {a v : AV} {u : Value} (h : convAV P src dst a = some v) (hu : Rep β a u) : VG P (convert src dst u) β w v := by
  unfold convAV at h
  split at h
  · rename_i i j k n hi hj
    split at h
    · rename_i k' hd
      cases h; cases hu
      have h1 := run_under hi w
      have h2 := run_under hj w
      rw [hd] at h2
      refine ⟨.int k' (k'.wrap n), ?_, by rw [wrapK_eq]; rfl⟩
      unfold convert
      simp only [Sem.run_bind, h1, h2, Result.andThen_ok]
      cases i.d <;> rfl
    · cases h
  · rename_i i j l hi hj
    split at h
    · rename_i hd
      cases h; cases hu
      have h1 := run_under hi w
      have h2 := run_under hj w
      rw [hd] at h2
      refine ⟨.string ⟨l.toArray⟩, ?_, rfl⟩
      unfold convert
      simp only [Sem.run_bind, h1, h2, Result.andThen_ok]
      cases i.d <;> rfl
    · cases h
  · rename_i i j id l hi hj
    split at h
    · rename_i hd
      cases h
      obtain ⟨rfl, hl⟩ := hu
      have h1 := run_under hi w
      have h2 := run_under hj w
      rw [hd] at h2
      refine ⟨.string ⟨(Env.txt id).toArray⟩, ?_, ⟨rfl, hl⟩⟩
      unfold convert
      simp only [Sem.run_bind, h1, h2, Result.andThen_ok]
      cases i.d <;> rfl
    · cases h
  · rename_i i j l a b hi hj
    split at h
    · rename_i hd
      cases h
      obtain rfl := hu
      have h1 := run_under hi w
      have h2 := run_under hj w
      rw [hd] at h2
      refine ⟨.int .i64 (IntKind.i64.wrap (IntKind.i64.wrap (a + b * Env.of l))), ?_, ?_⟩
      · unfold convert
        simp only [Sem.run_bind, h1, h2, Result.andThen_ok]
        cases i.d <;> rfl
      · show Value.int .i64 _ = Value.int .i64 _
        rw [wrap64_eq (wrap64_mod _)]
    · cases h
  · cases h
theorem bytesOf_ok : ∀ {l : List AV} {b : List UInt8} {vs : List Value}, bytesOf l = some b → Reps β l vs → ∃ ns : List Int, vs = ns.map (Value.int .u8) ∧ b = ns.map fun n => UInt8.ofNat n.toNat
  | [], b, vs, h, hv => by cases h; exact ⟨[], hv, rfl⟩
  | .int .u8 (.ofNat n) :: l, b, vs, h, hv => by
    simp only [bytesOf] at h
    split at h
    · rename_i r hr
      cases hc : Nat.blt n 256 with
      | false => rw [hc] at h; cases h
      | true =>
        rw [hc] at h
        cases h
        obtain ⟨u, m, rfl, rfl, hl⟩ := hv
        obtain ⟨ns, rfl, rfl⟩ := bytesOf_ok hr hl
        exact ⟨(n : Int) :: ns, rfl, rfl⟩
    · cases h
theorem foldl_push : ∀ (ns : List Int) (a : ByteArray), ns.foldl (fun r n => r.push (UInt8.ofNat n.toNat)) a = ⟨a.data ++ (ns.map fun n => UInt8.ofNat n.toNat).toArray⟩
  | [], a => by simp
  | n :: ns, a => by
    rw [List.foldl_cons, foldl_push ns]
    simp [ByteArray.push]
theorem conv_bytes_ok {src dst e : TypeId} {i j k : TI} (hi : ti P src = some i) (hj : ti P dst = some j) (hk : ti P e = some k) (hid : i.d = .slice e) (hjd : j.d = .string) (hkd : k.d = .int .u8) {a : Addr} {len cap : Nat} {l : List AV} {b : List UInt8} {vs : List Value}
    (hl : (loadCells a len).run P w = .ok vs.toArray w) (hv : Reps β l vs) (hb : bytesOf l = some b) : VG P (convert src dst (.slice (some a) len cap)) β w (.str b) := by
  obtain ⟨_, _, _, g1, g2, _⟩ := ti_spec hi
  obtain ⟨_, _, _, g3, g4, _⟩ := ti_spec hj
  obtain ⟨_, _, _, g5, g6, _⟩ := ti_spec hk
  obtain ⟨ns, rfl, rfl⟩ := bytesOf_ok hb hv
  refine ⟨_, ?_, rfl⟩
  rw [run_convert_bytes_string w src dst e (some a) len cap (by rw [g2, hid]) (by rw [g6, hkd]) (by rw [g4, hjd]), run_bytesToString w a len cap ns hl, foldl_push]
  simp
/-! Places. -/
theorem field_addr_ok {st : TypeId} {i j : TI} (hi : ti P st = some i) {fs : Array Field} (hd : i.d = .struct fs) {f : Nat} {fd : Field} (hf : fs[f]? = some fd) (hj : ti P fd.type = some j) (hz : (j.size == 0) = false) {b off : Nat} {u : Value} (hu : Rep β (.ptr b off) u) :
    VG P (Instr.fieldAt st u f) β w (.ptr b (off + fd.offset)) := by
  obtain ⟨nb, t, hb, rfl⟩ := hu
  have hun := run_under hi w
  rw [hd] at hun
  have hz' : ¬ j.size = 0 := by simpa using hz
  refine ⟨.pointer (some ⟨nb, off + fd.offset, none⟩), ?_, nb, t, hb, rfl⟩
  simp only [Instr.fieldAt, Sem.run_bind, hun, Result.andThen_ok, hf, Instr.sureAddr, fieldPlace, run_size hj, Sem.run_pure, hz', if_false, addr_add]
theorem field_ok {t : TypeId} {i j : TI} (hi : ti P t = some i) {fs : Array Field} (hd : i.d = .struct fs) {f : Nat} {fd : Field} (hf : fs[f]? = some fd) (hj : ti P fd.type = some j) {cs : List AV} {u : Value} (hu : Rep β (.agg cs) u) {v : AV} (h : partAV j cs fd.offset = some v) :
    VG P (Instr.field t u f) β w v := by
  obtain ⟨vs, rfl, hr⟩ := hu
  obtain ⟨x, hx, hxr⟩ := part_ok hj hr h
  have hun := run_under hi w
  rw [hd] at hun
  refine ⟨x, ?_, hxr⟩
  simp only [Instr.field, Sem.run_bind, hun, Result.andThen_ok, hf, asAgg, Sem.run_pure, hx w]
theorem index_addr_arr_ok {t e : TypeId} {n : Nat} {i j : TI} (hi : ti P t = some i) (hd : i.d = .array n e) (hj : ti P e = some j) {b off : Nat} {u : Value} (hu : Rep β (.ptr b off) u) {kk : IntKind} {k : Int} (h0 : 0 ≤ k) (h1 : k < (n : Int)) :
    VG P (Instr.indexAt t u (.int kk k)) β w (.ptr b (off + k.toNat * j.size)) := by
  obtain ⟨nb, tt, hb, rfl⟩ := hu
  have hun := run_under hi w
  rw [hd] at hun
  refine ⟨.pointer (some ⟨nb, off + k.toNat * j.size, none⟩), ?_, nb, tt, hb, rfl⟩
  simp only [Instr.indexAt, asIntOf, Sem.run_bind, Sem.run_pure, hun, Result.andThen_ok, Instr.sureAddr, Bool.and_true, h0, h1, and_self, if_true, run_size hj, addr_add]
theorem index_addr_slc_ok {t e : TypeId} {i j : TI} (hi : ti P t = some i) (hd : i.d = .slice e) (hj : ti P e = some j) {b off len : Nat} {cap : ACap} {u : Value} (hu : Rep β (.slc b off len cap) u) {kk : IntKind} {k : Int} (h0 : 0 ≤ k) (h1 : k < (len : Int)) :
    VG P (Instr.indexAt t u (.int kk k)) β w (.ptr b (off + k.toNat * j.size)) := by
  obtain ⟨nb, tt, c, hb, rfl, _⟩ := hu
  have hun := run_under hi w
  rw [hd] at hun
  refine ⟨.pointer (some ⟨nb, off + k.toNat * j.size, none⟩), ?_, nb, tt, hb, rfl⟩
  simp only [Instr.indexAt, asIntOf, Sem.run_bind, Sem.run_pure, hun, Result.andThen_ok, h0, h1, and_self, if_true, run_size hj, addr_add]
theorem index_arr_ok {t e : TypeId} {n : Nat} {i j : TI} (hi : ti P t = some i) (hd : i.d = .array n e) (hj : ti P e = some j) {cs : List AV} {u : Value} (hu : Rep β (.agg cs) u) {kk : IntKind} {k : Int} (h0 : 0 ≤ k) (h1 : k < (n : Int)) {v : AV} (h : partAV j cs (k.toNat * j.size) = some v) :
    VG P (Instr.index t u (.int kk k)) β w v := by
  obtain ⟨vs, rfl, hr⟩ := hu
  obtain ⟨x, hx, hxr⟩ := part_ok hj hr h
  have hun := run_under hi w
  rw [hd] at hun
  refine ⟨x, ?_, hxr⟩
  simp only [Instr.index, asIntOf, Sem.run_bind, Sem.run_pure, hun, Result.andThen_ok, h0, h1, and_self, if_true, run_size hj, hx w]
theorem index_str_ok {t : TypeId} {i : TI} (hi : ti P t = some i) (hd : i.d = .string) {bs : List UInt8} {u : Value} (hu : Rep β (.str bs) u) {kk : IntKind} {k : Int} (h0 : 0 ≤ k) {c : UInt8} (h : bs[k.toNat]? = some c) :
    VG P (Instr.index t u (.int kk k)) β w (.int .u8 c.toNat) := by
  cases hu
  have hun := run_under hi w
  rw [hd] at hun
  refine ⟨.int .u8 c.toNat, ?_, rfl⟩
  have hlt : k.toNat < bs.length := (List.getElem?_eq_some_iff.1 h).1
  have hc : (ByteArray.mk bs.toArray)[k.toNat]? = some c := by
    rw [getElem?_pos _ _ (by rw [size_mk]; exact hlt)]
    have : bs[k.toNat] = c := by
      rw [List.getElem?_eq_getElem hlt] at h; exact Option.some.inj h
    rw [← this]; rfl
  simp only [Instr.index, asIntOf, Sem.run_bind, Sem.run_pure, hun, Result.andThen_ok, h0, if_true, hc]
theorem extract_ok {l : List AV} {u : Value} (hu : Rep β (.tup l) u) {k : Nat} {v : AV} (h : l[k]? = some v) : VG P (Instr.extract u k) β w v := by
  obtain ⟨vs, rfl, hr⟩ := hu
  obtain ⟨x, hx, hxr⟩ := hr.at k v h
  have : vs[k]? = some x := by simpa using hx
  exact ⟨x, by simp only [Instr.extract, this, Sem.run_pure], hxr⟩
/-! Slices. -/
def OptRep (β : Beta) : Option AV → Option Value → Prop
  | none, v => v = none
  | some a, v => ∃ u, v = some u ∧ Rep β a u
theorem bound_ok {x : AV} {y n : Nat} (h : bound x y = some n) {u : Value} (hu : Rep β x u) (code : BoundsCode) : (∀ Y w, y ≤ Y → (Instr.sliceBound u Y code).run P w = .ok n w) ∧ n ≤ y := by
  unfold bound at h
  split at h
  · rename_i k i
    cases hu
    cases hc : (decide (0 ≤ i) && decide (i ≤ (y : Int))) with
    | false => rw [hc] at h; cases h
    | true =>
      rw [hc] at h
      cases h
      simp only [Bool.and_eq_true, decide_eq_true_eq] at hc
      refine ⟨fun Y w hy => ?_, by omega⟩
      have : 0 ≤ i ∧ i ≤ (Y : Int) := ⟨hc.1, by omega⟩
      simp only [Instr.sliceBound, asIntOf, Sem.run_bind, Sem.run_pure, Result.andThen_ok, this, and_self, if_true]
  · cases h
theorem boundOr_ok {x : Option AV} {y d n : Nat} (h : boundOr x y d = some n) {u : Option Value} (hu : OptRep β x u) (hd : x = none → d ≤ y) : n ≤ y ∧
    match u with
    | some v => ∀ Y w code, y ≤ Y → (Instr.sliceBound v Y code).run P w = .ok n w
    | none => n = d := by
  cases x with
  | none =>
    cases h
    cases hu
    exact ⟨hd rfl, rfl⟩
  | some a =>
    obtain ⟨v, rfl, hv⟩ := hu
    exact ⟨(bound_ok (P := P) h hv .index).2, fun Y w code hY => (bound_ok h hv code).1 Y w hY⟩
/-- The bounds of a slice expression without a third. -/
theorem bounds2_ok {isS : Bool} {len cap top h l : Nat} {hi lo : Option AV} {uh ul : Option Value} (h1 : boundOr hi top len = some h) (h2 : boundOr lo h 0 = some l) (ht : top ≤ cap) (hlt : hi = none → len ≤ top) (rh : OptRep β hi uh) (rl : OptRep β lo ul) :
    (Instr.sliceBounds isS len cap ul uh none).run P w = .ok (l, h, cap) w ∧ l ≤ h ∧ h ≤ top := by
  obtain ⟨a1, a2⟩ := boundOr_ok (P := P) h1 rh hlt
  obtain ⟨b1, b2⟩ := boundOr_ok (P := P) h2 rl (fun _ => Nat.zero_le _)
  refine ⟨?_, b1, a1⟩
  unfold Instr.sliceBounds
  cases uh with
  | none =>
    obtain rfl : h = len := a2
    cases ul with
    | none => obtain rfl : l = 0 := b2; simp
    | some v => simp [b2 h w .sliceB (Nat.le_refl _)]
  | some x =>
    simp only [Sem.run_bind, Sem.run_pure, Result.andThen_ok, a2 cap w _ ht]
    cases ul with
    | none => obtain rfl : l = 0 := b2; simp
    | some v => simp [b2 h w .sliceB (Nat.le_refl _)]
/-- .. with a third. -/
theorem bounds3_ok {isS : Bool} {len cap top m h l : Nat} {mx hi : AV} {lo : Option AV} {um uh : Value} {ul : Option Value} (h0 : bound mx top = some m) (h1 : bound hi m = some h) (h2 : boundOr lo h 0 = some l) (ht : top ≤ cap) (rm : Rep β mx um) (rh : Rep β hi uh) (rl : OptRep β lo ul) :
    (Instr.sliceBounds isS len cap ul (some uh) (some um)).run P w = .ok (l, h, m) w ∧ l ≤ h ∧ h ≤ m ∧ m ≤ top := by
  have a := bound_ok (P := P) h0 rm
  have b := bound_ok (P := P) h1 rh
  obtain ⟨b1, b2⟩ := boundOr_ok (P := P) h2 rl (fun _ => Nat.zero_le _)
  refine ⟨?_, b1, (b .index).2, (a .index).2⟩
  unfold Instr.sliceBounds
  simp only [Sem.run_bind, (a _).1 cap w ht, (b _).1 m w (Nat.le_refl _), Result.andThen_ok]
  cases ul with
  | none => obtain rfl : l = 0 := b2; simp
  | some v => simp [b2 h w .slice3C (Nat.le_refl _)]
theorem orNone {α : Type} {x : Option α} (h : x.isNone = false) : ∃ a, x = some a := by
  cases x with
  | none => cases h
  | some a => exact ⟨a, rfl⟩
theorem slice_ok {t : TypeId} {x : AV} {lo hi mx : Option AV} {v : AV} {u : Value} {ul uh um : Option Value} (h : sliceAV P t x lo hi mx = some v) (hx : Rep β x u) (rl : OptRep β lo ul) (rh : OptRep β hi uh) (rm : OptRep β mx um) : VG P (Instr.sliceAt t u ul uh um) β w v := by
  unfold sliceAV at h
  split at h
  case h_1 => cases h
  case h_2 i hi' =>
  have hun := run_under hi' w
  split at h
  case h_1 bs hd =>
    -- a text
    cases hx
    rw [hd] at hun
    split at h
    case h_1 => cases h
    case h_2 =>
    cases rm
    split at h
    case h_1 => cases h
    case h_2 hh h1 =>
    split at h
    case h_1 => cases h
    case h_2 ll h2 =>
    cases h
    obtain ⟨b1, b2, b3⟩ := bounds2_ok (P := P) (w := w) (isS := false) (cap := bs.length) h1 h2 (Nat.le_refl _) (fun _ => Nat.le_refl _) rh rl
    refine ⟨.string ((ByteArray.mk bs.toArray).extract ll hh), ?_, ?_⟩
    · simp only [Instr.sliceAt, Sem.run_bind, hun, Result.andThen_ok, Instr.slice, Option.isSome_none, Bool.false_eq_true, if_false, size_mk, b1, Sem.run_pure]
    · simp only [Rep]
      congr 1
      apply ByteArray.ext
      rw [ByteArray.data_extract]
      apply Array.ext'
      simp [List.extract_eq_take_drop]
  case h_2 n e b off hd =>
    -- an array's address
    obtain ⟨nb, tt, hb, rfl⟩ := hx
    rw [hd] at hun
    split at h
    case h_1 => cases h
    case h_2 j hj =>
    split at h
    case h_1 => cases h
    case h_2 m h0 =>
    split at h
    case h_1 => cases h
    case h_2 hh h1 =>
    split at h
    case h_1 => cases h
    case h_2 ll h2 =>
    cases hc : (mx.isSome && hi.isNone) with
    | true => rw [hc] at h; cases h
    | false =>
      rw [hc] at h
      cases h
      have fin : ∀ {mm : Nat}, (Instr.sliceBounds false n n ul uh um).run P w = .ok (ll, hh, mm) w → mm = m → hh - ll ≤ m - ll →
          VG P (Instr.sliceAt t (.pointer (some ⟨nb, off, none⟩)) ul uh um) β w (.slc b (bif m == ll then off else off + ll * j.size) (hh - ll) (.fix (m - ll))) := by
        rintro mm hr rfl hle
        refine ⟨.slice (some ⟨nb, bif mm == ll then off else off + ll * j.size, none⟩) (hh - ll) (mm - ll), ?_, nb, tt, mm - ll, hb, rfl, hle, rfl⟩
        simp only [Instr.sliceAt, Sem.run_bind, hun, Result.andThen_ok, Instr.sureAddr, Sem.run_pure, hr, run_size hj]
        by_cases hml : mm = ll
        · simp [hml]
        · have : (mm == ll) = false := by simpa using hml
          simp only [hml, if_false, this, cond_false, addr_add]
      cases mx with
      | none =>
        cases h0
        cases rm
        obtain ⟨b1, b2, b3⟩ := bounds2_ok (P := P) (w := w) (isS := false) (len := n) (cap := n) h1 h2 (Nat.le_refl _) (fun _ => Nat.le_refl _) rh rl
        exact fin b1 rfl (by omega)
      | some mv =>
        obtain ⟨hv, rfl⟩ := orNone (x := hi) (by simpa using hc)
        obtain ⟨u1, rfl, r1⟩ := rm
        obtain ⟨u2, rfl, r2⟩ := rh
        obtain ⟨b1, b2, b3, b4⟩ := bounds3_ok (P := P) (w := w) (isS := false) (len := n) (cap := n) h0 h1 h2 (Nat.le_refl _) r1 r2 rl
        exact fin b1 rfl (by omega)
  case h_3 e b off len cap hd =>
    -- a slice whose capacity is known
    obtain ⟨nb, tt, c, hb, rfl, hlc, rfl⟩ := hx
    rw [hd] at hun
    split at h
    case h_1 => cases h
    case h_2 j hj =>
    split at h
    case h_1 => cases h
    case h_2 m h0 =>
    split at h
    case h_1 => cases h
    case h_2 hh h1 =>
    split at h
    case h_1 => cases h
    case h_2 ll h2 =>
    cases hc : (mx.isSome && hi.isNone) with
    | true => rw [hc] at h; cases h
    | false =>
      rw [hc] at h
      cases h
      have fin : ∀ {mm : Nat}, (Instr.sliceBounds true len c ul uh um).run P w = .ok (ll, hh, mm) w → mm = m → hh - ll ≤ m - ll →
          VG P (Instr.sliceAt t (.slice (some ⟨nb, off, none⟩) len c) ul uh um) β w (.slc b (bif m == ll then off else off + ll * j.size) (hh - ll) (.fix (m - ll))) := by
        rintro mm hr rfl hle
        refine ⟨.slice (some ⟨nb, bif mm == ll then off else off + ll * j.size, none⟩) (hh - ll) (mm - ll), ?_, nb, tt, mm - ll, hb, rfl, hle, rfl⟩
        simp only [Instr.sliceAt, Instr.slice, Sem.run_bind, hun, Result.andThen_ok, Sem.run_pure, hr, run_size hj]
        by_cases hml : mm = ll
        · simp [hml]
        · have : (mm == ll) = false := by simpa using hml
          simp only [hml, if_false, this, cond_false, Option.map_some, addr_add]
      cases mx with
      | none =>
        cases h0
        cases rm
        obtain ⟨b1, b2, b3⟩ := bounds2_ok (P := P) (w := w) (isS := true) (len := len) (cap := c) h1 h2 (Nat.le_refl _) (fun _ => hlc) rh rl
        exact fin b1 rfl (by omega)
      | some mv =>
        obtain ⟨hv, rfl⟩ := orNone (x := hi) (by simpa using hc)
        obtain ⟨u1, rfl, r1⟩ := rm
        obtain ⟨u2, rfl, r2⟩ := rh
        obtain ⟨b1, b2, b3, b4⟩ := bounds3_ok (P := P) (w := w) (isS := true) (len := len) (cap := c) h0 h1 h2 (Nat.le_refl _) r1 r2 rl
        exact fin b1 rfl (by omega)
  case h_4 e b off len size least hd =>
    -- a slice whose capacity is open
    obtain ⟨nb, tt, c, hb, rfl, hlc, hle, htt, hsz, hcm⟩ := hx
    rw [hd] at hun
    split at h
    case h_1 => cases h
    case h_2 j hj =>
    cases hjs : (j.size == size && Nat.ble len least) with
    | false => rw [hjs] at h; cases h
    | true =>
    rw [hjs] at h
    simp only [Bool.and_eq_true, Nat.ble_eq] at hjs
    obtain ⟨hjs1, hll⟩ := hjs
    obtain rfl := eq_of_beq hjs1
    simp only [cond_true] at h
    have fin : ∀ {ll hh mm : Nat}, (Instr.sliceBounds true len c ul uh um).run P w = .ok (ll, hh, mm) w →
        (Instr.sliceAt t (.slice (some ⟨nb, off, none⟩) len c) ul uh um).run P w = .ok (.slice (some ⟨nb, bif mm == ll then off else off + ll * j.size, none⟩) (hh - ll) (mm - ll)) w := by
      intro ll hh mm hr
      simp only [Instr.sliceAt, Instr.slice, Sem.run_bind, hun, Result.andThen_ok, Sem.run_pure, hr, run_size hj]
      by_cases hml : mm = ll
      · simp [hml]
      · have : (mm == ll) = false := by simpa using hml
        simp only [hml, if_false, this, cond_false, Option.map_some, addr_add]
    split at h
    case h_1 mv =>
      split at h
      case h_1 => cases h
      case h_2 m h0 =>
      split at h
      case h_1 => cases h
      case h_2 hh h1 =>
      split at h
      case h_1 => cases h
      case h_2 ll h2 =>
      cases hhn : hi.isNone with
      | true => rw [hhn] at h; cases h
      | false =>
        rw [hhn] at h
        cases h
        obtain ⟨hv, rfl⟩ := orNone hhn
        obtain ⟨u1, rfl, r1⟩ := rm
        obtain ⟨u2, rfl, r2⟩ := rh
        obtain ⟨b1, b2, b3, b4⟩ := bounds3_ok (P := P) (w := w) (isS := true) (len := len) (cap := c) h0 h1 h2 hle r1 r2 rl
        exact ⟨_, fin b1, nb, tt, m - ll, hb, rfl, by omega, rfl⟩
    case h_2 =>
      cases rm
      split at h
      case h_1 => cases h
      case h_2 hh h1 =>
      split at h
      case h_1 => cases h
      case h_2 ll h2 =>
      obtain ⟨b1, b2, b3⟩ := bounds2_ok (P := P) (w := w) (isS := true) (len := len) (cap := c) h1 h2 hle (fun _ => hll) rh rl
      cases h0 : (ll == 0) with
      | true =>
        rw [h0] at h
        cases h
        obtain rfl := eq_of_beq h0
        refine ⟨_, fin b1, nb, tt, c, hb, ?_, by omega, hle, htt, hsz, hcm⟩
        cases hz : (c == 0) <;> simp
      | false =>
        rw [h0] at h
        simp only [cond_false] at h
        cases hlt : Nat.blt ll least with
        | true =>
          rw [hlt] at h
          cases h
          have hlt' : ll + 1 ≤ least := by simpa [Nat.blt, Nat.ble_eq] using hlt
          have hne : (c == ll) = false := by simp; omega
          refine ⟨_, fin b1, nb, tt, c - ll, hb, by rw [hne]; rfl, by omega, by omega, ?_, hsz, by omega⟩
          rw [← htt, Nat.add_assoc, ← Nat.add_mul, show ll + (c - ll) = c by omega]
        | false =>
          rw [hlt] at h
          cases h
          have : hh - ll = 0 := by
            have : ¬ (ll + 1 ≤ least) := by intro g; rw [blt_of (by omega : ll < least)] at hlt; cases hlt
            omega
          refine ⟨_, fin b1, ?_⟩
          rw [this]
          exact ⟨_, _, rfl⟩
  case h_5 e hd =>
    -- an empty slice, somewhere
    obtain ⟨a, c, rfl⟩ := hx
    rw [hd] at hun
    split at h
    case h_1 => cases h
    case h_2 j hj =>
    split at h
    case h_1 => cases h
    case h_2 =>
    cases rm
    split at h
    case h_1 => cases h
    case h_2 hh h1 =>
    split at h
    case h_1 => cases h
    case h_2 ll h2 =>
    cases h
    obtain ⟨b1, b2, b3⟩ := bounds2_ok (P := P) (w := w) (isS := true) (len := 0) (cap := c) h1 h2 (Nat.zero_le _) (fun _ => Nat.le_refl _) rh rl
    obtain rfl : hh = 0 := by omega
    obtain rfl : ll = 0 := by omega
    refine ⟨.slice (some (if c = 0 then a else a.add 0)) 0 c, ?_, ⟨_, _, rfl⟩⟩
    simp only [Instr.sliceAt, Instr.slice, Sem.run_bind, hun, Result.andThen_ok, Sem.run_pure, b1, run_size hj, Nat.zero_mul, Option.map_some, Nat.sub_zero]
    by_cases hc : c = 0 <;> simp [hc]
  case h_6 e hd =>
    cases hx
    rw [hd] at hun
    split at h
    case h_1 => cases h
    case h_2 j hj =>
    split at h
    case h_1 => cases h
    case h_2 m h0 =>
    split at h
    case h_1 => cases h
    case h_2 hh h1 =>
    split at h
    case h_1 => cases h
    case h_2 ll h2 =>
    cases hc : (mx.isSome && hi.isNone) with
    | true => rw [hc] at h; cases h
    | false =>
      rw [hc] at h
      cases h
      have fin : (Instr.sliceBounds true 0 0 ul uh um).run P w = .ok (0, 0, 0) w → VG P (Instr.sliceAt t (.slice none 0 0) ul uh um) β w .nils := by
        intro hr
        refine ⟨.slice none 0 0, ?_, rfl⟩
        simp only [Instr.sliceAt, Instr.slice, Sem.run_bind, hun, Result.andThen_ok, Sem.run_pure, hr, run_size hj]
        simp
      cases mx with
      | none =>
        cases h0
        cases rm
        obtain ⟨b1, b2, b3⟩ := bounds2_ok (P := P) (w := w) (isS := true) (len := 0) (cap := 0) h1 h2 (Nat.le_refl _) (fun _ => Nat.le_refl _) rh rl
        obtain rfl : hh = 0 := by omega
        obtain rfl : ll = 0 := by omega
        exact fin b1
      | some mv =>
        obtain ⟨hv, rfl⟩ := orNone (x := hi) (by simpa using hc)
        obtain ⟨u1, rfl, r1⟩ := rm
        obtain ⟨u2, rfl, r2⟩ := rh
        obtain ⟨b1, b2, b3, b4⟩ := bounds3_ok (P := P) (w := w) (isS := true) (len := 0) (cap := 0) h0 h1 h2 (Nat.le_refl _) r1 r2 rl
        obtain rfl : m = 0 := by omega
        obtain rfl : hh = 0 := by omega
        obtain rfl : ll = 0 := by omega
        exact fin b1
  case h_7 => cases h
end
end Ev
end Go.Proofs.Ytnelncafocgfhaa
