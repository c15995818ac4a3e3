/- Names: the program's test, by runes. -/
import Derived.Test.YtnkababhgloclaaNameC
import Derived.Lib.Bytealg
import Derived.Lib.Walk
import Derived.Lib.OthersKept
import Derived.Lib.TrimU
import Derived.Lib.IndexLaws
import Derived.Laws.Runes
import Derived.Deep.QuietTactic
import Derived.BigQuiet
import Derived.Below
namespace Go.Proofs.Ytnkababhgloclaa
open Go.RowKit Go.Lib
namespace Nm
set_option maxHeartbeats 1000000 in
set_option maxRecDepth 100000 in
theorem sb_any (s : ByteArray) (c : Int) (w : World) :
    Calls Try.prog 84 #[.string s, .int .u8 c] w fun e w' => e = .returned (.int .i64 (Lib.indexByte s.data.toList c.toNat.toUInt8)) ∧ w' = w := by
  go_enter Try.func84, Try.ntmps84
  go_wp2
  rw [run_callFunc_extern Try.func88 (by kernel_rfl) (by kernel_rfl) (by kernel_rfl) (e := Extern.BytealgIndexByte.indexByte) (by kernel_rfl), Lib.run_indexByteString]
  simp only [Result.andThen]
  rw [Oper.upon_value]
  go_wp2
  go_ret
  exact ⟨rfl, rfl⟩
set_option maxHeartbeats 1000000 in
theorem ib_any (s : ByteArray) (c : Int) (w : World) :
    Calls Try.prog 79 #[.string s, .int .u8 c] w fun e w' => e = .returned (.int .i64 (Lib.indexByte s.data.toList c.toNat.toUInt8)) ∧ w' = w := by
  go_enter Try.func79, Try.ntmps79
  go_wp2_with (go_at_call 84; refine (sb_any _ _ _).mono ?_; rintro e w' ⟨rfl, rfl⟩)
  go_ret
  exact ⟨rfl, rfl⟩
/-- The marks. -/
def marks : ByteArray := ⟨#[44, 46, 95, 43, 45, 64, 35, 63]⟩
def isMark (r : Nat) : Bool := r == 44 || r == 46 || r == 95 || r == 43 || r == 45 || r == 64 || r == 35 || r == 63
set_option maxRecDepth 100000 in
theorem vr_any (r : Int) (w : World) (h0 : 0 ≤ r) : Calls Try.prog 89 #[.int .i32 r] w fun e w' => e = .returned (.bool (validRune r)) ∧ w' = w := by
  unfold validRune
  have hw : (r < 55296) ∨ (55296 ≤ r ∧ r ≤ 57343) ∨ (57343 < r ∧ r ≤ 1114111) ∨ 1114111 < r := by omega
  rcases hw with h | h | h | h
  · rw [decide_eq_true (by omega)]
    go_enter Try.func89, Try.ntmps89
    go_wp2
    go_ret
    exact ⟨rfl, rfl⟩
  · rw [decide_eq_false (by omega)]
    go_enter Try.func89, Try.ntmps89
    go_wp2
    go_ret
    exact ⟨rfl, rfl⟩
  · rw [decide_eq_true (by omega)]
    go_enter Try.func89, Try.ntmps89
    go_wp2
    go_ret
    exact ⟨rfl, rfl⟩
  · rw [decide_eq_false (by omega)]
    have b1 : decide (r ≤ 1114111) = false := decide_eq_false (by omega)
    go_enter Try.func89, Try.ntmps89
    go_wp2
    go_ret
    exact ⟨rfl, rfl⟩
set_option maxHeartbeats 4000000 in
set_option maxRecDepth 100000 in
theorem ir_ascii (r : Nat) (w : World) (h1 : r < 128) :
    Calls Try.prog 87 #[.string marks, .int .i32 r] w fun e w' => e = .returned (.int .i64 (Lib.indexByte marks.data.toList r.toUInt8)) ∧ Below w.heap.size w w' := by
  have e1 : (r : Int).toNat.toUInt8 = r.toUInt8 := by simp
  go_enter Try.func87, Try.ntmps87
  go_wp2_with fail
  refine (ib_any _ _ _).mono ?_
  rintro e w' ⟨rfl, rfl⟩
  rw [e1]
  go_wp2_with fail
  go_ret
  exact ⟨rfl, Below.refl _ _⟩
set_option maxHeartbeats 4000000 in
set_option maxRecDepth 100000 in
theorem ir_bad (r : Int) (w : World) (h1 : 128 ≤ r) (h2 : r ≠ 65533) (h3 : validRune r = false) :
    Calls Try.prog 87 #[.string marks, .int .i32 r] w fun e w' => e = .returned (.int .i64 (-1)) ∧ Below w.heap.size w w' := by
  have e1 : (r == 65533) = false := beq_eq_false_iff_ne.2 (by omega)
  have hV := vr_any r w (by omega)
  rw [h3] at hV
  have HV := Lib.hid hV
  clear hV h3
  go_enter Try.func87, Try.ntmps87
  go_wp2_with fail
  refine HV.out.mono ?_
  rintro e w' ⟨rfl, rfl⟩
  go_wp2_with fail
  go_ret
  exact ⟨rfl, Below.refl _ _⟩
theorem marks_dec : ∀ pos : Fin 8, (Utf8.decode marks pos.val).1 < 128 ∧ (Utf8.decode marks pos.val).2 = 1 := by decide
set_option maxHeartbeats 4000000 in
set_option maxRecDepth 100000 in
theorem ir_fffd (w : World) :
    Calls Try.prog 87 #[.string marks, .int .i32 65533] w fun e w' => e = .returned (.int .i64 (-1)) ∧ Below w.heap.size w w' := by
  go_enter Try.func87, Try.ntmps87
  go_wp2_with fail
  go_loopg [] 8 (fun gf wx => ∃ pos : Nat, wx.heap[w.heap.size]? = some (.stringIter marks pos) ∧ Below w.heap.size w wx ∧ pos + gf = 8)
  case atStart => exact ⟨0, World.iter_heap w marks 0, (Below.refl _ w).alloc (Nat.le_refl _) _, by omega⟩
  case round =>
    obtain ⟨pos, hit, hbw, hfu⟩ := hrel
    by_cases hps : pos < 8
    · obtain ⟨g', rfl⟩ : ∃ g', gk = g' + 1 := ⟨gk - 1, by omega⟩
      have hnx : ∀ ty, (Instr.next (.pointer (some ⟨w.heap.size, 0, none⟩)) true ty).run Try.prog wr = _ := fun ty => Lib.run_next_any_at wr w.heap.size marks pos ty hit hps
      obtain ⟨h1, h2⟩ := marks_dec ⟨pos, hps⟩
      simp only at h1 h2
      obtain ⟨R, hR⟩ : ∃ R, (Utf8.decode marks pos).1 = R := ⟨_, rfl⟩
      rw [hR, h2] at hnx
      rw [hR] at h1
      have hit2 := Lib.iterAt_heap wr w.heap.size marks pos (pos + 1) hit
      have hbw2 := Lib.below_iterAt hbw (k := w.heap.size) (Nat.le_refl _) marks (pos + 1)
      obtain ⟨W, hWd⟩ : ∃ W, wr.iterAt w.heap.size marks (pos + 1) = W := ⟨_, rfl⟩
      rw [hWd] at hnx hit2 hbw2
      have e1 : ((R : Int) == 65533) = false := beq_eq_false_iff_ne.2 (by omega)
      clear hR h2 hWd hit hbw
      have H1 := Lib.hid hit2
      have H2 := Lib.hid hbw2
      clear hit2 hbw2
      go_wp2_with fail
      go_roundg g'
      case measure => omega
      case rel => exact ⟨pos + 1, H1.out, H2.out, by omega⟩
    · have hnx : ∀ ty, (Instr.next (.pointer (some ⟨w.heap.size, 0, none⟩)) true ty).run Try.prog wr = _ := fun ty => Lib.run_next_end_at wr w.heap.size marks pos ty hit hps
      have H2 := Lib.hid hbw
      clear hbw hit
      go_wp2_with fail
      go_ret
      exact ⟨rfl, H2.out⟩
theorem marks_ascii : ∀ b ∈ marks.data.toList, b.toNat < 128 := by decide
theorem indexByte_high (l : List UInt8) (c : UInt8) (h : ∀ b ∈ l, b.toNat < 128) (hc : 128 ≤ c.toNat) : Lib.indexByte l c = -1 := by
  have hg := Lib.indexByte_ge l c
  rcases Int.lt_or_le (Lib.indexByte l c) 0 with h1 | h1
  · omega
  · obtain ⟨o, ho⟩ : ∃ o : Nat, Lib.indexByte l c = o := ⟨(Lib.indexByte l c).toNat, by omega⟩
    obtain ⟨h2, _⟩ := Lib.indexByte_some ho
    have := h c (List.mem_of_getElem? h2)
    omega
theorem ib_none (a e : Nat) (b : UInt8) (w : World) (hb : 128 ≤ b.toNat) : Calls Try.prog 79 #[.string (marks.extract a e), .int .u8 (b.toNat : Int)] w fun e w' => e = .returned (.int .i64 (-1)) ∧ w' = w := by
  have h := ib_any (marks.extract a e) (b.toNat : Int) w
  have e1 : ((b.toNat : Int)).toNat.toUInt8 = b := by simp
  rw [e1, indexByte_high _ b (fun x hx => marks_ascii x (mem_extract hx)) hb] at h
  exact h
set_option maxHeartbeats 4000000 in
set_option maxRecDepth 100000 in
theorem ir_valid (r : Int) (w : World) (h1 : 128 ≤ r) (h2 : r ≠ 65533) (h3 : validRune r = true) :
    Calls Try.prog 87 #[.string marks, .int .i32 r] w fun e w' => e = .returned (.int .i64 (-1)) ∧ Below w.heap.size w w' := by
  have e1 : (r == 65533) = false := beq_eq_false_iff_ne.2 (by omega)
  obtain ⟨f1, f2, f3⟩ := encode_facts r (by rw [validRune_eq]; exact h3) h1
  have hV := vr_any r w (by omega)
  rw [h3] at hV
  have HV := Lib.hid hV
  clear hV h3
  obtain ⟨E, hE⟩ : ∃ E, Utf8.encode r = E := ⟨_, rfl⟩
  rw [hE] at f1 f2 f3
  have hE2 : ∀ (w : World), (convert 21 9 (.int .i32 r)).run Try.prog w = .ok (.string E) w := fun w => by rw [run_convert_int_string w 21 9 .i32 r (by rfl) Try.underlying9, hE]
  have hms : (marks.size : Int) = 8 := rfl
  have hsz : E.size = 2 ∨ E.size = 3 ∨ E.size = 4 := by omega
  go_enter Try.func87, Try.ntmps87
  go_wp2_with fail
  refine HV.out.mono ?_
  rintro e w' ⟨rfl, rfl⟩
  clear HV
  rcases hsz with hsz | hsz | hsz
  · have f4 := f3 (by omega)
    have hl : (E.size : Int) = 2 := by omega
    obtain ⟨b, hb⟩ : ∃ b, E[1]'(by omega) = b := ⟨_, rfl⟩
    have f5 : 128 ≤ b.toNat := by rw [← hb]; simpa [hsz] using f4
    have hg : ∀ h : 1 < E.size, E[1] = b := fun _ => hb
    clear f3 f4 hb f1 f2
    go_wp2_with fail
    go_step3
    go_wp2_with fail
    go_loopg [9] 1 (fun rr v9 wr => v9 = .int .i64 1 ∧ wr = w')
    case atStart => exact ⟨rfl, rfl⟩
    case round =>
      obtain ⟨rfl, rfl⟩ := hrel
      have n1 : ((46 : Int) == (b.toNat : Int)) = false := beq_eq_false_iff_ne.2 (by omega)
      have n2 : ((46 : Int) != (b.toNat : Int)) = true := bne_iff_ne.2 (by omega)
      have w2 : IntKind.i64.wrap 2 = 2 := by decide
      have hmk : ∀ h : 1 < marks.size, marks[1] = 46 := fun _ => rfl
      go_wp2_with fail
      go_step3
      go_wp2_with fail
      go_quiet (fail)
      go_wp2_with fail
      go_quiet ((go_at_call 79; exact quiet_at (ib_none _ _ b _ f5)))
      go_wp2_with fail
      rw [Exit.noGoto_ret]
      go_wp2_with fail
      rw [Exit.noGoto_ret]
      go_ret
      exact ⟨rfl, below_drewN (Below.refl _ _) _⟩
  · have f4 := f3 (by omega)
    have hl : (E.size : Int) = 3 := by omega
    obtain ⟨b, hb⟩ : ∃ b, E[2]'(by omega) = b := ⟨_, rfl⟩
    have f5 : 128 ≤ b.toNat := by rw [← hb]; simpa [hsz] using f4
    have hg : ∀ h : 2 < E.size, E[2] = b := fun _ => hb
    clear f3 f4 hb f1 f2
    go_wp2_with fail
    go_step3
    go_wp2_with fail
    go_loopg [9] 1 (fun rr v9 wr => v9 = .int .i64 2 ∧ wr = w')
    case atStart => exact ⟨rfl, rfl⟩
    case round =>
      obtain ⟨rfl, rfl⟩ := hrel
      have n1 : ((95 : Int) == (b.toNat : Int)) = false := beq_eq_false_iff_ne.2 (by omega)
      have n2 : ((95 : Int) != (b.toNat : Int)) = true := bne_iff_ne.2 (by omega)
      have w2 : IntKind.i64.wrap 3 = 3 := by decide
      have hmk : ∀ h : 2 < marks.size, marks[2] = 95 := fun _ => rfl
      go_wp2_with fail
      go_step3
      go_wp2_with fail
      go_quiet (fail)
      go_wp2_with fail
      go_quiet ((go_at_call 79; exact quiet_at (ib_none _ _ b _ f5)))
      go_wp2_with fail
      rw [Exit.noGoto_ret]
      go_wp2_with fail
      rw [Exit.noGoto_ret]
      go_ret
      exact ⟨rfl, below_drewN (Below.refl _ _) _⟩
  · have f4 := f3 (by omega)
    have hl : (E.size : Int) = 4 := by omega
    obtain ⟨b, hb⟩ : ∃ b, E[3]'(by omega) = b := ⟨_, rfl⟩
    have f5 : 128 ≤ b.toNat := by rw [← hb]; simpa [hsz] using f4
    have hg : ∀ h : 3 < E.size, E[3] = b := fun _ => hb
    clear f3 f4 hb f1 f2
    go_wp2_with fail
    go_step3
    go_wp2_with fail
    go_loopg [9] 1 (fun rr v9 wr => v9 = .int .i64 3 ∧ wr = w')
    case atStart => exact ⟨rfl, rfl⟩
    case round =>
      obtain ⟨rfl, rfl⟩ := hrel
      have n1 : ((43 : Int) == (b.toNat : Int)) = false := beq_eq_false_iff_ne.2 (by omega)
      have n2 : ((43 : Int) != (b.toNat : Int)) = true := bne_iff_ne.2 (by omega)
      have w2 : IntKind.i64.wrap 4 = 4 := by decide
      have hmk : ∀ h : 3 < marks.size, marks[3] = 43 := fun _ => rfl
      go_wp2_with fail
      go_step3
      go_wp2_with fail
      go_quiet (fail)
      go_wp2_with fail
      go_quiet ((go_at_call 79; exact quiet_at (ib_none _ _ b _ f5)))
      go_wp2_with fail
      rw [Exit.noGoto_ret]
      go_wp2_with fail
      rw [Exit.noGoto_ret]
      go_ret
      exact ⟨rfl, below_drewN (Below.refl _ _) _⟩
theorem mark_idx : ∀ r : Fin 128, decide (0 ≤ Lib.indexByte marks.data.toList r.val.toUInt8) = isMark r.val := by decide +kernel
theorem isMark_high {r : Nat} (h : 128 ≤ r) : isMark r = false := by
  rw [← Bool.not_eq_true]
  simp only [isMark, Bool.or_eq_true, beq_iff_eq]
  omega
def HasMark (r : Nat) (w : World) (e : Ending) (w' : World) : Prop := ∃ x : Int, e = .returned (.int .i64 x) ∧ decide (0 ≤ x) = isMark r ∧ Below w.heap.size w w'
theorem ir_any (r : Nat) (w : World) : Calls Try.prog 87 #[.string marks, .int .i32 r] w (HasMark r w) := by
  by_cases h1 : r < 128
  · exact (ir_ascii r w h1).mono fun e w' ⟨he, hb⟩ => ⟨_, he, mark_idx ⟨r, h1⟩, hb⟩
  · have hm := isMark_high (show 128 ≤ r by omega)
    have hz : decide (0 ≤ (-1 : Int)) = isMark r := by rw [hm]; rfl
    by_cases h2 : r = 65533
    · subst h2
      exact (ir_fffd w).mono fun e w' ⟨he, hb⟩ => ⟨_, he, hz, hb⟩
    · by_cases h3 : validRune r = true
      · exact (ir_valid r w (by omega) (by omega) h3).mono fun e w' ⟨he, hb⟩ => ⟨_, he, hz, hb⟩
      · exact (ir_bad r w (by omega) (by omega) (by simpa using h3)).mono fun e w' ⟨he, hb⟩ => ⟨_, he, hz, hb⟩
def GivesB (b : Bool) (w : World) (e : Ending) (w' : World) : Prop := e = .returned (.bool b) ∧ Below w.heap.size w w'
theorem cr_any (r : Nat) (w : World) : Calls Try.prog 83 #[.string marks, .int .i32 r] w (GivesB (isMark r) w) := by
  have h := Lib.hid (ir_any r w)
  go_enter Try.func83, Try.ntmps83
  go_wp2_with fail
  refine h.out.mono ?_
  rintro e w' ⟨x, rfl, hx, hb⟩
  have HX := Lib.hid hx
  have HB := Lib.hid hb
  clear hb hx
  go_wp2_with fail
  go_ret
  exact ⟨congrArg (fun b => Ending.returned (.bool b)) HX.out, HB.out⟩
theorem okC_mark {r : Nat} (h1 : ¬ (97 ≤ r ∧ r ≤ 122)) (h2 : ¬ (48 ≤ r ∧ r ≤ 57)) : okC r = isMark r := by
  unfold okC isMark
  have e1 : (decide (97 ≤ r) && decide (r ≤ 122)) = false := by simp; omega
  have e2 : (decide (48 ≤ r) && decide (r ≤ 57)) = false := by simp; omega
  rw [e1, e2]
  rfl
set_option maxHeartbeats 1000000 in
theorem cls_any (r : Nat) (w : World) : Calls Try.prog 82 #[.int .i32 r] w (GivesB (!okC r) w) := by
  by_cases h1 : 97 ≤ r ∧ r ≤ 122
  · have hk : okC r = true := by
      unfold okC
      rw [decide_eq_true h1.1, decide_eq_true h1.2]
      rfl
    rw [hk]
    clear hk
    obtain ⟨h1, h2⟩ := h1
    go_enter Try.func82, Try.ntmps82
    go_wp2_with fail
    go_ret
    exact ⟨rfl, Below.refl _ _⟩
  · by_cases h2 : 48 ≤ r ∧ r ≤ 57
    · have hk : okC r = true := by
        unfold okC
        rw [decide_eq_true h2.1, decide_eq_true h2.2]
        simp
      rw [hk]
      clear hk h1
      obtain ⟨h1, h2⟩ := h2
      go_enter Try.func82, Try.ntmps82
      go_wp2_with fail
      go_ret
      exact ⟨rfl, Below.refl _ _⟩
    · rw [okC_mark h1 h2]
      have hC := Lib.hid (cr_any r w)
      obtain ⟨m, hm⟩ : ∃ m, isMark r = m := ⟨_, rfl⟩
      rw [hm] at hC ⊢
      clear hm
      have hw : r < 48 ∨ (57 < r ∧ r < 97) ∨ 122 < r := by omega
      clear h1 h2
      rcases hw with h | h | h
      · go_enter Try.func82, Try.ntmps82
        go_wp2_with fail
        refine hC.out.mono ?_
        rintro e w' ⟨rfl, hb⟩
        have HB := Lib.hid hb
        clear hb
        go_wp2_with fail
        go_ret
        exact ⟨rfl, HB.out⟩
      · have b1 : decide ((r : Int) ≤ 57) = false := decide_eq_false (by omega)
        go_enter Try.func82, Try.ntmps82
        go_wp2_with fail
        refine hC.out.mono ?_
        rintro e w' ⟨rfl, hb⟩
        have HB := Lib.hid hb
        clear hb
        go_wp2_with fail
        go_ret
        exact ⟨rfl, HB.out⟩
      · have b1 : decide ((r : Int) ≤ 57) = false := decide_eq_false (by omega)
        have b2 : decide ((r : Int) ≤ 122) = false := decide_eq_false (by omega)
        go_enter Try.func82, Try.ntmps82
        go_wp2_with fail
        refine hC.out.mono ?_
        rintro e w' ⟨rfl, hb⟩
        have HB := Lib.hid hb
        clear hb
        go_wp2_with fail
        go_ret
        exact ⟨rfl, HB.out⟩
/-- All runes of a name's kind, from a place on. -/
def scan (s : ByteArray) : Nat → Nat → Bool
  | 0, _ => true
  | f + 1, pos => if pos < s.size then (if okC (Utf8.decode s pos).1 = true then scan s f (pos + (Utf8.decode s pos).2) else false) else true
theorem okC_low {r : Nat} (h : okC r = true) : r < 128 := by
  have := okC_yes h
  omega
theorem decode_high (s : ByteArray) (pos : Nat) (h : pos < s.size) (hb : 128 ≤ (s[pos]'h).toNat) : 128 ≤ (Utf8.decode s pos).1 := by
  have e : (s.get! (pos + 0)).toNat = (s[pos]'h).toNat := by
    congr 1
    rw [Nat.add_zero]
    simp [ByteArray.get!, h]
    rfl
  unfold Utf8.decode
  simp only [e]
  rw [if_neg (by omega)]
  repeat' split
  all_goals first | (show 128 ≤ 65533; omega) | (simp_all; omega) | (rename_i h1 h2; omega)
theorem scan_all (s : ByteArray) : ∀ f pos, s.size ≤ pos + f → scan s f pos = ((s.data.toList.drop pos).all fun c => okC c.toNat)
  | 0, pos, h => by
    rw [List.drop_eq_nil_of_le (by simpa using h)]
    rfl
  | f + 1, pos, h => by
    unfold scan
    by_cases hp : pos < s.size
    · rw [if_pos hp, List.drop_eq_getElem_cons (by simpa using hp), List.all_cons]
      have e0 : (s.data.toList[pos]'(by simpa using hp)) = s[pos] := rfl
      rw [e0]
      by_cases ha : (s[pos]'hp).toNat < 128
      · rw [decode_ascii s pos hp ha]
        by_cases hk : okC (s[pos]'hp).toNat = true
        · rw [if_pos hk, hk, Bool.true_and, scan_all s f (pos + 1) (by omega)]
        · rw [if_neg hk]
          have : okC (s[pos]'hp).toNat = false := by simpa using hk
          rw [this, Bool.false_and]
      · have hd := decode_high s pos hp (by omega)
        rw [if_neg (fun hk => by have := okC_low hk; omega)]
        have : okC (s[pos]'hp).toNat = false := by
          rw [← Bool.not_eq_true]
          exact fun hk => by have := okC_low hk; omega
        rw [this, Bool.false_and]
    · rw [if_neg hp, List.drop_eq_nil_of_le (by simp; omega)]
      rfl
def Idx (b : Bool) (w : World) (e : Ending) (w' : World) : Prop := ∃ x : Int, e = .returned (.int .i64 x) ∧ decide (x < 0) = b ∧ Below w.heap.size w w'
set_option maxHeartbeats 2000000 in
set_option maxRecDepth 1000000 in
theorem indexFunc_any (s : ByteArray) (w : World) (hs : s.size ≤ maxLen) :
    Calls Try.prog 86 #[.string s, .func (.func 82) #[] #[], .bool true] w (Idx (scan s s.size 0) w) := by
  unfold maxLen at hs
  go_enter Try.func86, Try.ntmps86
  go_wp2_with fail
  go_loopg [] s.size (fun gf wx => ∃ pos : Nat, wx.heap[w.heap.size]? = some (.stringIter s pos) ∧ Below w.heap.size w wx ∧ scan s gf pos = scan s s.size 0 ∧ s.size ≤ pos + gf)
  case atStart => exact ⟨0, World.iter_heap w s 0, (Below.refl _ w).alloc (Nat.le_refl _) _, rfl, by omega⟩
  case round =>
    obtain ⟨pos, hit, hbw, hleft, hfu⟩ := hrel
    by_cases hps : pos < s.size
    · obtain ⟨g', rfl⟩ : ∃ g', gk = g' + 1 := ⟨gk - 1, by omega⟩
      have hnx : ∀ ty, (Instr.next (.pointer (some ⟨w.heap.size, 0, none⟩)) true ty).run Try.prog wr = _ := fun ty => Lib.run_next_any_at wr w.heap.size s pos ty hit hps
      have hwd := Lib.width_pos s pos
      obtain ⟨R, hR⟩ : ∃ R, (Utf8.decode s pos).1 = R := ⟨_, rfl⟩
      obtain ⟨K, hK⟩ : ∃ K, (Utf8.decode s pos).2 = K := ⟨_, rfl⟩
      simp only [scan, hps, if_true, hR, hK] at hleft
      rw [hR, hK] at hnx
      rw [hK] at hwd
      have hit2 := Lib.iterAt_heap wr w.heap.size s pos (pos + K) hit
      have hbw2 := Lib.below_iterAt hbw (k := w.heap.size) (Nat.le_refl _) s (pos + K)
      obtain ⟨W, hWd⟩ : ∃ W, wr.iterAt w.heap.size s (pos + K) = W := ⟨_, rfl⟩
      rw [hWd] at hnx hit2 hbw2
      have hC := Lib.hid (cls_any R W)
      have HL := Lib.hid hleft
      have H1 := Lib.hid hit2
      have H2 := Lib.hid hbw2
      have HF := Lib.hid hfu
      have HP := Lib.hid hps
      have hsW : w.heap.size < W.heap.size := (Array.getElem?_eq_some_iff.1 hit2).1
      clear hleft hit2 hbw2 hit hbw hR hK hWd hfu hps
      by_cases hk : okC R = true
      · rw [hk] at hC HL
        rw [if_pos rfl] at HL
        clear hk
        go_wp2_with fail
        refine hC.out.mono ?_
        rintro e W' ⟨rfl, hb⟩
        have H3 : Hid (W'.heap[w.heap.size]? = some (.stringIter s (pos + K))) := Lib.hid ((hb.block _ hsW).trans H1.out)
        have H4 := Lib.hid (H2.out.trans (hb.mono (Nat.le_of_lt hsW)))
        clear hb hC
        go_wp2_with fail
        go_roundg g'
        case measure => omega
        case rel => exact ⟨pos + K, H3.out, H4.out, HL.out, by have := HF.out; omega⟩
      · have hk' : okC R = false := by simpa using hk
        rw [hk'] at hC HL
        rw [if_neg (by simp)] at HL
        clear hk hk'
        go_wp2_with fail
        refine hC.out.mono ?_
        rintro e W' ⟨rfl, hb⟩
        have H4 := Lib.hid (H2.out.trans (hb.mono (Nat.le_of_lt hsW)))
        clear hb hC
        go_wp2_with fail
        go_ret
        exact ⟨_, rfl, by rw [← HL.out]; exact decide_eq_false (by omega), H4.out⟩
    · have hnx : ∀ ty, (Instr.next (.pointer (some ⟨w.heap.size, 0, none⟩)) true ty).run Try.prog wr = _ := fun ty => Lib.run_next_end_at wr w.heap.size s pos ty hit hps
      have HL : Hid (scan s s.size 0 = true) := Lib.hid (by
        rw [← hleft]
        cases gk with
        | zero => rfl
        | succ g => unfold scan; rw [if_neg hps])
      have H2 := Lib.hid hbw
      clear hleft hbw hit
      go_wp2_with fail
      go_ret
      exact ⟨_, rfl, by rw [HL.out]; rfl, H2.out⟩
theorem idx_any (s : ByteArray) (w : World) (hs : s.size ≤ maxLen) :
    Calls Try.prog 81 #[.string s, .func (.func 82) #[] #[]] w (Idx (scan s s.size 0) w) := by
  have h := Lib.hid (indexFunc_any s w hs)
  clear hs
  go_enter Try.func81, Try.ntmps81
  go_wp2_with fail
  refine h.out.mono ?_
  rintro e w' ⟨x, rfl, hx, hb⟩
  have HX := Lib.hid hx
  have HB := Lib.hid hb
  clear hb hx
  go_wp2_with fail
  go_ret
  exact ⟨_, rfl, HX.out, HB.out⟩
theorem scan_name (s : ByteArray) (h1 : 1 ≤ s.size) (h2 : s.size ≤ 31) : scan s s.size 0 = nameB s := by
  rw [scan_all s s.size 0 (by omega), List.drop_zero]
  unfold nameB
  rw [decide_eq_true h1, decide_eq_true h2]
  rfl
set_option maxHeartbeats 1000000 in
/-- card.name. -/
theorem name_any (s : ByteArray) (w : World) : Calls Try.prog 78 #[.string s] w (GivesB (nameB s) w) := by
  by_cases h0 : s.size < 1
  · have HN := Lib.hid (nameB_short h0)
    have e0 : s.toList = [] := by
      apply List.eq_nil_of_length_eq_zero
      rw [ByteArray.toList_eq]
      show s.size = 0
      omega
    go_enter Try.func78, Try.ntmps78
    go_wp2_with fail
    go_ret
    exact ⟨by rw [HN.out]; rfl, Below.refl _ _⟩
  · have e0 : s.toList.isEmpty = false := by
      rw [ByteArray.toList_eq, List.isEmpty_eq_false_iff]
      intro h
      have : s.size = 0 := congrArg List.length h
      omega
    have e1 : ¬ s.toList = [] := by
      intro h
      rw [h] at e0
      cases e0
    by_cases h1 : 31 < s.size
    · have HN := Lib.hid (nameB_long h1)
      have d1 : decide ((s.size : Int) ≤ 31) = false := decide_eq_false (by omega)
      have d2 : decide (s.size ≤ 31) = false := decide_eq_false (by omega)
      go_enter Try.func78, Try.ntmps78
      go_wp2_with fail
      go_ret
      exact ⟨by rw [HN.out]; rfl, Below.refl _ _⟩
    · have d1 : decide ((s.size : Int) ≤ 31) = true := decide_eq_true (by omega)
      have hI := idx_any s w (by unfold maxLen; omega)
      rw [scan_name s (by omega) (by omega)] at hI
      have HI := Lib.hid hI
      clear hI
      go_enter Try.func78, Try.ntmps78
      go_wp2_with fail
      refine HI.out.mono ?_
      rintro e w' ⟨x, rfl, hx, hb⟩
      have HX := Lib.hid hx
      have HB := Lib.hid hb
      clear hb hx HI
      go_wp2_with fail
      go_ret
      exact ⟨congrArg (fun b => Ending.returned (.bool b)) HX.out, HB.out⟩
end Nm
end Go.Proofs.Ytnkababhgloclaa
