/- ProbeReverse: what the bag's calls do to the law's own memory. -/
import Derived.Test.YtnajbogmhhlpcaaRevD
import Derived.Test.YtnajbogmhhlpcaaUndoC
namespace Go.Proofs.Ytnajbogmhhlpcaa
open Go.RowKit Go.ChangeShapes
/-- Each thing's function is the law's closure, its number in a box, its step in another. -/
def BoxR (w : World) (p4 p6 : Nat) (L : List Th) : Prop := ∀ t ∈ L, ∀ k c, t.fn = some (k, c) → ∃ p10 p9 s, k = 29 ∧ c = #[.pointer (some ⟨p4, 0, none⟩), .pointer (some ⟨p10, 0, none⟩), .pointer (some ⟨p6, 0, none⟩), .pointer (some ⟨p9, 0, none⟩)] ∧ w.heap[p10]? = some (.cells #[.int .i64 t.id] 3 (0, 0)) ∧ w.heap[p9]? = some (.cells (St.cells s).toArray 36 (0, 0))
def OkId (L : List Th) : Prop := ∀ t ∈ L, (Lit.int .i64 t.id).wf = true
open Classical in
noncomputable def bhR (w : World) (t : Th) : Beh :=
  if h : ∃ q : Nat × Nat × Nat × Nat × St, t.fn = some (29, #[.pointer (some ⟨q.1, 0, none⟩), .pointer (some ⟨q.2.1, 0, none⟩), .pointer (some ⟨q.2.2.1, 0, none⟩), .pointer (some ⟨q.2.2.2.1, 0, none⟩)]) ∧ w.heap[q.2.2.2.1]? = some (.cells (St.cells q.2.2.2.2).toArray 36 (0, 0)) then behR h.choose.2.2.2.2 else .ret 0
/-- The numbers' and the steps' boxes are as they were. -/
def Old (w x : World) : Prop := ∀ (p : Nat) (C : Array Value) (ty : TypeId), w.heap[p]? = some (.cells C ty (0, 0)) → ty = 3 ∨ ty = 36 → x.heap[p]? = some (.cells C ty (0, 0))
def IR (w : World) (p4 m4 p6 : Nat) (A0 s : List Int) (x : World) : Prop := RevI x p4 m4 p6 w.heap.size (A0 ++ s) s ∧ Old w x ∧ w.heap.size ≤ x.heap.size
theorem IR.rel {w x x' : World} {B p4 m4 p6 : Nat} {A0 s : List Int} {S : Nat → Obj → Prop} (h : IR w p4 m4 p6 A0 s x) (hr : Rel B S x x') (hs : ∀ k C z, ¬ S k (.cells C 72 z) ∧ ¬ S k (.cells C 30 z) ∧ ¬ S k (.cells C 3 z)) (hs2 : ∀ k C z, ¬ S k (.cells C 36 z)) (hm : ∀ k es c, ¬ S k (.map es c)) : IR w p4 m4 p6 A0 s x' :=
  ⟨h.1.rel hr hs hm, fun p C ty hp ht => hr.block (h.2.1 p C ty hp ht) (fun _ => by
    rcases ht with rfl | rfl
    · exact (hs _ _ _).2.2
    · exact hs2 _ _ _), Nat.le_trans h.2.2 hr.size⟩
theorem SX_notR {b N : Nat} : (∀ k C z, ¬ SX b N (fun _ _ => False) k (.cells C 72 z) ∧ ¬ SX b N (fun _ _ => False) k (.cells C 30 z) ∧ ¬ SX b N (fun _ _ => False) k (.cells C 3 z)) ∧ (∀ k C z, ¬ SX b N (fun _ _ => False) k (.cells C 36 z)) ∧ (∀ k es c, ¬ SX b N (fun _ _ => False) k (.map es c)) := by
  have key : ∀ k o, SX b N (fun _ _ => False) k o → ∃ C t z, o = .cells C t z ∧ (t = 86 ∨ t = 98 ∨ t = 77) := fun k o ho => by
    rcases ho with (⟨_, C, z, e⟩ | ⟨C, z, e⟩) | ⟨_, C, z, e⟩ | e
    · exact ⟨C, _, z, e, .inl rfl⟩
    · exact ⟨C, _, z, e, .inr (.inl rfl)⟩
    · exact ⟨C, _, z, e, .inr (.inr rfl)⟩
    · exact e.elim
  have no : ∀ k C t z, (t ≠ 86 ∧ t ≠ 98 ∧ t ≠ 77) → ¬ SX b N (fun _ _ => False) k (.cells C t z) := fun k C t z ht ho => by
    obtain ⟨C', t', z', e, h⟩ := key _ _ ho
    injection e with _ e2 _
    subst e2
    rcases h with h | h | h
    · exact ht.1 h
    · exact ht.2.1 h
    · exact ht.2.2 h
  refine ⟨fun k C z => ⟨no _ _ _ _ (by decide), no _ _ _ _ (by decide), no _ _ _ _ (by decide)⟩, fun k C z => no _ _ _ _ (by decide), fun k es c ho => ?_⟩
  obtain ⟨C', t', z', e, _⟩ := key _ _ ho
  cases e
theorem SC_notR {b N : Nat} : (∀ k C z, ¬ SC b N (fun _ _ => False) k (.cells C 72 z) ∧ ¬ SC b N (fun _ _ => False) k (.cells C 30 z) ∧ ¬ SC b N (fun _ _ => False) k (.cells C 3 z)) ∧ (∀ k C z, ¬ SC b N (fun _ _ => False) k (.cells C 36 z)) ∧ (∀ k es c, ¬ SC b N (fun _ _ => False) k (.map es c)) := by
  have key : ∀ k o, SC b N (fun _ _ => False) k o → ∃ C t z, o = .cells C t z ∧ (t = 86 ∨ t = 98 ∨ t = 77) := fun k o ho => by
    rcases ho with ⟨C, z, e⟩ | ⟨C, z, e⟩ | ⟨_, C, z, e⟩ | e
    · exact ⟨C, _, z, e, .inl rfl⟩
    · exact ⟨C, _, z, e, .inr (.inl rfl)⟩
    · exact ⟨C, _, z, e, .inr (.inr rfl)⟩
    · exact e.elim
  have no : ∀ k C t z, (t ≠ 86 ∧ t ≠ 98 ∧ t ≠ 77) → ¬ SC b N (fun _ _ => False) k (.cells C t z) := fun k C t z ht ho => by
    obtain ⟨C', t', z', e, h⟩ := key _ _ ho
    injection e with _ e2 _
    subst e2
    rcases h with h | h | h
    · exact ht.1 h
    · exact ht.2.1 h
    · exact ht.2.2 h
  refine ⟨fun k C z => ⟨no _ _ _ _ (by decide), no _ _ _ _ (by decide), no _ _ _ _ (by decide)⟩, fun k C z => no _ _ _ _ (by decide), fun k es c ho => ?_⟩
  obtain ⟨C', t', z', e, _⟩ := key _ _ ho
  cases e
theorem SR_not {m4 p6 N0 : Nat} : ∀ q C z, ¬ SR m4 p6 N0 q (.cells C 24 z) ∧ ¬ SR m4 p6 N0 q (.cells C 98 z) ∧ ¬ SR m4 p6 N0 q (.cells C 77 z) ∧ ¬ SR m4 p6 N0 q (.cells C 86 z) := by
  have no : ∀ q C t z, (t ≠ 30 ∧ t ≠ 3) → ¬ SR m4 p6 N0 q (.cells C t z) := fun q C t z ht ho => by
    rcases ho with ⟨_, es, c, e⟩ | ⟨_, C', z', e⟩ | ⟨_, C', z', e⟩
    · cases e
    · injection e with _ e2 _
      exact ht.1 e2
    · injection e with _ e2 _
      exact ht.2 e2
  exact fun q C z => ⟨no _ _ _ _ (by decide), no _ _ _ _ (by decide), no _ _ _ _ (by decide), no _ _ _ _ (by decide)⟩
theorem rev_hu {w x : World} {B p4 m4 p6 : Nat} {A0 s : List Int} {L : List Th} (hbox : BoxR w p4 p6 L) (hok : OkId L) (h1 : B ≤ m4) (h2 : B ≤ p6) (hB : B ≤ w.heap.size) {t : Th} (ht : t ∈ L) {k : Nat} {c : Array Value} (hf : t.fn = some (k, c)) (hs : s.length < 256) (hA : A0.length ≤ 52000) (hx : IR w p4 m4 p6 A0 s x) :
    Calls Try.prog k c x fun e x' => e = (bhR w t).ending ∧ Rel B (SR m4 p6 w.heap.size) x x' ∧ IR w p4 m4 p6 A0 (s ++ [t.id]) x' := by
  obtain ⟨p10, p9, st, rfl, rfl, h10, h9⟩ := hbox t ht k c hf
  have hex : ∃ q : Nat × Nat × Nat × Nat × St, t.fn = some (29, #[.pointer (some ⟨q.1, 0, none⟩), .pointer (some ⟨q.2.1, 0, none⟩), .pointer (some ⟨q.2.2.1, 0, none⟩), .pointer (some ⟨q.2.2.2.1, 0, none⟩)]) ∧ w.heap[q.2.2.2.1]? = some (.cells (St.cells q.2.2.2.2).toArray 36 (0, 0)) := ⟨(p4, p10, p6, p9, st), hf, h9⟩
  obtain ⟨e1, e2⟩ := hex.choose_spec
  have e1 := hf.symm.trans e1
  injection e1 with e1
  injection e1 with _ e1
  have e3 : p9 = hex.choose.2.2.2.1 := by
    have := congrArg (fun (a : Array Value) => a[3]?) e1
    simpa using this
  have hb : bhR w t = behR hex.choose.2.2.2.2 := dif_pos hex
  rw [← e3] at e2
  have l10 := (Array.getElem?_eq_some_iff.1 h10).1
  refine (rfn_any (B := B) (t := hex.choose.2.2.2.2) hx.1 (hx.2.1 _ _ _ h10 (.inl rfl)) l10 (hx.2.1 _ _ _ e2 (.inr rfl)) (by rw [List.length_append]; omega) (by omega) (hok t ht) hx.2.2 h1 h2 hB).mono (fun e x' he => ⟨by rw [he.1, hb], he.2.2, ?_, fun p C ty hp hty => ?_, Nat.le_trans hx.2.2 he.2.2.size⟩)
  · rw [← List.append_assoc]
    exact he.2.1
  · refine he.2.2.block (hx.2.1 p C ty hp hty) (fun _ ho => ?_)
    have lp := (Array.getElem?_eq_some_iff.1 hp).1
    rcases ho with ⟨_, es, c, e⟩ | ⟨_, C', z', e⟩ | ⟨h, C', z', e⟩
    · cases e
    · injection e with _ e4 _
      rcases hty with rfl | rfl
      · exact absurd e4 (by decide)
      · exact absurd e4 (by decide)
    · omega
theorem box_enter {w : World} {p4 p6 : Nat} {L : List Th} (hbox : BoxR w p4 p6 L) {t : Th} (ht : t ∈ L) {k : Nat} {c : Array Value} (hf : t.fn = some (k, c)) (x : World) : (callFunc k c).run Try.prog x = .ok (.enter k c) x := by
  obtain ⟨p10, p9, st, rfl, rfl, _⟩ := hbox t ht k c hf
  kernel_rfl
theorem rch_len0 {n : Nat} {s s0 : List Int} (h : Rch (fun (s : List Int) (t : Th) (_ : List Th) => s ++ [t.id]) s0 n s) : s.length = s0.length + n := by
  induction h with
  | zero => rfl
  | succ _ ih => rw [List.length_append, ih]; simp; omega
theorem rch_len {n : Nat} {s : List Int} (h : Rch (fun (s : List Int) (t : Th) (_ : List Th) => s ++ [t.id]) [] n s) : s.length = n := by
  have := rch_len0 h
  simpa using this
theorem IR.zero {w : World} {p4 m4 p6 : Nat} {A : List Int} (h : RevI w p4 m4 p6 w.heap.size A []) : IR w p4 m4 p6 A [] w := ⟨by rw [List.append_nil]; exact h, fun _ _ _ hp _ => hp, Nat.le_refl _⟩
theorem rev_back {w : World} {B b p4 m4 p6 : Nat} {L : List Th} {last : Int} {A : List Int} (h : BagAt w B b L last false false) (hl : L.length ≤ 256) (hB : B ≤ w.heap.size) (hbox : BoxR w p4 p6 L) (hok : OkId L) (h1 : B ≤ m4) (h2 : B ≤ p6) (hA : A.length ≤ 52000) (hI : RevI w p4 m4 p6 w.heap.size A []) (id : Int) (i : Nat) (hp : posT L id true = some i) :
    Calls Try.prog 27 #[.pointer (some ⟨b, 0, none⟩), .int .i64 id] w fun e w' => ∃ v, e = .returned (.tuple #[v, .int .i64 0]) ∧ BagAt w' B b (L.take i) last false false ∧ RevI w' p4 m4 p6 w.heap.size (A ++ idsT (L.drop i).reverse) (idsT (L.drop i).reverse) ∧ Rel B (SX b w.heap.size (SR m4 p6 w.heap.size)) w w' := by
  have hh := bback_some (fun _ t _ => bhR w t) (fun s t _ => s ++ [t.id]) (fun s x => IR w p4 m4 p6 A s x) (SR m4 p6 w.heap.size) [] h hl id i hp hB (IR.zero hI) SR_not
    (fun s x x' hx hr => hx.rel hr SX_notR.1 SX_notR.2.1 SX_notR.2.2)
    (fun t ht k c hf x => box_enter hbox ht hf x)
    (fun t ht k c hf s R x hj hx _ _ => rev_hu hbox hok h1 h2 hB ht hf (by obtain ⟨j, hj1, hj2⟩ := hj; rw [rch_len hj2]; exact hj1) hA hx)
  refine hh.mono (fun e w' he => ?_)
  obtain ⟨v, rfl, _, q1, q2, q3⟩ := he
  refine ⟨v, rfl, q1, ?_, q3⟩
  have q2 := q2.1
  rw [runB_ids, List.nil_append] at q2
  exact q2
theorem rev_close {w : World} {B b p4 m4 p6 : Nat} {L : List Th} {last : Int} {A : List Int} (h : BagAt w B b L last false false) (hl : L.length ≤ 256) (hB : B ≤ w.heap.size) (hbox : BoxR w p4 p6 L) (hok : OkId L) (h1 : B ≤ m4) (h2 : B ≤ p6) (hA : A.length ≤ 52000) (hI : RevI w p4 m4 p6 w.heap.size A []) :
    Calls Try.prog 12 #[.pointer (some ⟨b, 0, none⟩)] w fun e w' => ∃ v, e = .returned (.tuple #[v, .int .i64 0]) ∧ BagAt w' B b [] last false true ∧ RevI w' p4 m4 p6 w.heap.size (A ++ idsT L.reverse) (idsT L.reverse) ∧ Rel B (SC b w.heap.size (SR m4 p6 w.heap.size)) w w' := by
  have hh := close_some (fun _ t _ => bhR w t) (fun s t _ => s ++ [t.id]) (fun s x => IR w p4 m4 p6 A s x) (SR m4 p6 w.heap.size) [] h hl hB (IR.zero hI) SR_not
    (fun s x x' hx hr => hx.rel hr SC_notR.1 SC_notR.2.1 SC_notR.2.2)
    (fun t ht k c hf x => box_enter hbox ht hf x)
    (fun t ht k c hf s R x hj hx _ _ => rev_hu hbox hok h1 h2 hB ht hf (by obtain ⟨j, hj1, hj2⟩ := hj; rw [rch_len hj2]; exact hj1) hA hx)
  refine hh.mono (fun e w' he => ?_)
  obtain ⟨v, rfl, _, q1, q2, q3⟩ := he
  refine ⟨v, rfl, q1, ?_, q3⟩
  have q2 := q2.1
  rw [runB_ids, List.nil_append] at q2
  exact q2
theorem rev_undo {w : World} {B b p4 m4 p6 : Nat} {L : List Th} {last : Int} {A : List Int} (h : BagAt w B b L last false false) (hl : L.length ≤ 256) (hB : B ≤ w.heap.size) (hbox : BoxR w p4 p6 L) (hok : OkId L) (h1 : B ≤ m4) (h2 : B ≤ p6) (hA : A.length ≤ 52000) (hI : RevI w p4 m4 p6 w.heap.size A []) (id : Int) (i : Nat) (hp : posT L id false = some i) :
    Calls Try.prog 25 #[.pointer (some ⟨b, 0, none⟩), .int .i64 id] w fun e w' => ∃ v, e = .returned v ∧ BagAt w' B b (L.eraseIdx i) last false false ∧ RevI w' p4 m4 p6 w.heap.size (A ++ [id]) [id] ∧ Rel B (SX b w.heap.size (SR m4 p6 w.heap.size)) w w' := by
  obtain ⟨hi, hm⟩ := posT_lt hp
  obtain ⟨tt, htt⟩ : ∃ t, L[i] = t := ⟨_, rfl⟩
  rw [htt] at hm
  simp only [matchT, Bool.and_eq_true, decide_eq_true_eq, beq_iff_eq] at hm
  obtain ⟨m1, m2⟩ := hm
  obtain ⟨tid, nm, fn⟩ := tt
  simp only at m1 m2
  subst m1
  cases fn with
  | none => simp at m2
  | some kc =>
  obtain ⟨k, c⟩ := kc
  have hmem : (⟨tid, nm, some (k, c)⟩ : Th) ∈ L := by rw [← htt]; exact List.getElem_mem _
  have hh := undo_some h hl hB tid i hp tid nm k c (by rw [List.getElem?_eq_getElem hi, htt]) (box_enter hbox hmem rfl) (SR m4 p6 w.heap.size) (fun _ _ w2 => IR w p4 m4 p6 A [tid] w2) SR_not
    (fun w1 _ hr => (rev_hu hbox hok h1 h2 hB hmem rfl (s := []) (by simp) hA ((IR.zero hI).rel hr SX_notR.1 SX_notR.2.1 SX_notR.2.2)).mono (fun e x' he => ⟨_, he.1, he.2.1, he.2.2⟩))
  refine hh.mono (fun e w' he => ?_)
  obtain ⟨bh, w1, w2, rfl, _, r1, r2, hJ, r3, hbag⟩ := he
  refine ⟨_, rfl, hbag, (hJ.rel r3 SX_notR.1 SX_notR.2.1 SX_notR.2.2).1, ?_⟩
  have mono : ∀ k o, SX b w.heap.size (fun _ _ => False) k o → SX b w.heap.size (SR m4 p6 w.heap.size) k o := fun k o ho => by
    rcases ho with ho | ho | ho
    · exact .inl ho
    · exact .inr (.inl ho)
    · exact ho.elim
  exact ((r1.mono mono (Nat.le_refl _)).trans (r2.mono (fun k o ho => .inr (.inr ho)) (Nat.le_refl _))).trans (r3.mono mono (Nat.le_refl _))
end Go.Proofs.Ytnajbogmhhlpcaa
