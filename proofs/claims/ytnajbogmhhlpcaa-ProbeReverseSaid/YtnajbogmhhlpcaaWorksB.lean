/- works: its calls of the bag, each by its contract. -/
import Derived.Test.YtnajbogmhhlpcaaWorksA
import Derived.Test.YtnajbogmhhlpcaaFamS
namespace Go.Proofs.Ytnajbogmhhlpcaa
open Go.RowKit Go.ChangeShapes Tx Nm
def wT1 (p : Nat) : Th := ⟨1, ⟨#[97]⟩, some (55, #[.pointer (some ⟨p, 0, none⟩)])⟩
def wT2 : Th := ⟨2, ⟨#[]⟩, none⟩
def wT3 (p : Nat) : Th := ⟨3, ⟨#[99]⟩, some (56, #[.pointer (some ⟨p, 0, none⟩)])⟩
/-- The counter's box. -/
def Cnt (p : Nat) (n : Int) (w : World) : Prop := w.heap[p]? = some (.cells #[.int .i64 n] 3 (0, 0))
theorem Cnt.rel {p : Nat} {n : Int} {w w' : World} {B : Nat} {S : Nat → Obj → Prop} (h : Cnt p n w) (hr : Rel B S w w') (hs : ∀ k C z, ¬ S k (.cells C 3 z)) : Cnt p n w' := hr.block h (fun _ => hs _ _ _)
def wB (t : Th) : Beh := if t.id = 1 then .ret 0 else .str ⟨#[120]⟩
theorem wB_call {p : Nat} {t : Th} (ht : t = wT1 p ∨ t = wT3 p) {k : Nat} {c : Array Value} (hf : t.fn = some (k, c)) (n : Int) (B : Nat) (hB : B ≤ p) (w : World) (h : Cnt p n w) :
    Calls Try.prog k c w fun e w' => e = (wB t).ending ∧ Rel B (fun _ o => ∃ C z, o = .cells C 3 z) w w' ∧ Cnt p (wrap64 (n + 1)) w' := by
  have hset := heap_setCell_same w p 0 _ _ (.int .i64 (wrap64 (n + 1))) h
  have hrel : Rel B (fun _ o => ∃ C z, o = .cells C 3 z) w (w.setCell ⟨p, 0, none⟩ (.int .i64 (wrap64 (n + 1)))) := Rel.set (a := ⟨p, 0, none⟩) hB h ⟨_, _, rfl⟩ _
  rcases ht with rfl | rfl
  · cases hf
    refine (w1_any p n w h).mono (fun e w' he => ?_)
    obtain ⟨rfl, rfl⟩ := he
    exact ⟨rfl, hrel, hset⟩
  · cases hf
    refine (w2_any p n w h).mono (fun e w' he => ?_)
    obtain ⟨rfl, rfl⟩ := he
    exact ⟨rfl, hrel, hset⟩
theorem wB_enter {p : Nat} {t : Th} (ht : t = wT1 p ∨ t = wT3 p) {k : Nat} {c : Array Value} (hf : t.fn = some (k, c)) (w : World) : (callFunc k c).run Try.prog w = .ok (.enter k c) w := by
  rcases ht with rfl | rfl
  · cases hf
    kernel_rfl
  · cases hf
    kernel_rfl
theorem wT_of {p : Nat} {t : Th} (ht : t ∈ [wT1 p, wT2, wT3 p]) {k : Nat} {c : Array Value} (hf : t.fn = some (k, c)) : t = wT1 p ∨ t = wT3 p := by
  simp only [List.mem_cons, List.not_mem_nil, or_false] at ht
  rcases ht with h | rfl | h
  · exact .inl h
  · cases hf
  · exact .inr h
theorem int_not : ∀ (q : Nat) (C : Array Value) (z : Nat × Nat), ¬ (fun (_ : Nat) (o : Obj) => ∃ C z, o = .cells C 3 z) q (.cells C 24 z) ∧ ¬ (fun (_ : Nat) (o : Obj) => ∃ C z, o = .cells C 3 z) q (.cells C 98 z) ∧ ¬ (fun (_ : Nat) (o : Obj) => ∃ C z, o = .cells C 3 z) q (.cells C 77 z) ∧ ¬ (fun (_ : Nat) (o : Obj) => ∃ C z, o = .cells C 3 z) q (.cells C 86 z) := fun q C z => by
  refine ⟨?_, ?_, ?_, ?_⟩ <;> exact fun ⟨_, _, h⟩ => by cases h
theorem runW1 (p : Nat) : runB (σ := Int) (fun _ t _ => wB t) (fun s _ _ => wrap64 (s + 1)) (List.take 1 [wT1 p, wT2, wT3 p]) (List.drop 1 [wT1 p, wT2, wT3 p]).reverse 0 = (1, [⟨3, ⟨#[99]⟩, .str ⟨#[120]⟩⟩]) := by
  have e : wrap64 (0 + 1) = 1 := IntWalk.wrap64_in _ (by omega)
  have : (List.drop 1 [wT1 p, wT2, wT3 p]).reverse = [wT3 p, wT2] := rfl
  rw [this]
  simp only [runB, wT3, wT2, wB, e]
  rfl
theorem runW2 (p : Nat) : runB (σ := Int) (fun _ t _ => wB t) (fun s _ _ => wrap64 (s + 1)) [] [wT1 p].reverse 1 = (2, [⟨1, ⟨#[97]⟩, .ret 0⟩]) := by
  have e : wrap64 (1 + 1) = 2 := IntWalk.wrap64_in _ (by omega)
  have : [wT1 p].reverse = [wT1 p] := rfl
  rw [this]
  simp only [runB, wT1, wB, e]
  rfl
theorem works_back {w : World} {B b p : Nat} (h : BagAt w B b [wT1 p, wT2, wT3 p] 3 false false) (hB : B ≤ w.heap.size) (hp : B ≤ p) (hc : Cnt p 0 w) :
    Calls Try.prog 27 #[.pointer (some ⟨b, 0, none⟩), .int .i64 2] w fun e w' => ∃ v, e = .returned (.tuple #[v, .int .i64 0]) ∧ w'.ownsRow w.heap.size 77 5 v 1 (rl [⟨3, ⟨#[99]⟩, .str ⟨#[120]⟩⟩]) ∧ BagAt w' B b [wT1 p] 3 false false ∧ Cnt p 1 w' ∧ Rel B (SX b w.heap.size fun _ o => ∃ C z, o = .cells C 3 z) w w' :=
  by
  have hh := bback_some (σ := Int) (fun _ t _ => wB t) (fun s _ _ => wrap64 (s + 1)) (fun s w => Cnt p s w) (fun _ o => ∃ C z, o = .cells C 3 z) (0 : Int) h (by simp) 2 1 rfl hB hc
    int_not
    (fun s x x' hx hr => hx.rel hr (fun k C z ho => by
      rcases ho with (⟨_, C, z, e⟩ | ⟨C, z, e⟩) | ⟨_, C, z, e⟩ | e
      · cases e
      · cases e
      · cases e
      · exact e))
    (fun t ht k c hf x => wB_enter (wT_of ht hf) hf x)
    (fun t ht k c hf s R x _ hx _ _ => wB_call (wT_of ht hf) hf s B hp x hx)
  rw [runW1 p] at hh
  exact hh
theorem works_close {w : World} {B b p : Nat} (h : BagAt w B b [wT1 p] 3 false false) (hB : B ≤ w.heap.size) (hp : B ≤ p) (hc : Cnt p 1 w) :
    Calls Try.prog 12 #[.pointer (some ⟨b, 0, none⟩)] w fun e w' => ∃ v, e = .returned (.tuple #[v, .int .i64 0]) ∧ w'.ownsRow w.heap.size 77 5 v 1 (rl [⟨1, ⟨#[97]⟩, .ret 0⟩]) ∧ BagAt w' B b [] 3 false true ∧ Cnt p 2 w' ∧ Rel B (SC b w.heap.size fun _ o => ∃ C z, o = .cells C 3 z) w w' :=
  by
  have hh := close_some (σ := Int) (fun _ t _ => wB t) (fun s _ _ => wrap64 (s + 1)) (fun s w => Cnt p s w) (fun _ o => ∃ C z, o = .cells C 3 z) (1 : Int) h (by simp) hB hc
    int_not
    (fun s x x' hx hr => hx.rel hr (fun k C z ho => by
      rcases ho with ⟨C, z, e⟩ | ⟨C, z, e⟩ | ⟨_, C, z, e⟩ | e
      · cases e
      · cases e
      · cases e
      · exact e))
    (fun t ht k c hf x => wB_enter (.inl (by simpa using ht)) hf x)
    (fun t ht k c hf s R x _ hx _ _ => wB_call (.inl (by simpa using ht)) hf s B hp x hx)
  rw [runW2 p] at hh
  exact hh
theorem works_add1 {w : World} {B b p : Nat} (h : BagAt w B b [] 0 false false) (hB : B ≤ w.heap.size) :
    Calls Try.prog 28 #[.pointer (some ⟨b, 0, none⟩), .string ⟨#[97]⟩, .func (.func 55) #[] #[.pointer (some ⟨p, 0, none⟩)]] w fun e w' => e = .returned (.tuple #[.int .i64 1, .int .i64 0]) ∧ BagAt w' B b [wT1 p] 1 false false ∧ Rel B (SB b) w w' :=
  add_room h hB (by simp) (by omega) (by omega) ⟨#[97]⟩ (by decide) 55 #[.pointer (some ⟨p, 0, none⟩)]
theorem works_mark {w : World} {B b p : Nat} (h : BagAt w B b [wT1 p] 1 false false) (hB : B ≤ w.heap.size) :
    Calls Try.prog 24 #[.pointer (some ⟨b, 0, none⟩)] w fun e w' => e = .returned (.tuple #[.int .i64 2, .int .i64 0]) ∧ BagAt w' B b [wT1 p, wT2] 2 false false ∧ Rel B (SB b) w w' :=
  bmark_room h hB (by simp) (by omega) (by omega)
theorem works_add2 {w : World} {B b p : Nat} (h : BagAt w B b [wT1 p, wT2] 2 false false) (hB : B ≤ w.heap.size) :
    Calls Try.prog 28 #[.pointer (some ⟨b, 0, none⟩), .string ⟨#[99]⟩, .func (.func 56) #[] #[.pointer (some ⟨p, 0, none⟩)]] w fun e w' => e = .returned (.tuple #[.int .i64 3, .int .i64 0]) ∧ BagAt w' B b [wT1 p, wT2, wT3 p] 3 false false ∧ Rel B (SB b) w w' :=
  add_room h hB (by simp) (by omega) (by omega) ⟨#[99]⟩ (by decide) 56 #[.pointer (some ⟨p, 0, none⟩)]
end Go.Proofs.Ytnajbogmhhlpcaa
