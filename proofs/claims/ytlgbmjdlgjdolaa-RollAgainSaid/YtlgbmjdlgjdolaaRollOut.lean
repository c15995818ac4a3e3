/- Cards that a call of the runner's hands back, in rows of the call's own. -/
import Derived.Test.YtlgbmjdlgjdolaaEvX3
import Derived.Test.YtlgbmjdlgjdolaaOwnW
namespace Go.Proofs.Ytlgbmjdlgjdolaa
open Go.RowKit
namespace Ev
set_option linter.unusedSectionVars false
variable [Env]
def txtB (l : List UInt8) (b : ByteArray) : Bool := decide (l = b.data.toList)
theorem txtB_eq {l : List UInt8} {b : ByteArray} (h : txtB l b = true) : Value.string ⟨l.toArray⟩ = .string b := by
  have := of_decide_eq_true h
  subst this
  rfl
def strsB : List AV → List ByteArray → Bool
  | .str s :: l, b :: r => txtB s b && strsB l r
  | [], [] => true
  | _, _ => false
def textsIs (s : St) (lo : Nat) (v : AV) (ss : List ByteArray) : Bool :=
  match rowIs s lo 9 1 v with
  | some (len, l) => Nat.beq len ss.length && strsB l ss
  | none => false
def cellsB (s : St) (lo : Nat) : List AV → List Cd → Bool
  | .str n :: .str f :: .int .u8 lv :: sl :: .int .i8 sc :: .str q :: .int .i16 e :: l, c :: cs => txtB n c.name && txtB f c.fam && decide (lv = c.lvl) && textsIs s lo sl c.comp && decide (sc = c.score) && txtB q c.quirk && decide (e = c.ent) && cellsB s lo l cs
  | [], [] => true
  | _, _ => false
/-- The result is a row of just these cards. -/
def cardsB (lo : Nat) (cs : List Cd) (v : AV) (s : St) : Bool :=
  match rowIs s lo 34 7 v with
  | some (len, l) => Nat.beq len cs.length && cellsB s lo l cs
  | none => false
theorem strsB_ok {β : Beta} : ∀ {l : List AV} {ss : List ByteArray} {xs : List Value}, strsB l ss = true → Reps β l xs → xs = sc ss
  | [], [], _, _, h => h
  | .str s :: l, b :: r, _, h, ⟨u, r', rfl, hu, hl⟩ => by
    simp only [strsB, Bool.and_eq_true] at h
    have hu : u = .string ⟨s.toArray⟩ := hu
    rw [hu, txtB_eq h.1, strsB_ok h.2 hl]
    rfl
theorem textsIs_ok {s : St} {lo B : Nat} {v : AV} {ss : List ByteArray} {u : Value} {β : Beta} {w : World} (h : textsIs s lo v ss = true) (ho : OutM lo B β s w) (hr : Rep β v u) : w.ownsRow B 9 1 u ss.length (sc ss) := by
  unfold textsIs at h
  split at h
  case h_2 => cases h
  case h_1 len l he =>
  simp only [Bool.and_eq_true] at h
  obtain ⟨xs, g, c, _, hown, hreps⟩ := rowIs_ok he ho hr
  rw [strsB_ok h.2 hreps, Nat.eq_of_beq_eq_true h.1] at hown
  exact hown
theorem cellsB_ok {s : St} {lo B : Nat} {β : Beta} {w : World} (ho : OutM lo B β s w) : ∀ {cs : List Cd} {l : List AV} {xs : List Value}, cellsB s lo l cs = true → Reps β l xs → ∃ r : List (Cd × Value), r.map (·.1) = cs ∧ xs = ccells r ∧ RowsOf w B r
  | [], l, xs, h, hr => by
    unfold cellsB at h
    split at h
    · rename_i e; cases e
    · cases hr
      exact ⟨[], rfl, rfl, fun r h => by cases h⟩
    · cases h
  | c :: cs, l, xs, h, hr => by
    unfold cellsB at h
    split at h
    · rename_i n f lv sl sc_ q e l' c' cs' hcs
      cases hcs
      obtain ⟨u0, r0, rfl, h0, hr⟩ := hr
      obtain ⟨u1, r1, rfl, h1, hr⟩ := hr
      obtain ⟨u2, r2, rfl, h2, hr⟩ := hr
      obtain ⟨u3, r3, rfl, h3, hr⟩ := hr
      obtain ⟨u4, r4, rfl, h4, hr⟩ := hr
      obtain ⟨u5, r5, rfl, h5, hr⟩ := hr
      obtain ⟨u6, r6, rfl, h6, hr⟩ := hr
      simp only [Bool.and_eq_true, decide_eq_true_eq] at h
      obtain ⟨⟨⟨⟨⟨⟨⟨e0, e1⟩, e2⟩, e3⟩, e4⟩, e5⟩, e6⟩, e7⟩ := h
      have h0 : u0 = .string ⟨n.toArray⟩ := h0
      have h1 : u1 = .string ⟨f.toArray⟩ := h1
      have h2 : u2 = .int .u8 lv := h2
      have h4 : u4 = .int .i8 sc_ := h4
      have h5 : u5 = .string ⟨q.toArray⟩ := h5
      have h6 : u6 = .int .i16 e := h6
      obtain ⟨r, e8, rfl, e9⟩ := cellsB_ok ho e7 hr
      refine ⟨(c, u3) :: r, by simp [e8], ?_, ?_⟩
      · rw [h0, h1, h2, h4, h5, h6, txtB_eq e0, txtB_eq e1, txtB_eq e5, e2, e4, e6]
        rfl
      · intro x hx
        rcases List.mem_cons.1 hx with rfl | hx
        · exact textsIs_ok e3 ho h3
        · exact e9 x hx
    · rename_i e; cases e
    · cases h
theorem cardsB_ok {s : St} {lo B : Nat} {cs : List Cd} {v : AV} {u : Value} {β : Beta} {w : World} (h : cardsB lo cs v s = true) (ho : OutM lo B β s w) (hr : Rep β v u) :
    ∃ r : List (Cd × Value), r.map (·.1) = cs ∧ OwnC w B u r := by
  unfold cardsB at h
  split at h
  case h_2 => cases h
  case h_1 len l he =>
  simp only [Bool.and_eq_true] at h
  obtain ⟨xs, g, c, _, hown, hreps⟩ := rowIs_ok he ho hr
  obtain ⟨r, h1, rfl, h3⟩ := cellsB_ok ho h.2 hreps
  have hl : len = r.length := by rw [Nat.eq_of_beq_eq_true h.1, ← h1, List.length_map]
  refine ⟨r, h1, ?_, h3⟩
  rw [hl] at hown
  exact hown
end Ev
end Go.Proofs.Ytlgbmjdlgjdolaa
