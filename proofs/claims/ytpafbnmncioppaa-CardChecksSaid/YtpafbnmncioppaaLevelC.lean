/- A level's name: card.Level, the document's Level. -/
import Derived.Test.YtpafbnmncioppaaMayC
namespace Go.Proofs.Ytpafbnmncioppaa
open Go.RowKit Go.Lib Tx Nm
def levelS (n : Int) : ByteArray := if n = 0 then ⟨#[101, 97, 114, 108, 121]⟩ else if n = 1 then ⟨#[98, 117, 115]⟩ else if n = 2 then ⟨#[99, 111, 114, 101]⟩ else if n = 3 then ⟨#[100, 101, 118, 105, 99, 101]⟩ else if n = 4 then ⟨#[108, 97, 116, 101]⟩ else ⟨#[]⟩
def levelE (n : Int) : Int := if n ≤ 4 then 0 else 1
def Lvl (n : Int) (w : World) (e : Ending) (w' : World) : Prop := e = .returned (.tuple #[.string (levelS n), .int .i64 (levelE n)]) ∧ Below w.heap.size w w'
set_option maxHeartbeats 1000000 in
theorem level_any (n : Int) (w : World) (h0 : 0 ≤ n) : Calls Try.prog 17 #[.int .u8 n] w (Lvl n w) := by
  by_cases h4 : n ≤ 4
  · have hn : n = 0 ∨ n = 1 ∨ n = 2 ∨ n = 3 ∨ n = 4 := by omega
    rcases hn with rfl | rfl | rfl | rfl | rfl
    all_goals
      clear h0 h4
      go_enter Try.func17, Try.ntmps17
      go_wp2_with fail
      go_ret2
      exact ⟨by rfl, Below.refl _ _⟩
  · have HF : Hid (levelS n = ⟨#[]⟩ ∧ levelE n = 1) := Lib.hid (by unfold levelS levelE; refine ⟨?_, if_neg h4⟩; rw [if_neg (by omega), if_neg (by omega), if_neg (by omega), if_neg (by omega), if_neg (by omega)])
    have e0 : decide (n = 0) = false := decide_eq_false (by omega)
    have e1 : decide (n = 1) = false := decide_eq_false (by omega)
    have e2 : decide (n = 2) = false := decide_eq_false (by omega)
    have e3 : decide (n = 3) = false := decide_eq_false (by omega)
    have e4 : decide (n = 4) = false := decide_eq_false (by omega)
    clear h0
    go_enter Try.func17, Try.ntmps17
    go_wp2_with fail
    go_ret2
    exact ⟨by rw [HF.out.1, HF.out.2]; rfl, Below.refl _ _⟩
set_option maxHeartbeats 1000000 in
theorem rlevel_any (n : Int) (w : World) (h0 : 0 ≤ n) : Calls Try.prog 18 #[.int .u8 n] w (Lvl n w) := by
  have B0 : ∀ o, Below w.heap.size w (w.alloc o) := fun o => (Below.refl _ w).alloc (Nat.le_refl _) _
  have HB := Lib.hid B0
  clear B0
  by_cases h4 : n ≤ 4
  · have hn : n = 0 ∨ n = 1 ∨ n = 2 ∨ n = 3 ∨ n = 4 := by omega
    rcases hn with rfl | rfl | rfl | rfl | rfl
    all_goals
      clear h0 h4
      go_enter Try.func18, Try.ntmps18
      go_wp2_with fail
      go_ret2
      exact ⟨by rfl, HB.out _⟩
  · have HF : Hid (levelS n = ⟨#[]⟩ ∧ levelE n = 1) := Lib.hid (by unfold levelS levelE; refine ⟨?_, if_neg h4⟩; rw [if_neg (by omega), if_neg (by omega), if_neg (by omega), if_neg (by omega), if_neg (by omega)])
    have e0 : decide (n > 4) = true := decide_eq_true (by omega)
    have e1 : (4 : Int) < n := by omega
    clear h0 h4
    go_enter Try.func18, Try.ntmps18
    go_wp2_with fail
    go_ret2
    exact ⟨by rw [HF.out.1, HF.out.2]; rfl, HB.out _⟩
end Go.Proofs.Ytpafbnmncioppaa
