/- Whether two lists of cards are the same: the document's SameAll, the law's sameCards. -/
import Derived.Test.YtlgbmjdlgjdolaaSameC
import Derived.Test.YtlgbmjdlgjdolaaCheckC
import Derived.Deep.RegionWith
namespace Go.Proofs.Ytlgbmjdlgjdolaa
open Go.RowKit Go.Lib Tx Nm
def sameAllB (cs ds : List Cd) : Bool := decide (cs.length = ds.length) && (List.range cs.length).all fun i => sameB (nthC cs i) (nthC ds i)
theorem sameAll_len {cs ds : List Cd} (h : ¬ cs.length = ds.length) : sameAllB cs ds = false := by
  unfold sameAllB
  rw [decide_eq_false h]
  rfl
theorem sameAll_no {cs ds : List Cd} {k : Nat} (hk : k < cs.length) (h : sameB (nthC cs k) (nthC ds k) = false) : sameAllB cs ds = false := by
  unfold sameAllB
  have : ((List.range cs.length).all fun i => sameB (nthC cs i) (nthC ds i)) = false := by
    rw [List.all_eq_false]
    exact ⟨k, List.mem_range.2 hk, by rw [h]; simp⟩
  rw [this, Bool.and_false]
theorem sameAll_yes {cs ds : List Cd} (hl : cs.length = ds.length) (h : ∀ k, k < cs.length → sameB (nthC cs k) (nthC ds k) = true) : sameAllB cs ds = true := by
  unfold sameAllB
  have : ((List.range cs.length).all fun i => sameB (nthC cs i) (nthC ds i)) = true := by
    rw [List.all_eq_true]
    exact fun k hk => h k (List.mem_range.1 hk)
  rw [this, decide_eq_true hl]
  rfl
theorem sameB_self (c : Cd) : sameB c c = true := by simp [sameB]
theorem sameAll_self (cs : List Cd) : sameAllB cs cs = true := sameAll_yes rfl fun _ _ => sameB_self _
end Go.Proofs.Ytlgbmjdlgjdolaa
