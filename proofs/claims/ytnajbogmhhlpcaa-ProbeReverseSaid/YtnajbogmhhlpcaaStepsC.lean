/- A family's steps, the program's and the document's: run once a family, and once for a text that is none. (Printed by tools/gensteps.py.) -/
import Derived.Test.YtnajbogmhhlpcaaEvX3
import Derived.Test.YtnajbogmhhlpcaaTwinC
import Derived.Test.YtnajbogmhhlpcaaRows
import Derived.Below
import Derived.Outline
import Derived.KernelRfl
namespace Go.Proofs.Ytnajbogmhhlpcaa
open Go.RowKit
namespace Ev
set_option linter.unusedSectionVars false
variable [Env]
def txtB (l : List UInt8) (b : ByteArray) : Bool := decide (l = b.data.toList)
theorem txtB_eq {l : List UInt8} {b : ByteArray} (h : txtB l b = true) : Value.string ⟨l.toArray⟩ = .string b := by
  have := of_decide_eq_true h
  subst this
  rfl
def strsB : List AV → List ByteArray → Bool
  | .str s :: l, b :: r => txtB s b && strsB l r
  | [], [] => true
  | _, _ => false
def textsIs (s : St) (lo : Nat) (v : AV) (ss : List ByteArray) : Bool :=
  match rowIs s lo 9 1 v with
  | some (len, l) => Nat.beq len ss.length && strsB l ss
  | none => false
theorem strsB_ok {β : Beta} : ∀ {l : List AV} {ss : List ByteArray} {xs : List Value}, strsB l ss = true → Reps β l xs → xs = sc ss
  | [], [], _, _, h => h
  | .str s :: l, b :: r, _, h, ⟨u, r', rfl, hu, hl⟩ => by
    simp only [strsB, Bool.and_eq_true] at h
    have hu : u = .string ⟨s.toArray⟩ := hu
    rw [hu, txtB_eq h.1, strsB_ok h.2 hl]
    rfl
theorem textsIs_ok {s : St} {lo B : Nat} {v : AV} {ss : List ByteArray} {u : Value} {β : Beta} {w : World} (h : textsIs s lo v ss = true) (ho : OutM lo B β s w) (hr : Rep β v u) : w.ownsRow B 9 1 u ss.length (sc ss) := by
  unfold textsIs at h
  split at h
  case h_2 => cases h
  case h_1 len l he =>
  simp only [Bool.and_eq_true] at h
  obtain ⟨xs, g, c, _, hown, hreps⟩ := rowIs_ok he ho hr
  rw [strsB_ok h.2 hreps, Nat.eq_of_beq_eq_true h.1] at hown
  exact hown
end Ev
namespace stepsRun
def tabs : List (Nat × List Int) := []
noncomputable def st : Ev.St := ⟨Ev.heapOf tabs, Try.prog.globals.size⟩
def nes : List (List UInt8) := [[99, 114, 121, 115, 116, 97, 108], [115, 117, 112, 112, 108, 121], [98, 117, 115], [115, 101, 110, 115, 111, 114], [114, 97, 100, 105, 111]]
/-- A family's steps. -/
def stepsF (f : ByteArray) : List ByteArray :=
  if f.data.toList = [99, 114, 121, 115, 116, 97, 108] then [⟨#[119, 105, 110, 100, 111, 119]⟩, ⟨#[114, 97, 116, 101]⟩, ⟨#[103, 97, 116, 101]⟩] else
  if f.data.toList = [115, 117, 112, 112, 108, 121] then [⟨#[119, 105, 110, 100, 111, 119]⟩, ⟨#[108, 97, 100, 100, 101, 114]⟩, ⟨#[101, 110, 97, 98, 108, 101]⟩] else
  if f.data.toList = [98, 117, 115] then [⟨#[119, 105, 110, 100, 111, 119]⟩, ⟨#[114, 101, 115, 101, 116]⟩, ⟨#[115, 99, 97, 110]⟩, ⟨#[108, 111, 99, 107]⟩] else
  if f.data.toList = [115, 101, 110, 115, 111, 114] then [⟨#[119, 105, 110, 100, 111, 119]⟩, ⟨#[99, 104, 97, 110, 110, 101, 108]⟩, ⟨#[116, 114, 105, 109]⟩] else
  if f.data.toList = [114, 97, 100, 105, 111] then [⟨#[119, 105, 110, 100, 111, 119]⟩, ⟨#[99, 108, 111, 99, 107]⟩, ⟨#[102, 105, 114, 109, 119, 97, 114, 101]⟩, ⟨#[97, 110, 116, 101, 110, 110, 97]⟩] else
  [⟨#[119, 105, 110, 100, 111, 119]⟩]
set_option maxRecDepth 1000000 in
theorem runa0 : Ev.outF (fun v s => Ev.textsIs s Try.prog.globals.size v [⟨#[119, 105, 110, 100, 111, 119]⟩, ⟨#[114, 97, 116, 101]⟩, ⟨#[103, 97, 116, 101]⟩]) (Ev.runF Try.prog 1000000 1000 Try.prog.globals.size 19 [.str [99, 114, 121, 115, 116, 97, 108]] st) = true := by kernel_rfl
set_option maxRecDepth 1000000 in
theorem runa1 : Ev.outF (fun v s => Ev.textsIs s Try.prog.globals.size v [⟨#[119, 105, 110, 100, 111, 119]⟩, ⟨#[108, 97, 100, 100, 101, 114]⟩, ⟨#[101, 110, 97, 98, 108, 101]⟩]) (Ev.runF Try.prog 1000000 1000 Try.prog.globals.size 19 [.str [115, 117, 112, 112, 108, 121]] st) = true := by kernel_rfl
set_option maxRecDepth 1000000 in
theorem runa2 : Ev.outF (fun v s => Ev.textsIs s Try.prog.globals.size v [⟨#[119, 105, 110, 100, 111, 119]⟩, ⟨#[114, 101, 115, 101, 116]⟩, ⟨#[115, 99, 97, 110]⟩, ⟨#[108, 111, 99, 107]⟩]) (Ev.runF Try.prog 1000000 1000 Try.prog.globals.size 19 [.str [98, 117, 115]] st) = true := by kernel_rfl
set_option maxRecDepth 1000000 in
theorem runa3 : Ev.outF (fun v s => Ev.textsIs s Try.prog.globals.size v [⟨#[119, 105, 110, 100, 111, 119]⟩, ⟨#[99, 104, 97, 110, 110, 101, 108]⟩, ⟨#[116, 114, 105, 109]⟩]) (Ev.runF Try.prog 1000000 1000 Try.prog.globals.size 19 [.str [115, 101, 110, 115, 111, 114]] st) = true := by kernel_rfl
set_option maxRecDepth 1000000 in
theorem runa4 : Ev.outF (fun v s => Ev.textsIs s Try.prog.globals.size v [⟨#[119, 105, 110, 100, 111, 119]⟩, ⟨#[99, 108, 111, 99, 107]⟩, ⟨#[102, 105, 114, 109, 119, 97, 114, 101]⟩, ⟨#[97, 110, 116, 101, 110, 110, 97]⟩]) (Ev.runF Try.prog 1000000 1000 Try.prog.globals.size 19 [.str [114, 97, 100, 105, 111]] st) = true := by kernel_rfl
set_option maxRecDepth 1000000 in
theorem runa5 : Ev.outF (fun v s => Ev.textsIs s Try.prog.globals.size v [⟨#[119, 105, 110, 100, 111, 119]⟩]) (Ev.runF Try.prog 1000000 1000 Try.prog.globals.size 19 [.sym (.txt 0 nes)] st) = true := by kernel_rfl
set_option maxRecDepth 1000000 in
theorem runb0 : Ev.outF (fun v s => Ev.textsIs s Try.prog.globals.size v [⟨#[119, 105, 110, 100, 111, 119]⟩, ⟨#[114, 97, 116, 101]⟩, ⟨#[103, 97, 116, 101]⟩]) (Ev.runF Try.prog 1000000 1000 Try.prog.globals.size 21 [.str [99, 114, 121, 115, 116, 97, 108]] st) = true := by kernel_rfl
set_option maxRecDepth 1000000 in
theorem runb1 : Ev.outF (fun v s => Ev.textsIs s Try.prog.globals.size v [⟨#[119, 105, 110, 100, 111, 119]⟩, ⟨#[108, 97, 100, 100, 101, 114]⟩, ⟨#[101, 110, 97, 98, 108, 101]⟩]) (Ev.runF Try.prog 1000000 1000 Try.prog.globals.size 21 [.str [115, 117, 112, 112, 108, 121]] st) = true := by kernel_rfl
set_option maxRecDepth 1000000 in
theorem runb2 : Ev.outF (fun v s => Ev.textsIs s Try.prog.globals.size v [⟨#[119, 105, 110, 100, 111, 119]⟩, ⟨#[114, 101, 115, 101, 116]⟩, ⟨#[115, 99, 97, 110]⟩, ⟨#[108, 111, 99, 107]⟩]) (Ev.runF Try.prog 1000000 1000 Try.prog.globals.size 21 [.str [98, 117, 115]] st) = true := by kernel_rfl
set_option maxRecDepth 1000000 in
theorem runb3 : Ev.outF (fun v s => Ev.textsIs s Try.prog.globals.size v [⟨#[119, 105, 110, 100, 111, 119]⟩, ⟨#[99, 104, 97, 110, 110, 101, 108]⟩, ⟨#[116, 114, 105, 109]⟩]) (Ev.runF Try.prog 1000000 1000 Try.prog.globals.size 21 [.str [115, 101, 110, 115, 111, 114]] st) = true := by kernel_rfl
set_option maxRecDepth 1000000 in
theorem runb4 : Ev.outF (fun v s => Ev.textsIs s Try.prog.globals.size v [⟨#[119, 105, 110, 100, 111, 119]⟩, ⟨#[99, 108, 111, 99, 107]⟩, ⟨#[102, 105, 114, 109, 119, 97, 114, 101]⟩, ⟨#[97, 110, 116, 101, 110, 110, 97]⟩]) (Ev.runF Try.prog 1000000 1000 Try.prog.globals.size 21 [.str [114, 97, 100, 105, 111]] st) = true := by kernel_rfl
set_option maxRecDepth 1000000 in
theorem runb5 : Ev.outF (fun v s => Ev.textsIs s Try.prog.globals.size v [⟨#[119, 105, 110, 100, 111, 119]⟩]) (Ev.runF Try.prog 1000000 1000 Try.prog.globals.size 21 [.sym (.txt 0 nes)] st) = true := by kernel_rfl
theorem steps_any {W : World} (hsh : W.ShapedOpen Try.prog) (f : ByteArray) (w : World) (hb : Below W.heap.size W w) : Calls Try.prog 19 #[.string f] w fun e w' => ∃ v, e = .returned v ∧ w'.ownsRow w.heap.size 9 1 v (stepsF f).length (sc (stepsF f)) ∧ Below w.heap.size w w' := by
  letI : Ev.Env := ⟨0, fun _ => f.data.toList⟩
  have key : ∀ (a : Ev.AV) (ss : List ByteArray), (∀ β, Ev.Reps β [a] [.string f]) → Ev.outF (fun v s => Ev.textsIs s Try.prog.globals.size v ss) (Ev.runF Try.prog 1000000 1000 Try.prog.globals.size 19 [a] st) = true → Calls Try.prog 19 #[.string f] w fun e w' => ∃ v, e = .returned v ∧ w'.ownsRow w.heap.size 9 1 v ss.length (sc ss) ∧ Below w.heap.size w w' := fun a ss ha h => by
    refine (Ev.run_out (tabs := tabs) hsh (fun x hx => by cases hx) hb (Ev.runF_ok Try.prog 1000000 1000) (ars := [a]) (vs := #[.string f]) ha h).mono ?_
    rintro e w' ⟨⟨u, β, v, s, rfl, hr, ho, hc⟩, hw⟩
    exact ⟨u, rfl, Ev.textsIs_ok hc ho hr, hw⟩
  by_cases hn : f.data.toList ∈ nes
  · simp only [nes, List.mem_cons, List.not_mem_nil, or_false] at hn
    rcases hn with hc | hc | hc | hc | hc
    · have e : stepsF f = [⟨#[119, 105, 110, 100, 111, 119]⟩, ⟨#[114, 97, 116, 101]⟩, ⟨#[103, 97, 116, 101]⟩] := by unfold stepsF; rw [hc]; rfl
      rw [e]
      exact key (.str [99, 114, 121, 115, 116, 97, 108]) _ (fun β => ⟨_, _, rfl, Ev.rep_text hc, rfl⟩) runa0
    · have e : stepsF f = [⟨#[119, 105, 110, 100, 111, 119]⟩, ⟨#[108, 97, 100, 100, 101, 114]⟩, ⟨#[101, 110, 97, 98, 108, 101]⟩] := by unfold stepsF; rw [hc]; rfl
      rw [e]
      exact key (.str [115, 117, 112, 112, 108, 121]) _ (fun β => ⟨_, _, rfl, Ev.rep_text hc, rfl⟩) runa1
    · have e : stepsF f = [⟨#[119, 105, 110, 100, 111, 119]⟩, ⟨#[114, 101, 115, 101, 116]⟩, ⟨#[115, 99, 97, 110]⟩, ⟨#[108, 111, 99, 107]⟩] := by unfold stepsF; rw [hc]; rfl
      rw [e]
      exact key (.str [98, 117, 115]) _ (fun β => ⟨_, _, rfl, Ev.rep_text hc, rfl⟩) runa2
    · have e : stepsF f = [⟨#[119, 105, 110, 100, 111, 119]⟩, ⟨#[99, 104, 97, 110, 110, 101, 108]⟩, ⟨#[116, 114, 105, 109]⟩] := by unfold stepsF; rw [hc]; rfl
      rw [e]
      exact key (.str [115, 101, 110, 115, 111, 114]) _ (fun β => ⟨_, _, rfl, Ev.rep_text hc, rfl⟩) runa3
    · have e : stepsF f = [⟨#[119, 105, 110, 100, 111, 119]⟩, ⟨#[99, 108, 111, 99, 107]⟩, ⟨#[102, 105, 114, 109, 119, 97, 114, 101]⟩, ⟨#[97, 110, 116, 101, 110, 110, 97]⟩] := by unfold stepsF; rw [hc]; rfl
      rw [e]
      exact key (.str [114, 97, 100, 105, 111]) _ (fun β => ⟨_, _, rfl, Ev.rep_text hc, rfl⟩) runa4
  · have hc := hn
    have e : stepsF f = [⟨#[119, 105, 110, 100, 111, 119]⟩] := by
      simp only [nes, List.mem_cons, List.not_mem_nil, or_false, not_or] at hn
      unfold stepsF
      rw [if_neg hn.1, if_neg hn.2.1, if_neg hn.2.2.1, if_neg hn.2.2.2.1, if_neg hn.2.2.2.2]
    rw [e]
    exact key (.sym (.txt 0 nes)) _ (fun β => ⟨_, _, rfl, Ev.rep_none hc, rfl⟩) runa5
theorem rsteps_any {W : World} (hsh : W.ShapedOpen Try.prog) (f : ByteArray) (w : World) (hb : Below W.heap.size W w) : Calls Try.prog 21 #[.string f] w fun e w' => ∃ v, e = .returned v ∧ w'.ownsRow w.heap.size 9 1 v (stepsF f).length (sc (stepsF f)) ∧ Below w.heap.size w w' := by
  letI : Ev.Env := ⟨0, fun _ => f.data.toList⟩
  have key : ∀ (a : Ev.AV) (ss : List ByteArray), (∀ β, Ev.Reps β [a] [.string f]) → Ev.outF (fun v s => Ev.textsIs s Try.prog.globals.size v ss) (Ev.runF Try.prog 1000000 1000 Try.prog.globals.size 21 [a] st) = true → Calls Try.prog 21 #[.string f] w fun e w' => ∃ v, e = .returned v ∧ w'.ownsRow w.heap.size 9 1 v ss.length (sc ss) ∧ Below w.heap.size w w' := fun a ss ha h => by
    refine (Ev.run_out (tabs := tabs) hsh (fun x hx => by cases hx) hb (Ev.runF_ok Try.prog 1000000 1000) (ars := [a]) (vs := #[.string f]) ha h).mono ?_
    rintro e w' ⟨⟨u, β, v, s, rfl, hr, ho, hc⟩, hw⟩
    exact ⟨u, rfl, Ev.textsIs_ok hc ho hr, hw⟩
  by_cases hn : f.data.toList ∈ nes
  · simp only [nes, List.mem_cons, List.not_mem_nil, or_false] at hn
    rcases hn with hc | hc | hc | hc | hc
    · have e : stepsF f = [⟨#[119, 105, 110, 100, 111, 119]⟩, ⟨#[114, 97, 116, 101]⟩, ⟨#[103, 97, 116, 101]⟩] := by unfold stepsF; rw [hc]; rfl
      rw [e]
      exact key (.str [99, 114, 121, 115, 116, 97, 108]) _ (fun β => ⟨_, _, rfl, Ev.rep_text hc, rfl⟩) runb0
    · have e : stepsF f = [⟨#[119, 105, 110, 100, 111, 119]⟩, ⟨#[108, 97, 100, 100, 101, 114]⟩, ⟨#[101, 110, 97, 98, 108, 101]⟩] := by unfold stepsF; rw [hc]; rfl
      rw [e]
      exact key (.str [115, 117, 112, 112, 108, 121]) _ (fun β => ⟨_, _, rfl, Ev.rep_text hc, rfl⟩) runb1
    · have e : stepsF f = [⟨#[119, 105, 110, 100, 111, 119]⟩, ⟨#[114, 101, 115, 101, 116]⟩, ⟨#[115, 99, 97, 110]⟩, ⟨#[108, 111, 99, 107]⟩] := by unfold stepsF; rw [hc]; rfl
      rw [e]
      exact key (.str [98, 117, 115]) _ (fun β => ⟨_, _, rfl, Ev.rep_text hc, rfl⟩) runb2
    · have e : stepsF f = [⟨#[119, 105, 110, 100, 111, 119]⟩, ⟨#[99, 104, 97, 110, 110, 101, 108]⟩, ⟨#[116, 114, 105, 109]⟩] := by unfold stepsF; rw [hc]; rfl
      rw [e]
      exact key (.str [115, 101, 110, 115, 111, 114]) _ (fun β => ⟨_, _, rfl, Ev.rep_text hc, rfl⟩) runb3
    · have e : stepsF f = [⟨#[119, 105, 110, 100, 111, 119]⟩, ⟨#[99, 108, 111, 99, 107]⟩, ⟨#[102, 105, 114, 109, 119, 97, 114, 101]⟩, ⟨#[97, 110, 116, 101, 110, 110, 97]⟩] := by unfold stepsF; rw [hc]; rfl
      rw [e]
      exact key (.str [114, 97, 100, 105, 111]) _ (fun β => ⟨_, _, rfl, Ev.rep_text hc, rfl⟩) runb4
  · have hc := hn
    have e : stepsF f = [⟨#[119, 105, 110, 100, 111, 119]⟩] := by
      simp only [nes, List.mem_cons, List.not_mem_nil, or_false, not_or] at hn
      unfold stepsF
      rw [if_neg hn.1, if_neg hn.2.1, if_neg hn.2.2.1, if_neg hn.2.2.2.1, if_neg hn.2.2.2.2]
    rw [e]
    exact key (.sym (.txt 0 nes)) _ (fun β => ⟨_, _, rfl, Ev.rep_none hc, rfl⟩) runb5
end stepsRun
end Go.Proofs.Ytnajbogmhhlpcaa
