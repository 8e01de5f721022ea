/- The law ApplyEach answers true, for all arguments that hold together at most 1048576 values and letters, and leaves them as they were. -/
import Derived.Test.YtkalkickknjdhaaqApplyEach8
import Derived.Test.YtkalkickknjdhaaqApplyEach3
import Derived.Test.YtkalkickknjdhaaqApplyEach5
import Derived.WalkKit
import Derived.ProofKit
import Derived.OpenShut
import Derived.ShutString
import Derived.ChangeOld
import Derived.Below
import Derived.SizedLaws
import Derived.JoinedCond
set_option linter.unusedVariables false
set_option linter.unusedSimpArgs false
namespace Go.Proofs.Ytkalkickknjdhaa.P
open Go.RowKit Go.Proofs.YtkalkickknjdhaaW.PrintWords Go.Proofs.YtkalkickknjdhaaW.PrintLast Go.Proofs.YtkalkickknjdhaaW.PrintMore
def ApplyEach.Pure : Prop := ∀ (a0 : Int), ((fun n => (Lit.int .i64 n).wf = true) a0) → (fun _ => 1) a0 ≤ 1048576 → ∃ k, patchworklaw9_ApplyEach.f k a0 = some true
end Go.Proofs.Ytkalkickknjdhaa.P
namespace Go.Proofs.Ytkalkickknjdhaa.P
open Go.RowKit Go.Proofs.YtkalkickknjdhaaW.PrintWords Go.Proofs.YtkalkickknjdhaaW.PrintLast Go.Proofs.YtkalkickknjdhaaW.PrintMore
theorem ApplyEach.out (a : Int) (t : List (List Op)) (n m : List ByteArray) : Ev (fun k => patchworklaw9_ApplyEach.j0 k a true t n m true) true := by
 refine Ev.step (fun k => rfl) ?_
 simp only [patchworklaw9_ApplyEach.j0, if_true]
 exact Ev.now true
theorem ApplyEach.proved : ApplyEach.Pure := by
 intro a _ _
 refine Ev.rounds ?_
 simp only [patchworklaw9_ApplyEach.f, Option.bind_some]
 refine Ev.bind' alive9 ?_
 simp only [if_true]
 by_cases h0 : a < 0
 ·simp only [if_pos h0]; exact ApplyEach.out ..
 simp only [if_neg h0]
 by_cases h1 : a < 15
 ·have hs : a = 0 ∨ a = 1 ∨ a = 2 ∨ a = 3 ∨ a = 4 ∨ a = 5 ∨ a = 6 ∨ a = 7 ∨ a = 8 ∨ a = 9 ∨ a = 10 ∨ a = 11 ∨ a = 12 ∨ a = 13 ∨ a = 14 := by omega
  rcases hs with h | h | h | h | h | h | h | h | h | h | h | h | h | h | h <;> subst h <;>
   exact Ev.of (k := 60) (fun k => patchworklaw9_ApplyEach.mono_l k _ _ _ _ _ _) (by decide +kernel)
 ·have hd : decide (a ≥ ((15 : Nat) : Int)) = true := decide_eq_true (by omega)
  show Ev (fun k => patchworklaw9_ApplyEach.j0 k a true _ _ _ (decide (a ≥ ((15 : Nat) : Int)))) true
  rw [hd]
  exact ApplyEach.out _ _ _ _
end Go.Proofs.Ytkalkickknjdhaa.P
namespace Go.Proofs.Ytkalkickknjdhaa.P.applyEach
open Go.ChangeShapes Go.WideShapes Go.ChangeAt Go.RowKit Go.Proofs.Ytkalkickknjdhaa.P Go.Proofs.YtkalkickknjdhaaW.PrintWords
open Go.ChangeMaps (open_string shut_string)
theorem own : ownKnob Try.prog.godebug = none := by kernel_rfl
set_option maxRecDepth 100000 in
theorem contract (H : Type) (enc : TypeId × Value → H) (W : World) (base : Nat) (args : Array Value) (ds gs : List (DataW H)) (before : List MemPlace)
  (hval : ∀ (j : Nat) t v, Try.f7.params[j]? = some t → args[j]? = some v → Value.okWide Try.prog W .any base t v)
  (hW : DataW.Whole enc Try.prog Try.f7.params.toList Rows.applyEachSpec.vars false W args.toList ds gs before) (hk : Rows.uptoSmall H (ds ++ gs) = true) :
  Calls Try.prog 7 args W fun e W' => ∃ v, e = .returned v ∧ Rows.applyEachSpec.post enc Try.prog Try.f7 false true false false W args v W' := by
 have hW' := hW
 obtain ⟨p, q, hA0, hV, rfl, hfz, hnd⟩ := hW
 have hA : DataW.TrodAll enc Try.prog W 0 (fun _ => true) true Try.f7.params.toList args.toList ds p := hA0
 rw [Try.params7] at hA hval
 obtain ⟨v0, vs0, d0, ds0, p0, q0, hargs, rfl, rfl, h0, r0⟩ := trodAll_cons hA
 obtain ⟨rfl, rfl, rfl⟩ := trodAll_nil r0
 obtain rfl : args = #[v0] := by cases args; simp_all
 obtain ⟨rfl, rfl⟩ := trodVars_none hV
 have hb := small_all hk
 simp only [List.append_nil, Rows.uptoBulkAll] at hb
 obtain ⟨a0, rfl, rfl, rfl, ok0⟩ := open_int Try.underlying3 (hval 0 3 v0 rfl rfl) h0
 have wt0 : 1 ≤ Rows.uptoBulk (DataW.lit (H := H) (.int .i64 a0)) := by simp [Rows.uptoBulk]
 clear hA0 hval
 obtain ⟨k, hp⟩ := ApplyEach.proved a0 ok0 (by simp only [] at *; omega)
 refine (patchworklaw9_ApplyEach.calls k a0 true W hp).mono fun e W' ⟨he, bel0⟩ => ?_
 have bel : Below W.heap.size W W' := bel0
 subst he
 exact ⟨_, rfl, _, _, _, [], _, [], hW', trodAll_mk1 (shut_bool Try.underlying4 _), (trodAll_cons_mk (shut_int Try.underlying3 ok0) trodAll_mk0), rfl, bel.frame _, fun h => by cases h⟩
set_option maxRecDepth 100000 in
theorem lifted (os : Os) (started : os.Started) (H : Type) (enc : TypeId × Value → H) (F : Stop.Interp) :
  ReturnsInHanded {} Try.checked os 7 .any ((Rows.OpenSpec.upto Rows.applyEachSpec).pre6 enc Try.prog Try.f7 Rows.applyEachUptoRow.domain false) (((Rows.OpenSpec.upto Rows.applyEachSpec).at F).post enc Try.prog Try.f7 false true false false) := by
 refine returnsInHanded_of_cond (C := Try.checked) (s := Rows.OpenSpec.upto Rows.applyEachSpec) (k := Rows.uptoSmall) rfl own started (by kernel_rfl) Try.func7
  (OpenSpec.witness (enc := enc) (C := Try.checked) (s := Rows.OpenSpec.upto Rows.applyEachSpec) (k := Rows.uptoSmall) rfl false ⟨#[], #[.int .i64 0], []⟩ 8 (by kernel_rfl) (by kernel_rfl) (by kernel_rfl)
   (x := ([.lit (.int .i64 0)], [], [])) (by kernel_rfl) rfl (by kernel_rfl)) ?_
 intro W base args ds gs before hval hW _ hk _
 exact contract H enc W base args ds gs before hval hW hk
theorem over : Rows.applyEachUptoRow.holds Try.pinned (Rows.OpenSpec.upto Rows.applyEachSpec) :=
 OpenClaim.holds_of_cond 7 Try.f7 rfl rfl rfl rfl rfl rfl rfl ⟨rfl, rfl, rfl, rfl, rfl⟩ rfl rfl rfl rfl rfl (by kernel_rfl) Try.func7 (by kernel_rfl)
  (of_decide_eq_true (by kernel_rfl)) (by unfold Func.isWrapper; first | (rw [if_pos (by decide +kernel)]; kernel_rfl) | (rw [if_neg (by decide +kernel)]; exact ⟨rfl, rfl⟩))
  (fun os started H enc _ F => lifted os started H enc F)
theorem proved : Rows.ApplyEachUptoSaid := over
end Go.Proofs.Ytkalkickknjdhaa.P.applyEach
namespace Go.Proofs.Ytkalkickknjdhaa
theorem applyEach_holds : Rows.ApplyEachUptoSaid := P.applyEach.proved
#print axioms applyEach_holds
end Go.Proofs.Ytkalkickknjdhaa
