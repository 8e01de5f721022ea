/- The law InterEach answers true, for all arguments that hold together at most 1048576 values and letters, and leaves them as they were. -/
import Derived.Test.YtfoponahdidddaaqInterEach12
import Derived.Test.YtfoponahdidddaaqInterEach3
import Derived.Test.YtfoponahdidddaaqInterEach7
import Derived.WalkKit
import Derived.ProofKit
import Derived.OpenShut
import Derived.ShutString
import Derived.ChangeOld
import Derived.Below
import Derived.SizedLaws
import Derived.JoinedCond
set_option linter.unusedVariables false
set_option linter.unusedSimpArgs false
namespace Go.Proofs.Ytfoponahdidddaa.P
open Go.RowKit Go.Proofs.YtfoponahdidddaaW.PrintWords Go.Proofs.YtfoponahdidddaaW.PrintLast Go.Proofs.YtfoponahdidddaaW.PrintMore
def InterEach.Pure : Prop := ∀ (a0 : Int), ((fun n => (Lit.int .i64 n).wf = true) a0) → (fun _ => 1) a0 ≤ 1048576 → ∃ k, patchworklaw14_InterEach.f k a0 = some true
end Go.Proofs.Ytfoponahdidddaa.P
namespace Go.Proofs.Ytfoponahdidddaa.P
open Go.RowKit Go.Proofs.YtfoponahdidddaaW.PrintWords Go.Proofs.YtfoponahdidddaaW.PrintLast Go.Proofs.YtfoponahdidddaaW.PrintMore
theorem InterEach.out (a : Int) (t u v : List (List Op)) : Ev (fun k => patchworklaw14_InterEach.j0 k a true t u v true) true := by
 refine Ev.step (fun k => rfl) ?_
 simp only [patchworklaw14_InterEach.j0, if_true]
 exact Ev.now true
theorem InterEach.proved : InterEach.Pure := by
 intro a _ _
 refine Ev.rounds ?_
 simp only [patchworklaw14_InterEach.f, Option.bind_some]
 refine Ev.bind' alive14 ?_
 simp only [if_true]
 by_cases h0 : a < 0
 ·simp only [if_pos h0]; exact InterEach.out ..
 simp only [if_neg h0]
 by_cases h1 : a < 9
 ·have hs : a = 0 ∨ a = 1 ∨ a = 2 ∨ a = 3 ∨ a = 4 ∨ a = 5 ∨ a = 6 ∨ a = 7 ∨ a = 8 := by omega
  rcases hs with h | h | h | h | h | h | h | h | h <;> subst h <;>
   exact Ev.of (k := 60) (fun k => patchworklaw14_InterEach.mono_l k _ _ _ _ _ _) (by decide +kernel)
 ·have hd : decide (a ≥ ((9 : Nat) : Int)) = true := decide_eq_true (by omega)
  show Ev (fun k => patchworklaw14_InterEach.j0 k a true _ _ _ (decide (a ≥ ((9 : Nat) : Int)))) true
  rw [hd]
  exact InterEach.out _ _ _ _
end Go.Proofs.Ytfoponahdidddaa.P
namespace Go.Proofs.Ytfoponahdidddaa.P.interEach
open Go.ChangeShapes Go.WideShapes Go.ChangeAt Go.RowKit Go.Proofs.Ytfoponahdidddaa.P Go.Proofs.YtfoponahdidddaaW.PrintWords
open Go.ChangeMaps (open_string shut_string)
theorem own : ownKnob Try.prog.godebug = none := by kernel_rfl
set_option maxRecDepth 100000 in
theorem contract (H : Type) (enc : TypeId × Value → H) (W : World) (base : Nat) (args : Array Value) (ds gs : List (DataW H)) (before : List MemPlace)
  (hval : ∀ (j : Nat) t v, Try.f13.params[j]? = some t → args[j]? = some v → Value.okWide Try.prog W .any base t v)
  (hW : DataW.Whole enc Try.prog Try.f13.params.toList Rows.interEachSpec.vars false W args.toList ds gs before) (hk : Rows.uptoSmall H (ds ++ gs) = true) :
  Calls Try.prog 13 args W fun e W' => ∃ v, e = .returned v ∧ Rows.interEachSpec.post enc Try.prog Try.f13 false true false false W args v W' := by
 have hW' := hW
 obtain ⟨p, q, hA0, hV, rfl, hfz, hnd⟩ := hW
 have hA : DataW.TrodAll enc Try.prog W 0 (fun _ => true) true Try.f13.params.toList args.toList ds p := hA0
 rw [Try.params13] at hA hval
 obtain ⟨v0, vs0, d0, ds0, p0, q0, hargs, rfl, rfl, h0, r0⟩ := trodAll_cons hA
 obtain ⟨rfl, rfl, rfl⟩ := trodAll_nil r0
 obtain rfl : args = #[v0] := by cases args; simp_all
 obtain ⟨rfl, rfl⟩ := trodVars_none hV
 have hb := small_all hk
 simp only [List.append_nil, Rows.uptoBulkAll] at hb
 obtain ⟨a0, rfl, rfl, rfl, ok0⟩ := open_int Try.underlying3 (hval 0 3 v0 rfl rfl) h0
 have wt0 : 1 ≤ Rows.uptoBulk (DataW.lit (H := H) (.int .i64 a0)) := by simp [Rows.uptoBulk]
 clear hA0 hval
 obtain ⟨k, hp⟩ := InterEach.proved a0 ok0 (by simp only [] at *; omega)
 refine (patchworklaw14_InterEach.calls k a0 true W hp).mono fun e W' ⟨he, bel0⟩ => ?_
 have bel : Below W.heap.size W W' := bel0
 subst he
 exact ⟨_, rfl, _, _, _, [], _, [], hW', trodAll_mk1 (shut_bool Try.underlying4 _), (trodAll_cons_mk (shut_int Try.underlying3 ok0) trodAll_mk0), rfl, bel.frame _, fun h => by cases h⟩
set_option maxRecDepth 100000 in
theorem lifted (os : Os) (started : os.Started) (H : Type) (enc : TypeId × Value → H) (F : Stop.Interp) :
  ReturnsInHanded {} Try.checked os 13 .any ((Rows.OpenSpec.upto Rows.interEachSpec).pre6 enc Try.prog Try.f13 Rows.interEachUptoRow.domain false) (((Rows.OpenSpec.upto Rows.interEachSpec).at F).post enc Try.prog Try.f13 false true false false) := by
 refine returnsInHanded_of_cond (C := Try.checked) (s := Rows.OpenSpec.upto Rows.interEachSpec) (k := Rows.uptoSmall) rfl own started (by kernel_rfl) Try.func13
  (OpenSpec.witness (enc := enc) (C := Try.checked) (s := Rows.OpenSpec.upto Rows.interEachSpec) (k := Rows.uptoSmall) rfl false ⟨#[], #[.int .i64 0], []⟩ 8 (by kernel_rfl) (by kernel_rfl) (by kernel_rfl)
   (x := ([.lit (.int .i64 0)], [], [])) (by kernel_rfl) rfl (by kernel_rfl)) ?_
 intro W base args ds gs before hval hW _ hk _
 exact contract H enc W base args ds gs before hval hW hk
theorem over : Rows.interEachUptoRow.holds Try.pinned (Rows.OpenSpec.upto Rows.interEachSpec) :=
 OpenClaim.holds_of_cond 13 Try.f13 rfl rfl rfl rfl rfl rfl rfl ⟨rfl, rfl, rfl, rfl, rfl⟩ rfl rfl rfl rfl rfl (by kernel_rfl) Try.func13 (by kernel_rfl)
  (of_decide_eq_true (by kernel_rfl)) (by unfold Func.isWrapper; first | (rw [if_pos (by decide +kernel)]; kernel_rfl) | (rw [if_neg (by decide +kernel)]; exact ⟨rfl, rfl⟩))
  (fun os started H enc _ F => lifted os started H enc F)
theorem proved : Rows.InterEachUptoSaid := over
end Go.Proofs.Ytfoponahdidddaa.P.interEach
namespace Go.Proofs.Ytfoponahdidddaa
theorem interEach_holds : Rows.InterEachUptoSaid := P.interEach.proved
#print axioms interEach_holds
end Go.Proofs.Ytfoponahdidddaa
