/- The law InterTells answers true, for all arguments that hold together at most 1048576 values and letters, and leaves them as they were. -/
import Derived.Test.YtfoponahdidddaaqInterTells18
import Derived.Test.YtfoponahdidddaaqInterTells3
import Derived.Test.YtfoponahdidddaaqInterTells7
import Derived.WalkKit
import Derived.ProofKit
import Derived.OpenShut
import Derived.ShutString
import Derived.ChangeOld
import Derived.Below
import Derived.SizedLaws
import Derived.JoinedCond
set_option linter.unusedVariables false
set_option linter.unusedSimpArgs false
namespace Go.Proofs.Ytfoponahdidddaa.P
open Go.RowKit Go.Proofs.YtfoponahdidddaaW.PrintWords Go.Proofs.YtfoponahdidddaaW.PrintLast Go.Proofs.YtfoponahdidddaaW.PrintMore
def InterTells.Pure : Prop := ∀ (l0 : List (Op)) (l1 : List (Op)), ((fun xs => ∀ y ∈ xs, okOp y) l0) → ((fun xs => ∀ y ∈ xs, okOp y) l1) → (fun xs => (xs.map wtOp).sum + 1) l0 + (fun xs => (xs.map wtOp).sum + 1) l1 ≤ 1048576 → ∃ k, patchworklaw14_InterTells.f k l0 l1 = some true
end Go.Proofs.Ytfoponahdidddaa.P
namespace Go.Proofs.Ytfoponahdidddaa.P
open Go.RowKit Go.Proofs.YtfoponahdidddaaW.PrintWords Go.Proofs.YtfoponahdidddaaW.PrintLast Go.Proofs.YtfoponahdidddaaW.PrintMore
theorem InterTells.out (a b : List Op) : Ev (fun k => patchworklaw14_InterTells.j0 k a b true true) true := by
 refine Ev.step (fun k => rfl) ?_
 simp only [patchworklaw14_InterTells.j0, if_true]
 exact Ev.now true
theorem InterTells.proved : InterTells.Pure := by
 intro p q _ _ hw
 simp only at hw
 have fp := fewN_le p
 have fq := fewN_le q
 refine Ev.rounds ?_
 simp only [patchworklaw14_InterTells.f]
 refine Ev.bind' alive14 ?_
 simp only [if_true]
 refine Ev.bind' (few_ev (by omega)) ?_
 by_cases h : fewN p ≤ 600
 ·simp only [h, decide_true, if_true]
  refine Ev.bind' (few_ev (by omega)) ?_
  by_cases h2 : fewN q ≤ 600
  ·simp only [h2, decide_true, Bool.not_true]
   have hp := Sx.of_few h
   have hq := Sx.of_few h2
   have lp := fewN_len p
   have lq := fewN_len q
   have c1 : ([] : List Op).length + p.length < 4398046511104 := by simp only [List.length_nil]; omega
   have c2 : ([] : List Op).length + q.length < 4398046511104 := by simp only [List.length_nil]; omega
   have l1 := (inter_len hp hq (by omega)).1
   refine Ev.step (fun k => rfl) ?_
   simp only [patchworklaw14_InterTells.j0, Bool.false_eq_true, if_false, if_pos c1, if_pos c2, List.nil_append]
   refine Ev.bind' (pinter_ev hp hq (by omega)) ?_
   refine Ev.bind' (refinter_ev hp hq (by omega)) ?_
   refine Ev.bind' (same_ev _ _ (by omega)) ?_
   simp only [decide_true, if_true, beq_self_eq_true]
   exact Ev.now true
  ·simp only [h2, decide_false, Bool.not_false]
   exact InterTells.out p q
 ·simp only [h, decide_false, Bool.false_eq_true, if_false]
  exact InterTells.out p q
end Go.Proofs.Ytfoponahdidddaa.P
namespace Go.Proofs.Ytfoponahdidddaa.P.interTells
open Go.ChangeShapes Go.WideShapes Go.ChangeAt Go.RowKit Go.Proofs.Ytfoponahdidddaa.P Go.Proofs.YtfoponahdidddaaW.PrintWords
open Go.ChangeMaps (open_string shut_string)
theorem own : ownKnob Try.prog.godebug = none := by kernel_rfl
theorem laidOut : laidOutB Try.prog = true := by kernel_rfl
theorem opens0 : Opens Try.prog 41 kOp okOp wtOp := (opens_struct3 (d0 := (Kd.int .i64)) (d1 := (Kd.int .i64)) (d2 := Kd.string) Try.underlying41 (by kernel_rfl) rfl rfl rfl rfl rfl rfl (opens_int Try.underlying3 (by kernel_rfl)) (opens_int Try.underlying3 (by kernel_rfl)) (opens_string Try.underlying9 (by kernel_rfl)) (fun x : Op => (x.f0, x.f1, x.f2)) (fun a b c => ⟨a, b, c⟩) (fun _ _ _ => rfl))
theorem opens1 : Opens Try.prog 41 kOp okOp wtOp := (opens_struct3 (d0 := (Kd.int .i64)) (d1 := (Kd.int .i64)) (d2 := Kd.string) Try.underlying41 (by kernel_rfl) rfl rfl rfl rfl rfl rfl (opens_int Try.underlying3 (by kernel_rfl)) (opens_int Try.underlying3 (by kernel_rfl)) (opens_string Try.underlying9 (by kernel_rfl)) (fun x : Op => (x.f0, x.f1, x.f2)) (fun a b c => ⟨a, b, c⟩) (fun _ _ _ => rfl))
set_option maxRecDepth 100000 in
theorem contract (H : Type) (enc : TypeId × Value → H) (W : World) (base : Nat) (args : Array Value) (ds gs : List (DataW H)) (before : List MemPlace)
  (hval : ∀ (j : Nat) t v, Try.f9.params[j]? = some t → args[j]? = some v → Value.okWide Try.prog W .any base t v)
  (hW : DataW.Whole enc Try.prog Try.f9.params.toList Rows.interTellsSpec.vars false W args.toList ds gs before) (hk : Rows.uptoSmall H (ds ++ gs) = true) :
  Calls Try.prog 9 args W fun e W' => ∃ v, e = .returned v ∧ Rows.interTellsSpec.post enc Try.prog Try.f9 false true false false W args v W' := by
 have hW' := hW
 obtain ⟨p, q, hA0, hV, rfl, hfz, hnd⟩ := hW
 have hA : DataW.TrodAll enc Try.prog W 0 (fun _ => true) true Try.f9.params.toList args.toList ds p := hA0
 rw [Try.params9] at hA hval
 obtain ⟨v0, vs0, d0, ds0, p0, q0, hargs, rfl, rfl, h0, r0⟩ := trodAll_cons hA
 obtain ⟨v1, vs1, d1, ds1, p1, q1, rfl, rfl, rfl, h1, r1⟩ := trodAll_cons r0
 obtain ⟨rfl, rfl, rfl⟩ := trodAll_nil r1
 obtain rfl : args = #[v0, v1] := by cases args; simp_all
 obtain ⟨rfl, rfl⟩ := trodVars_none hV
 have hb := small_all hk
 simp only [List.append_nil, Rows.uptoBulkAll] at hb
 obtain ⟨A0, len0, c0, rfl⟩ := okWide_slice Try.underlying22 (hval 0 22 v0 rfl rfl)
 have k0 := h0
 have lt0 : ∀ x ∈ p0, x.block < W.heap.size := by obtain ⟨m, hm⟩ := k0; exact DataW.trod_lt m _ _ _ hm
 obtain ⟨fuel0, hf0⟩ := h0
 obtain ⟨A0', c0', l0, hcs0, hc0, hr0, ok0, wt0⟩ := open_row Try.underlying22 opens0 hf0
 simp only [Value.cells, List.cons.injEq, Value.slice.injEq, and_true] at hcs0
 obtain ⟨rfl, rfl, rfl⟩ := hcs0
 obtain ⟨A1, len1, c1, rfl⟩ := okWide_slice Try.underlying22 (hval 1 22 v1 rfl rfl)
 have k1 := h1
 have lt1 : ∀ x ∈ p1, x.block < W.heap.size := by obtain ⟨m, hm⟩ := k1; exact DataW.trod_lt m _ _ _ hm
 obtain ⟨fuel1, hf1⟩ := h1
 obtain ⟨A1', c1', l1, hcs1, hc1, hr1, ok1, wt1⟩ := open_row Try.underlying22 opens1 hf1
 simp only [Value.cells, List.cons.injEq, Value.slice.injEq, and_true] at hcs1
 obtain ⟨rfl, rfl, rfl⟩ := hcs1
 clear hA0 hval
 obtain ⟨k, hp⟩ := InterTells.proved l0 l1 ok0 ok1 (by simp only [] at *; omega)
 refine (patchworklaw14_InterTells.calls k _ _ l0 _ _ l1 true W hr0 hc0 hr1 hc1 hp).mono fun e W' ⟨he, bel0⟩ => ?_
 have bel : Below W.heap.size W W' := bel0
 subst he
 exact ⟨_, rfl, _, _, _, [], _, [], hW', trodAll_mk1 (shut_bool Try.underlying4 _), (trodAll_cons_mk (Below.trod laidOut (by kernel_rfl) (of_decide_eq_true (by kernel_rfl)) k0 bel lt0) (trodAll_cons_mk (Below.trod laidOut (by kernel_rfl) (of_decide_eq_true (by kernel_rfl)) k1 bel lt1) trodAll_mk0)), rfl, bel.frame _, fun h => by cases h⟩
set_option maxRecDepth 100000 in
theorem lifted (os : Os) (started : os.Started) (H : Type) (enc : TypeId × Value → H) (F : Stop.Interp) :
  ReturnsInHanded {} Try.checked os 9 .any ((Rows.OpenSpec.upto Rows.interTellsSpec).pre6 enc Try.prog Try.f9 Rows.interTellsUptoRow.domain false) (((Rows.OpenSpec.upto Rows.interTellsSpec).at F).post enc Try.prog Try.f9 false true false false) := by
 refine returnsInHanded_of_cond (C := Try.checked) (s := Rows.OpenSpec.upto Rows.interTellsSpec) (k := Rows.uptoSmall) rfl own started (by kernel_rfl) Try.func9
  (OpenSpec.witness (enc := enc) (C := Try.checked) (s := Rows.OpenSpec.upto Rows.interTellsSpec) (k := Rows.uptoSmall) rfl false ⟨#[], #[.slice none 0 0, .slice none 0 0], []⟩ 8 (by kernel_rfl) (by kernel_rfl) (by kernel_rfl)
   (x := ([.nil, .nil], [], [])) (by kernel_rfl) rfl (by kernel_rfl)) ?_
 intro W base args ds gs before hval hW _ hk _
 exact contract H enc W base args ds gs before hval hW hk
theorem over : Rows.interTellsUptoRow.holds Try.pinned (Rows.OpenSpec.upto Rows.interTellsSpec) :=
 OpenClaim.holds_of_cond 9 Try.f9 rfl rfl rfl rfl rfl rfl rfl ⟨rfl, rfl, rfl, rfl, rfl⟩ rfl rfl rfl rfl rfl (by kernel_rfl) Try.func9 (by kernel_rfl)
  (of_decide_eq_true (by kernel_rfl)) (by unfold Func.isWrapper; first | (rw [if_pos (by decide +kernel)]; kernel_rfl) | (rw [if_neg (by decide +kernel)]; exact ⟨rfl, rfl⟩))
  (fun os started H enc _ F => lifted os started H enc F)
theorem proved : Rows.InterTellsUptoSaid := over
end Go.Proofs.Ytfoponahdidddaa.P.interTells
namespace Go.Proofs.Ytfoponahdidddaa
theorem interTells_holds : Rows.InterTellsUptoSaid := P.interTells.proved
#print axioms interTells_holds
end Go.Proofs.Ytfoponahdidddaa
