/- The law ComposeNone answers true, for all arguments that hold together at most 1048576 values and letters, and leaves them as they were. -/
import Derived.Test.YtkiklmmpflndbaaqComposeNone13
import Derived.Test.YtkiklmmpflndbaaqComposeNone3
import Derived.Test.YtkiklmmpflndbaaqComposeNone7
import Derived.Test.YtkiklmmpflndbaaqComposeNone5
import Derived.WalkKit
import Derived.ProofKit
import Derived.OpenShut
import Derived.ShutString
import Derived.ChangeOld
import Derived.Below
import Derived.SizedLaws
import Derived.JoinedCond
set_option linter.unusedVariables false
set_option linter.unusedSimpArgs false
namespace Go.Proofs.Ytkiklmmpflndbaa.P
open Go.RowKit Go.Proofs.YtkiklmmpflndbaaW.PrintWords Go.Proofs.YtkiklmmpflndbaaW.PrintLast Go.Proofs.YtkiklmmpflndbaaW.PrintMore
def ComposeNone.Pure : Prop := ∀ (l0 : List (Op)), ((fun xs => ∀ y ∈ xs, okOp y) l0) → (fun xs => (xs.map wtOp).sum + 1) l0 ≤ 1048576 → ∃ k, patchworklaw11_ComposeNone.f k l0 = some true
end Go.Proofs.Ytkiklmmpflndbaa.P
namespace Go.Proofs.Ytkiklmmpflndbaa.P
open Go.RowKit Go.Proofs.YtkiklmmpflndbaaW.PrintWords Go.Proofs.YtkiklmmpflndbaaW.PrintLast Go.Proofs.YtkiklmmpflndbaaW.PrintMore
theorem ComposeNone.out (a : List Op) : Ev (fun k => patchworklaw11_ComposeNone.j0 k a true true) true := by
 refine Ev.step (fun k => rfl) ?_
 simp only [patchworklaw11_ComposeNone.j0, if_true]
 exact Ev.now true
theorem right_sides {l : List Op} (h : rightL l = true) : closedS false (olds (ex l)) = true ∧ closedS false (news (ex l)) = true := by
 have := rightL_U h
 unfold rightU okS at this
 simp only [Bool.and_eq_true] at this
 exact ⟨this.1.2.1, this.2.2.1⟩
theorem then_nil {p : List Op} (h : rightL p = true) : thenL p [] = (normL p, true) :=
 thenL_of h rfl (by rw [ex_nil]; exact cmpU_none2 _ _ (right_sides h).2) (rightL_U h)
theorem nil_then {p : List Op} (h : rightL p = true) : thenL [] p = (normL p, true) :=
 thenL_of rfl h (by rw [ex_nil]; exact cmpU_none1 _ _ (right_sides h).1) (rightL_U h)
theorem then_back {p : List Op} (h : rightL p = true) : ∃ c, thenL p (flipL p) = (c, true) ∧ rightL c = true ∧ olds (ex c) = olds (ex p) ∧ news (ex c) = olds (ex p) := by
 obtain ⟨w, h1, h2, h3⟩ := cmpU_back (ex p) [] false .nil (right_sides h).2
 rw [List.nil_append] at h1
 have n := cmpU_norm2 (ex p) false (flipU (ex p))
 rw [h1] at n
 obtain ⟨v, hv, ev⟩ := nfO_some n
 have ov : olds v = olds (ex p) := by rw [← olds_nf0, ev, olds_nf0, h2]
 have nv : news v = olds (ex p) := by rw [← news_nf0, ev, news_nf0, h3]; rfl
 have rf : rightL (flipL p) = true := by unfold flipL; rw [right_pack, rightU_nf, rightU_flip]; exact rightL_U h
 have ru : rightU v = true := by
  have := rightL_U h
  unfold rightU at this ⊢
  rw [ov, nv]
  rw [Bool.and_eq_true] at this
  rw [this.1]; rfl
 have hc : cmpU (ex p) false (ex (flipL p)) = some v := by unfold flipL; rw [ex_pack]; exact hv
 have ht := thenL_of h rf hc ru
 refine ⟨_, ht, ?_, ?_, ?_⟩
 ·rw [right_pack, rightU_nf]; exact ru
 ·rw [ex_pack, olds_nf0, ov]
 ·rw [ex_pack, news_nf0, nv]
theorem ComposeNone.proved : ComposeNone.Pure := by
 intro p _ hw
 simp only at hw
 have fp := fewN_le p
 have lp := fewN_len p
 refine Ev.rounds ?_
 simp only [patchworklaw11_ComposeNone.f]
 refine Ev.bind' alive11 ?_
 simp only [if_true]
 refine Ev.bind' (few_ev (by omega)) ?_
 by_cases h : fewN p ≤ 600
 ·simp only [h, decide_true, if_true]
  have hp := Sx.of_few h
  refine Ev.bind' (refright_ev hp.sm) ?_
  cases rp : rightL p
  ·exact ComposeNone.out p
  simp only [Bool.not_true]
  have s0 : Sx [] := ⟨by simp, by simp⟩
  have ln : (normL p).length ≤ p.length := by
   have := nf_pack_len p [] (rightL_form rp)
   show (pack (nf [] (ex p))).length ≤ _
   simpa using this
  have e1 := pthen_ev hp s0
  rw [then_nil rp] at e1
  have e2 := pthen_ev s0 hp
  rw [nil_then rp] at e2
  have e3 := refflip_ev hp.sm
  rw [rp, if_pos rfl] at e3
  have lf : (flipL p).length ≤ p.length := by
   rw [← norm_flip rp]
   have := nf_pack_len (p.map flipO) [] (rightL_form (right_flip rp))
   show (pack (nf [] (ex (p.map flipO)))).length ≤ _
   simpa using this
  have hf : Sx (flipL p) := by
   refine ⟨by omega, fun o ho => ?_⟩
   have ho : o ∈ pack (nf [] (flipU (ex p))) := ho
   rw [← ex_flip (rightL_form rp)] at ho
   have he0 : ByteArray.empty.size = 0 := rfl
   rcases tx_pack _ o ho with e | ⟨x, hx, e⟩
   ·rw [e, he0]; omega
   ·rcases nf_mem _ _ _ hx with hx | hx
    ·simp at hx
    ·rcases tx_ex hx with e2 | ⟨y, hy, e2⟩
     ·rw [e, e2, he0]; omega
     ·rw [e, e2]
      obtain ⟨z, hz, rfl⟩ := List.mem_map.mp hy
      have : (flipO z).f2 = z.f2 := by
       unfold flipO
       split
       ·rfl
       ·split <;> rfl
      rw [this]; exact hp.2 z hz
  obtain ⟨c, c1, c2, c3, c4⟩ := then_back rp
  have e4 := pthen_ev hp hf
  have lc := (thenL_len hp hf).1
  have sc := hp.then hf (by omega)
  rw [c1] at e4 lc sc
  have e5 := refNorm_ev hp.sm
  rw [rp, if_pos rfl] at e5
  have e6 := refidle_ev sc.sm (by omega)
  rw [idle_iff c2, c3, c4] at e6
  simp only [decide_true] at e6
  have cc := capd_right c2
  have cp := capd_right rp
  have e7 := refolds_ev sc.sm
  have e8 := refolds_ev hp.sm
  have e9 := refnews_ev sc.sm
  rw [cc.1, c3, ← cp.1] at e7
  rw [cc.2.1, c4, ← cp.1] at e9
  refine Ev.step (fun k => rfl) ?_
  simp only [patchworklaw11_ComposeNone.j0, Bool.false_eq_true, if_false]
  refine Ev.bind' e1 ?_
  refine Ev.bind' e2 ?_
  refine Ev.bind' e3 ?_
  refine Ev.bind' e4 ?_
  refine Ev.bind' e5 ?_
  simp only [if_true]
  refine Ev.bind' (same_ev _ _ (by omega)) ?_
  simp only [decide_true, if_true]
  refine Ev.bind' (same_ev _ _ (by omega)) ?_
  simp only [decide_true, if_true]
  refine Ev.bind' e6 ?_
  simp only [if_true]
  refine Ev.bind' e7 ?_
  refine Ev.bind' e8 ?_
  simp only [if_true]
  refine Ev.bind' e9 ?_
  refine Ev.bind' e8 ?_
  simp only [beq_self_eq_true]
  exact Ev.now true
 ·simp only [h, decide_false, Bool.false_eq_true, if_false]
  exact ComposeNone.out p
end Go.Proofs.Ytkiklmmpflndbaa.P
namespace Go.Proofs.Ytkiklmmpflndbaa.P.composeNone
open Go.ChangeShapes Go.WideShapes Go.ChangeAt Go.RowKit Go.Proofs.Ytkiklmmpflndbaa.P Go.Proofs.YtkiklmmpflndbaaW.PrintWords
open Go.ChangeMaps (open_string shut_string)
theorem own : ownKnob Try.prog.godebug = none := by kernel_rfl
theorem laidOut : laidOutB Try.prog = true := by kernel_rfl
theorem opens0 : Opens Try.prog 38 kOp okOp wtOp := (opens_struct3 (d0 := (Kd.int .i64)) (d1 := (Kd.int .i64)) (d2 := Kd.string) Try.underlying38 (by kernel_rfl) rfl rfl rfl rfl rfl rfl (opens_int Try.underlying3 (by kernel_rfl)) (opens_int Try.underlying3 (by kernel_rfl)) (opens_string Try.underlying9 (by kernel_rfl)) (fun x : Op => (x.f0, x.f1, x.f2)) (fun a b c => ⟨a, b, c⟩) (fun _ _ _ => rfl))
set_option maxRecDepth 100000 in
theorem contract (H : Type) (enc : TypeId × Value → H) (W : World) (base : Nat) (args : Array Value) (ds gs : List (DataW H)) (before : List MemPlace)
  (hval : ∀ (j : Nat) t v, Try.f6.params[j]? = some t → args[j]? = some v → Value.okWide Try.prog W .any base t v)
  (hW : DataW.Whole enc Try.prog Try.f6.params.toList Rows.composeNoneSpec.vars false W args.toList ds gs before) (hk : Rows.uptoSmall H (ds ++ gs) = true) :
  Calls Try.prog 6 args W fun e W' => ∃ v, e = .returned v ∧ Rows.composeNoneSpec.post enc Try.prog Try.f6 false true false false W args v W' := by
 have hW' := hW
 obtain ⟨p, q, hA0, hV, rfl, hfz, hnd⟩ := hW
 have hA : DataW.TrodAll enc Try.prog W 0 (fun _ => true) true Try.f6.params.toList args.toList ds p := hA0
 rw [Try.params6] at hA hval
 obtain ⟨v0, vs0, d0, ds0, p0, q0, hargs, rfl, rfl, h0, r0⟩ := trodAll_cons hA
 obtain ⟨rfl, rfl, rfl⟩ := trodAll_nil r0
 obtain rfl : args = #[v0] := by cases args; simp_all
 obtain ⟨rfl, rfl⟩ := trodVars_none hV
 have hb := small_all hk
 simp only [List.append_nil, Rows.uptoBulkAll] at hb
 obtain ⟨A0, len0, c0, rfl⟩ := okWide_slice Try.underlying22 (hval 0 22 v0 rfl rfl)
 have k0 := h0
 have lt0 : ∀ x ∈ p0, x.block < W.heap.size := by obtain ⟨m, hm⟩ := k0; exact DataW.trod_lt m _ _ _ hm
 obtain ⟨fuel0, hf0⟩ := h0
 obtain ⟨A0', c0', l0, hcs0, hc0, hr0, ok0, wt0⟩ := open_row Try.underlying22 opens0 hf0
 simp only [Value.cells, List.cons.injEq, Value.slice.injEq, and_true] at hcs0
 obtain ⟨rfl, rfl, rfl⟩ := hcs0
 clear hA0 hval
 obtain ⟨k, hp⟩ := ComposeNone.proved l0 ok0 (by simp only [] at *; omega)
 refine (patchworklaw11_ComposeNone.calls k _ _ l0 true W hr0 hc0 hp).mono fun e W' ⟨he, bel0⟩ => ?_
 have bel : Below W.heap.size W W' := bel0
 subst he
 exact ⟨_, rfl, _, _, _, [], _, [], hW', trodAll_mk1 (shut_bool Try.underlying4 _), (trodAll_cons_mk (Below.trod laidOut (by kernel_rfl) (of_decide_eq_true (by kernel_rfl)) k0 bel lt0) trodAll_mk0), rfl, bel.frame _, fun h => by cases h⟩
set_option maxRecDepth 100000 in
theorem lifted (os : Os) (started : os.Started) (H : Type) (enc : TypeId × Value → H) (F : Stop.Interp) :
  ReturnsInHanded {} Try.checked os 6 .any ((Rows.OpenSpec.upto Rows.composeNoneSpec).pre6 enc Try.prog Try.f6 Rows.composeNoneUptoRow.domain false) (((Rows.OpenSpec.upto Rows.composeNoneSpec).at F).post enc Try.prog Try.f6 false true false false) := by
 refine returnsInHanded_of_cond (C := Try.checked) (s := Rows.OpenSpec.upto Rows.composeNoneSpec) (k := Rows.uptoSmall) rfl own started (by kernel_rfl) Try.func6
  (OpenSpec.witness (enc := enc) (C := Try.checked) (s := Rows.OpenSpec.upto Rows.composeNoneSpec) (k := Rows.uptoSmall) rfl false ⟨#[], #[.slice none 0 0], []⟩ 8 (by kernel_rfl) (by kernel_rfl) (by kernel_rfl)
   (x := ([.nil], [], [])) (by kernel_rfl) rfl (by kernel_rfl)) ?_
 intro W base args ds gs before hval hW _ hk _
 exact contract H enc W base args ds gs before hval hW hk
theorem over : Rows.composeNoneUptoRow.holds Try.pinned (Rows.OpenSpec.upto Rows.composeNoneSpec) :=
 OpenClaim.holds_of_cond 6 Try.f6 rfl rfl rfl rfl rfl rfl rfl ⟨rfl, rfl, rfl, rfl, rfl⟩ rfl rfl rfl rfl rfl (by kernel_rfl) Try.func6 (by kernel_rfl)
  (of_decide_eq_true (by kernel_rfl)) (by unfold Func.isWrapper; first | (rw [if_pos (by decide +kernel)]; kernel_rfl) | (rw [if_neg (by decide +kernel)]; exact ⟨rfl, rfl⟩))
  (fun os started H enc _ F => lifted os started H enc F)
theorem proved : Rows.ComposeNoneUptoSaid := over
end Go.Proofs.Ytkiklmmpflndbaa.P.composeNone
namespace Go.Proofs.Ytkiklmmpflndbaa
theorem composeNone_holds : Rows.ComposeNoneUptoSaid := P.composeNone.proved
#print axioms composeNone_holds
end Go.Proofs.Ytkiklmmpflndbaa
