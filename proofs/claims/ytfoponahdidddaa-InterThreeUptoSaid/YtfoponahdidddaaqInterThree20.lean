/- The law InterThree answers true, for all arguments that hold together at most 1048576 values and letters, and leaves them as they were. -/
import Derived.Test.YtfoponahdidddaaqInterThree19
import Derived.Test.YtfoponahdidddaaqInterThree3
import Derived.Test.YtfoponahdidddaaqInterThree7
import Derived.Test.YtfoponahdidddaaqInterThree5
import Derived.WalkKit
import Derived.ProofKit
import Derived.OpenShut
import Derived.ShutString
import Derived.ChangeOld
import Derived.Below
import Derived.SizedLaws
import Derived.JoinedCond
set_option linter.unusedVariables false
set_option linter.unusedSimpArgs false
namespace Go.Proofs.Ytfoponahdidddaa.P
open Go.RowKit Go.Proofs.YtfoponahdidddaaW.PrintWords Go.Proofs.YtfoponahdidddaaW.PrintLast Go.Proofs.YtfoponahdidddaaW.PrintMore
def InterThree.Pure : Prop := ∀ (l0 : List (Op)) (l1 : List (Op)) (l2 : List (Op)) (l3 : List ByteArray), ((fun xs => ∀ y ∈ xs, okOp y) l0) → ((fun xs => ∀ y ∈ xs, okOp y) l1) → ((fun xs => ∀ y ∈ xs, okOp y) l2) → ((fun xs => ∀ y ∈ xs, (fun _ => True) y) l3) → (fun xs => (xs.map wtOp).sum + 1) l0 + (fun xs => (xs.map wtOp).sum + 1) l1 + (fun xs => (xs.map wtOp).sum + 1) l2 + (fun xs => (xs.map (fun s => s.size + 1)).sum + 1) l3 ≤ 1048576 → ∃ k, patchworklaw14_InterThree.f k l0 l1 l2 l3 = some true
end Go.Proofs.Ytfoponahdidddaa.P
namespace Go.Proofs.Ytfoponahdidddaa.P
open Go.RowKit Go.Proofs.YtfoponahdidddaaW.PrintWords Go.Proofs.YtfoponahdidddaaW.PrintLast Go.Proofs.YtfoponahdidddaaW.PrintMore
theorem InterThree.out (a b c : List Op) (d : List ByteArray) : Ev (fun k => patchworklaw14_InterThree.j0 k a b c d true true) true := by
 refine Ev.step (fun k => rfl) ?_
 simp only [patchworklaw14_InterThree.j0, if_true]
 exact Ev.now true
theorem InterThree.out1 (a b c : List Op) (d e : List ByteArray) : Ev (fun k => patchworklaw14_InterThree.j1 k a b c d e true) true := by
 refine Ev.step (fun k => rfl) ?_
 simp only [patchworklaw14_InterThree.j1, if_true]
 exact Ev.now true
theorem do_len {l : List Op} {ls : List ByteArray} (h : (doL l ls).2 = true) : (doL l ls).1.length ≤ ls.length + l.length := by
 obtain ⟨r, _, _, d3, _, e⟩ := doL_true h
 rw [e]
 have := doU_len _ _ _ d3
 have := insN_ex l
 show r.length ≤ _
 omega
theorem InterThree.proved : InterThree.Pure := by
 intro p q r ls _ _ _ _ hw
 simp only at hw
 have fp := fewN_le p
 have fq := fewN_le q
 have fr := fewN_le r
 have lp := fewN_len p
 have lq := fewN_len q
 have lr := fewN_len r
 have w1 := wt_len ls
 have t1 := textSum_le ls
 have hls : SmT ls := SmT.of_wt (by omega)
 obtain ⟨b1, e1, _⟩ := short_ev ls (by omega)
 refine Ev.rounds ?_
 simp only [patchworklaw14_InterThree.f]
 refine Ev.bind' alive14 ?_
 simp only [if_true]
 refine Ev.bind' (few_ev (by omega)) ?_
 by_cases h : fewN p ≤ 600
 ·simp only [h, decide_true, if_true]
  refine Ev.bind' (few_ev (by omega)) ?_
  by_cases h2 : fewN q ≤ 600
  ·simp only [h2, decide_true, if_true]
   refine Ev.bind' (few_ev (by omega)) ?_
   by_cases h3 : fewN r ≤ 600
   ·simp only [h3, decide_true, if_true]
    refine Ev.bind' e1 ?_
    cases b1
    ·exact InterThree.out p q r ls
    simp only [Bool.not_true]
    have hp := Sx.of_few h
    have hq := Sx.of_few h2
    have hr := Sx.of_few h3
    have sa : SmT (doL p ls).1 := doL_SmT (by omega) hp.sm (by omega) hls
    have sc : SmT (doL r ls).1 := doL_SmT (by omega) hr.sm (by omega) hls
    refine Ev.step (fun k => rfl) ?_
    simp only [patchworklaw14_InterThree.j0, Bool.false_eq_true, if_false]
    refine Ev.bind' (refdo_ev hp.sm hls) ?_
    refine Ev.bind' (refdo_ev hq.sm hls) ?_
    refine Ev.bind' (refdo_ev hr.sm hls) ?_
    cases d1 : (doL p ls).2
    ·simp only [Bool.false_eq_true, if_false]
     exact InterThree.out1 ..
    simp only [if_true]
    cases d2 : (doL q ls).2
    ·simp only [Bool.false_eq_true, if_false]
     exact InterThree.out1 ..
    simp only [if_true]
    cases d3 : (doL r ls).2
    ·exact InterThree.out1 ..
    simp only [Bool.not_true]
    have la := do_len d1
    have lb := do_len d2
    have lc := do_len d3
    obtain ⟨k1, k2⟩ := inter_leads hp (by omega) (by omega) (by omega) d1 d2
    obtain ⟨k3, k4⟩ := inter_leads hq (by omega) (by omega) (by omega) d2 d3
    obtain ⟨k5, k6⟩ := inter_leads hp (by omega) (by omega) (by omega) d1 d3
    obtain ⟨n1, s1⟩ := inter_len hp hq (by omega)
    obtain ⟨n2, s2⟩ := inter_len hq hr (by omega)
    obtain ⟨n3, s3⟩ := inter_len hp hr (by omega)
    have d4 : (doL (interL p q).1 (doL p ls).1).2 = true := by rw [k2]
    have d5 : (doL (interL q r).1 (doL (interL p q).1 (doL p ls).1).1).2 = true := by rw [k2]; show (doL (interL q r).1 (doL q ls).1).2 = true; rw [k4]
    obtain ⟨m1, m2⟩ := then_do (p := (interL p q).1) (q := (interL q r).1) (ls := (doL p ls).1) (by omega) (by omega) (by omega) d4 d5
    rw [k2] at m2
    have m2 : doL (thenL (interL p q).1 (interL q r).1).1 (doL p ls).1 = ((doL (interL q r).1 (doL q ls).1).1, true) := m2
    rw [k4] at m2
    have st := s1.then s2 (by omega)
    have lcs' : (doL r ls).1.length < 4611686018427387904 := by omega
    refine Ev.step (fun k => rfl) ?_
    simp only [patchworklaw14_InterThree.j1, Bool.false_eq_true, if_false]
    refine Ev.bind' (pinter_ev hp hq (by omega)) ?_
    refine Ev.bind' (pinter_ev hq hr (by omega)) ?_
    refine Ev.bind' (pinter_ev hp hr (by omega)) ?_
    refine Ev.bind' (refthen_ev s1 s2) ?_
    refine Ev.bind' (refdo_ev st.sm sa) ?_
    refine Ev.bind' (refdo_ev s3.sm sa) ?_
    rw [m2, k6]
    simp only [k1, k3, k5, m1, if_true]
    refine Ev.bind' (texts_ev _ _ lcs') ?_
    simp only [decide_true, if_true]
    refine Ev.bind' (texts_ev _ _ lcs') ?_
    simp only [decide_true]
    exact Ev.now true
   ·simp only [h3, decide_false, Bool.false_eq_true, if_false]
    exact InterThree.out p q r ls
  ·simp only [h2, decide_false, Bool.false_eq_true, if_false]
   exact InterThree.out p q r ls
 ·simp only [h, decide_false, Bool.false_eq_true, if_false]
  exact InterThree.out p q r ls
end Go.Proofs.Ytfoponahdidddaa.P
namespace Go.Proofs.Ytfoponahdidddaa.P.interThree
open Go.ChangeShapes Go.WideShapes Go.ChangeAt Go.RowKit Go.Proofs.Ytfoponahdidddaa.P Go.Proofs.YtfoponahdidddaaW.PrintWords
open Go.ChangeMaps (open_string shut_string)
theorem own : ownKnob Try.prog.godebug = none := by kernel_rfl
theorem laidOut : laidOutB Try.prog = true := by kernel_rfl
theorem opens0 : Opens Try.prog 41 kOp okOp wtOp := (opens_struct3 (d0 := (Kd.int .i64)) (d1 := (Kd.int .i64)) (d2 := Kd.string) Try.underlying41 (by kernel_rfl) rfl rfl rfl rfl rfl rfl (opens_int Try.underlying3 (by kernel_rfl)) (opens_int Try.underlying3 (by kernel_rfl)) (opens_string Try.underlying9 (by kernel_rfl)) (fun x : Op => (x.f0, x.f1, x.f2)) (fun a b c => ⟨a, b, c⟩) (fun _ _ _ => rfl))
theorem opens1 : Opens Try.prog 41 kOp okOp wtOp := (opens_struct3 (d0 := (Kd.int .i64)) (d1 := (Kd.int .i64)) (d2 := Kd.string) Try.underlying41 (by kernel_rfl) rfl rfl rfl rfl rfl rfl (opens_int Try.underlying3 (by kernel_rfl)) (opens_int Try.underlying3 (by kernel_rfl)) (opens_string Try.underlying9 (by kernel_rfl)) (fun x : Op => (x.f0, x.f1, x.f2)) (fun a b c => ⟨a, b, c⟩) (fun _ _ _ => rfl))
theorem opens2 : Opens Try.prog 41 kOp okOp wtOp := (opens_struct3 (d0 := (Kd.int .i64)) (d1 := (Kd.int .i64)) (d2 := Kd.string) Try.underlying41 (by kernel_rfl) rfl rfl rfl rfl rfl rfl (opens_int Try.underlying3 (by kernel_rfl)) (opens_int Try.underlying3 (by kernel_rfl)) (opens_string Try.underlying9 (by kernel_rfl)) (fun x : Op => (x.f0, x.f1, x.f2)) (fun a b c => ⟨a, b, c⟩) (fun _ _ _ => rfl))
theorem opens3 : Opens Try.prog 9 Kd.string (fun _ => True) (fun s => s.size + 1) := (opens_string Try.underlying9 (by kernel_rfl))
set_option maxRecDepth 100000 in
theorem contract (H : Type) (enc : TypeId × Value → H) (W : World) (base : Nat) (args : Array Value) (ds gs : List (DataW H)) (before : List MemPlace)
  (hval : ∀ (j : Nat) t v, Try.f12.params[j]? = some t → args[j]? = some v → Value.okWide Try.prog W .any base t v)
  (hW : DataW.Whole enc Try.prog Try.f12.params.toList Rows.interThreeSpec.vars false W args.toList ds gs before) (hk : Rows.uptoSmall H (ds ++ gs) = true) :
  Calls Try.prog 12 args W fun e W' => ∃ v, e = .returned v ∧ Rows.interThreeSpec.post enc Try.prog Try.f12 false true false false W args v W' := by
 have hW' := hW
 obtain ⟨p, q, hA0, hV, rfl, hfz, hnd⟩ := hW
 have hA : DataW.TrodAll enc Try.prog W 0 (fun _ => true) true Try.f12.params.toList args.toList ds p := hA0
 rw [Try.params12] at hA hval
 obtain ⟨v0, vs0, d0, ds0, p0, q0, hargs, rfl, rfl, h0, r0⟩ := trodAll_cons hA
 obtain ⟨v1, vs1, d1, ds1, p1, q1, rfl, rfl, rfl, h1, r1⟩ := trodAll_cons r0
 obtain ⟨v2, vs2, d2, ds2, p2, q2, rfl, rfl, rfl, h2, r2⟩ := trodAll_cons r1
 obtain ⟨v3, vs3, d3, ds3, p3, q3, rfl, rfl, rfl, h3, r3⟩ := trodAll_cons r2
 obtain ⟨rfl, rfl, rfl⟩ := trodAll_nil r3
 obtain rfl : args = #[v0, v1, v2, v3] := by cases args; simp_all
 obtain ⟨rfl, rfl⟩ := trodVars_none hV
 have hb := small_all hk
 simp only [List.append_nil, Rows.uptoBulkAll] at hb
 obtain ⟨A0, len0, c0, rfl⟩ := okWide_slice Try.underlying22 (hval 0 22 v0 rfl rfl)
 have k0 := h0
 have lt0 : ∀ x ∈ p0, x.block < W.heap.size := by obtain ⟨m, hm⟩ := k0; exact DataW.trod_lt m _ _ _ hm
 obtain ⟨fuel0, hf0⟩ := h0
 obtain ⟨A0', c0', l0, hcs0, hc0, hr0, ok0, wt0⟩ := open_row Try.underlying22 opens0 hf0
 simp only [Value.cells, List.cons.injEq, Value.slice.injEq, and_true] at hcs0
 obtain ⟨rfl, rfl, rfl⟩ := hcs0
 obtain ⟨A1, len1, c1, rfl⟩ := okWide_slice Try.underlying22 (hval 1 22 v1 rfl rfl)
 have k1 := h1
 have lt1 : ∀ x ∈ p1, x.block < W.heap.size := by obtain ⟨m, hm⟩ := k1; exact DataW.trod_lt m _ _ _ hm
 obtain ⟨fuel1, hf1⟩ := h1
 obtain ⟨A1', c1', l1, hcs1, hc1, hr1, ok1, wt1⟩ := open_row Try.underlying22 opens1 hf1
 simp only [Value.cells, List.cons.injEq, Value.slice.injEq, and_true] at hcs1
 obtain ⟨rfl, rfl, rfl⟩ := hcs1
 obtain ⟨A2, len2, c2, rfl⟩ := okWide_slice Try.underlying22 (hval 2 22 v2 rfl rfl)
 have k2 := h2
 have lt2 : ∀ x ∈ p2, x.block < W.heap.size := by obtain ⟨m, hm⟩ := k2; exact DataW.trod_lt m _ _ _ hm
 obtain ⟨fuel2, hf2⟩ := h2
 obtain ⟨A2', c2', l2, hcs2, hc2, hr2, ok2, wt2⟩ := open_row Try.underlying22 opens2 hf2
 simp only [Value.cells, List.cons.injEq, Value.slice.injEq, and_true] at hcs2
 obtain ⟨rfl, rfl, rfl⟩ := hcs2
 obtain ⟨A3, len3, c3, rfl⟩ := okWide_slice Try.underlying32 (hval 3 32 v3 rfl rfl)
 have k3 := h3
 have lt3 : ∀ x ∈ p3, x.block < W.heap.size := by obtain ⟨m, hm⟩ := k3; exact DataW.trod_lt m _ _ _ hm
 obtain ⟨fuel3, hf3⟩ := h3
 obtain ⟨A3', c3', l3, hcs3, hc3, hr3, ok3, wt3⟩ := open_row Try.underlying32 opens3 hf3
 simp only [Value.cells, List.cons.injEq, Value.slice.injEq, and_true] at hcs3
 obtain ⟨rfl, rfl, rfl⟩ := hcs3
 clear hA0 hval
 obtain ⟨k, hp⟩ := InterThree.proved l0 l1 l2 l3 ok0 ok1 ok2 ok3 (by simp only [] at *; omega)
 refine (patchworklaw14_InterThree.calls k _ _ l0 _ _ l1 _ _ l2 _ _ l3 true W hr0 hc0 hr1 hc1 hr2 hc2 hr3 hc3 hp).mono fun e W' ⟨he, bel0⟩ => ?_
 have bel : Below W.heap.size W W' := bel0
 subst he
 exact ⟨_, rfl, _, _, _, [], _, [], hW', trodAll_mk1 (shut_bool Try.underlying4 _), (trodAll_cons_mk (Below.trod laidOut (by kernel_rfl) (of_decide_eq_true (by kernel_rfl)) k0 bel lt0) (trodAll_cons_mk (Below.trod laidOut (by kernel_rfl) (of_decide_eq_true (by kernel_rfl)) k1 bel lt1) (trodAll_cons_mk (Below.trod laidOut (by kernel_rfl) (of_decide_eq_true (by kernel_rfl)) k2 bel lt2) (trodAll_cons_mk (Below.trod laidOut (by kernel_rfl) (of_decide_eq_true (by kernel_rfl)) k3 bel lt3) trodAll_mk0)))), rfl, bel.frame _, fun h => by cases h⟩
set_option maxRecDepth 100000 in
theorem lifted (os : Os) (started : os.Started) (H : Type) (enc : TypeId × Value → H) (F : Stop.Interp) :
  ReturnsInHanded {} Try.checked os 12 .any ((Rows.OpenSpec.upto Rows.interThreeSpec).pre6 enc Try.prog Try.f12 Rows.interThreeUptoRow.domain false) (((Rows.OpenSpec.upto Rows.interThreeSpec).at F).post enc Try.prog Try.f12 false true false false) := by
 refine returnsInHanded_of_cond (C := Try.checked) (s := Rows.OpenSpec.upto Rows.interThreeSpec) (k := Rows.uptoSmall) rfl own started (by kernel_rfl) Try.func12
  (OpenSpec.witness (enc := enc) (C := Try.checked) (s := Rows.OpenSpec.upto Rows.interThreeSpec) (k := Rows.uptoSmall) rfl false ⟨#[], #[.slice none 0 0, .slice none 0 0, .slice none 0 0, .slice none 0 0], []⟩ 8 (by kernel_rfl) (by kernel_rfl) (by kernel_rfl)
   (x := ([.nil, .nil, .nil, .nil], [], [])) (by kernel_rfl) rfl (by kernel_rfl)) ?_
 intro W base args ds gs before hval hW _ hk _
 exact contract H enc W base args ds gs before hval hW hk
theorem over : Rows.interThreeUptoRow.holds Try.pinned (Rows.OpenSpec.upto Rows.interThreeSpec) :=
 OpenClaim.holds_of_cond 12 Try.f12 rfl rfl rfl rfl rfl rfl rfl ⟨rfl, rfl, rfl, rfl, rfl⟩ rfl rfl rfl rfl rfl (by kernel_rfl) Try.func12 (by kernel_rfl)
  (of_decide_eq_true (by kernel_rfl)) (by unfold Func.isWrapper; first | (rw [if_pos (by decide +kernel)]; kernel_rfl) | (rw [if_neg (by decide +kernel)]; exact ⟨rfl, rfl⟩))
  (fun os started H enc _ F => lifted os started H enc F)
theorem proved : Rows.InterThreeUptoSaid := over
end Go.Proofs.Ytfoponahdidddaa.P.interThree
namespace Go.Proofs.Ytfoponahdidddaa
theorem interThree_holds : Rows.InterThreeUptoSaid := P.interThree.proved
#print axioms interThree_holds
end Go.Proofs.Ytfoponahdidddaa
