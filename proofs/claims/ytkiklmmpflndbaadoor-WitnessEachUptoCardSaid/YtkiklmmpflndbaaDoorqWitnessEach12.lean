/- The law WitnessEach answers true, for all arguments that hold together at most 1048576 values and letters, and leaves them as they were. -/
import Derived.Test.YtkiklmmpflndbaaDoorqWitnessEach11
import Derived.Test.YtkiklmmpflndbaaDoorqWitnessEach3
import Derived.Test.YtkiklmmpflndbaaDoorqWitnessEach7
import Derived.Test.YtkiklmmpflndbaaDoorCards
import Derived.Test.YtkiklmmpflndbaaDoorTie
import Derived.Deep.DeepHandedRow
import Derived.Lib.LaidTab
import Derived.LaidSub
import Derived.LaidLaws
import Derived.WalkKit
import Derived.ProofKit
import Derived.OpenShut
import Derived.ShutString
import Derived.ChangeOld
import Derived.Below
import Derived.SizedLaws
import Derived.JoinedCond
set_option linter.unusedVariables false
set_option linter.unusedSimpArgs false
namespace Go.Proofs.YtkiklmmpflndbaaDoor.P
open Go.RowKit Go.Proofs.YtkiklmmpflndbaaDoorW.PrintWords Go.Proofs.YtkiklmmpflndbaaDoorW.PrintLast Go.Proofs.YtkiklmmpflndbaaDoorW.PrintMore
def WitnessEach.Pure : Prop := ∀ (a0 : Int) (a1 : Int) (a2 : ByteArray), ((fun n => (Lit.int .i64 n).wf = true) a0) → ((fun n => (Lit.int .i64 n).wf = true) a1) → (fun _ => 1) a0 + (fun _ => 1) a1 + (fun s => s.size + 1) a2 ≤ 1048576 → ∃ k, patchworklaw18_WitnessEach.f k a0 a1 a2 = some true
end Go.Proofs.YtkiklmmpflndbaaDoor.P
namespace Go.Proofs.YtkiklmmpflndbaaDoor.P
open Go.RowKit Go.Proofs.YtkiklmmpflndbaaDoorW.PrintWords Go.Proofs.YtkiklmmpflndbaaDoorW.PrintLast Go.Proofs.YtkiklmmpflndbaaDoorW.PrintMore
theorem WitnessEach.out (a b : Int) (t : ByteArray) : Ev (fun k => patchworklaw18_WitnessEach.j0 k a b t true true) true := by
 refine Ev.step (fun k => rfl) ?_
 simp only [patchworklaw18_WitnessEach.j0, if_true]
 exact Ev.now true
def newB : ByteArray := ⟨#[110, 101, 119, 10]⟩
def otherB : ByteArray := ⟨#[111, 116, 104, 101, 114, 10]⟩
def eachO (a b : Nat) (t : ByteArray) : List Op := [⟨1, (a : Int), ⟨#[]⟩⟩, ⟨2, 0, t⟩, ⟨4, 0, newB⟩, ⟨1, (b : Int), ⟨#[]⟩⟩]
theorem each_ex (a b : Nat) (t : ByteArray) : ex (eachO a b t) = List.replicate a .skip ++ (.keep t :: .ins newB :: List.replicate b .skip) := by
 simp [eachO, ex, exO]
theorem each_form {a b : Nat} (ha : 1 ≤ a) (hb : 1 ≤ b) (t : ByteArray) : ∀ o ∈ eachO a b t, formO o := by
 intro o ho
 simp only [eachO, List.mem_cons, List.not_mem_nil, or_false] at ho
 rcases ho with rfl | rfl | rfl | rfl
 ·exact .inl ⟨rfl, by show (1 : Int) ≤ (a : Int); omega, rfl⟩
 ·exact .inr ⟨.inl rfl, rfl⟩
 ·exact .inr ⟨.inr (.inr rfl), rfl⟩
 ·exact .inl ⟨rfl, by show (1 : Int) ≤ (b : Int); omega, rfl⟩
theorem textS_nones (n : Nat) (s : List (Option ByteArray)) : textS (List.replicate n none ++ s) = textS s := by
 induction n with
 | zero => rfl
 | succ n ih => rw [List.replicate_succ, List.cons_append]; exact ih
theorem newB_right : rightT newB = true ∧ openT newB = false := by decide +kernel
theorem each_right {a b : Nat} (ha : 1 ≤ a) (hb : 1 ≤ b) (ha2 : a ≤ 50) (hb2 : b ≤ 50) {t : ByteArray} (h1 : rightT t = true) (h2 : openT t = false) : rightL (eachO a b t) = true := by
 rw [right_iff (each_form ha hb t), each_ex]
 obtain ⟨n1, n2⟩ := newB_right
 have c0 : ∀ n, closedS false (List.replicate n none) = true := fun n => by have := closedS_none n []; rw [List.append_nil] at this; rw [this]; rfl
 have t0 : ∀ n, textS (List.replicate n none) = true := fun n => by have := textS_nones n []; rw [List.append_nil] at this; rw [this]; rfl
 have eo : olds (List.replicate a U.skip ++ (.keep t :: .ins newB :: List.replicate b .skip)) = List.replicate a none ++ (some t :: List.replicate b none) := by
  rw [olds_app, olds_skips, olds, olds, olds_skips]
 have en : news (List.replicate a U.skip ++ (.keep t :: .ins newB :: List.replicate b .skip)) = List.replicate a none ++ (some t :: some newB :: List.replicate b none) := by
  rw [news_app, news_skips, news, news, news_skips]
 have x1 : okS (List.replicate a none ++ (some t :: List.replicate b none)) = true := by
  have k1 : textS (List.replicate a none ++ (some t :: List.replicate b none)) = true := by
   rw [textS_nones]
   have := t0 b
   simp only [textS, List.all_cons, h1, Bool.true_and] at this ⊢; exact this
  have k2 : closedS false (List.replicate a none ++ (some t :: List.replicate b none)) = true := by
   rw [closedS_none, closedS, h2]; exact c0 b
  have k3 : (List.replicate a none ++ (some t :: List.replicate b none)).length ≤ 2147483648 := by simp; omega
  unfold okS
  rw [k1, k2, decide_eq_true k3]; rfl
 have x2 : okS (List.replicate a none ++ (some t :: some newB :: List.replicate b none)) = true := by
  have k1 : textS (List.replicate a none ++ (some t :: some newB :: List.replicate b none)) = true := by
   rw [textS_nones]
   have := t0 b
   simp only [textS, List.all_cons, h1, n1, Bool.true_and] at this ⊢; exact this
  have k2 : closedS false (List.replicate a none ++ (some t :: some newB :: List.replicate b none)) = true := by
   rw [closedS_none, closedS, h2, closedS, n2]; exact c0 b
  have k3 : (List.replicate a none ++ (some t :: some newB :: List.replicate b none)).length ≤ 2147483648 := by simp; omega
  unfold okS
  rw [k1, k2, decide_eq_true k3]; rfl
 unfold rightU
 rw [eo, en, x1, x2]; rfl
theorem each_wit {a b : Nat} (ha : 1 ≤ a) (hb : 1 ≤ b) (ha2 : a ≤ 50) (hb2 : b ≤ 50) {t : ByteArray} (h1 : rightT t = true) (h2 : openT t = false) :
  witL (eachO a b t) = witU 0 (List.replicate a .skip) ++ (t :: witU (a + 1) (List.replicate b .skip)) := by
 have hr := each_right ha hb ha2 hb2 h1 h2
 have el : (olds (ex (eachO a b t))).length = a + 1 + b := by
  rw [each_ex, olds_app, olds_skips, olds, olds, olds_skips]; simp; omega
 have hc : capd 3 (eachO a b t) ≤ 5000 := by rw [(capd_right hr).1, el]; omega
 unfold witL
 rw [if_pos ⟨hr, hc⟩, each_ex, wit_app, olds_skips, List.length_replicate, Nat.zero_add, witU, witU]
theorem skips_len (m n : Nat) : (witU n (List.replicate m .skip)).length = m := by rw [wit_len, olds_skips, List.length_replicate]
theorem WitnessEach.skips {a : Nat} {t : ByteArray} (W : List ByteArray) (hW : W.length ≤ 5000) (r : Bool) : ∀ (m : Nat) (p s : List ByteArray), W = p ++ (witU p.length (List.replicate m .skip) ++ s) → (p.length + m ≤ a ∨ a < p.length) →
  Ev (fun k => patchworklaw18_WitnessEach.l0 k (a : Int) t W ((p.length + m : Nat) : Int)) r → Ev (fun k => patchworklaw18_WitnessEach.l0 k (a : Int) t W (p.length : Int)) r
 | 0, p, s, _, _, h => h
 | m + 1, p, s, e, ha, h => by
  rw [List.replicate_succ, witU, List.cons_append] at e
  have hp : p.length < W.length := by rw [e]; simp
  obtain ⟨s1, s2, _⟩ := line_size p.length
  have c1 : (p.length : Int) < (W.length : Int) := by omega
  have c2 : ¬ (p.length : Int) = (a : Int) := by omega
  have c3 : (0 : Int) ≤ (p.length : Int) := by omega
  have rd : rdOf ByteArray.empty W (p.length : Int) = lineN p.length := by rw [e]; exact rdOf_mid ..
  have w : wrap64 ((p.length : Int) + 1) = ((p ++ [lineN p.length]).length : Int) := wrap_len p _ (by omega)
  have len : (p ++ [lineN p.length]).length = p.length + 1 := by simp
  have i := WitnessEach.skips (a := a) (t := t) W hW r m (p ++ [lineN p.length]) s (by rw [len, e]; simp) (by rw [len]; omega) (by rw [len, show p.length + 1 + m = p.length + (m + 1) from by omega]; exact h)
  refine Ev.step (fun k => rfl) ?_
  simp only [patchworklaw18_WitnessEach.l0, if_pos c1]
  refine Ev.bind' (num_ev 4 p.length (by omega) (by omega)) ?_
  simp only [if_pos s1, if_pos s2, if_neg c2, if_pos c3, rd, w]
  have rr : (lineN p.length).toList = (((⟨#[63]⟩ : ByteArray) ++ numF 4 p.length) ++ (⟨#[10]⟩ : ByteArray)).toList := rfl
  simp only [if_pos rr]
  exact i
def pairP : List Op := [⟨4, 0, newB⟩, ⟨1, 1, ⟨#[]⟩⟩]
def pairQ (t : ByteArray) : List Op := [⟨2, 0, newB⟩, ⟨1, 1, ⟨#[]⟩⟩, ⟨3, 0, t⟩]
theorem pairQ_right {t : ByteArray} (h1 : rightT t = true) : rightL (pairQ t) = true := by
 obtain ⟨n1, n2⟩ := newB_right
 have hf : ∀ o ∈ pairQ t, formO o := by
  intro o ho
  simp only [pairQ, List.mem_cons, List.not_mem_nil, or_false] at ho
  rcases ho with rfl | rfl | rfl
  ·exact .inr ⟨.inl rfl, rfl⟩
  ·exact .inl ⟨rfl, by show (1 : Int) ≤ 1; omega, rfl⟩
  ·exact .inr ⟨.inr (.inl rfl), rfl⟩
 have e : ex (pairQ t) = [.keep newB, .skip, .del t] := by simp [pairQ, ex, exO]
 rw [right_iff hf, e]
 simp [rightU, okS, olds, news, textS, closedS, h1, n1, n2]
theorem pair_then {t : ByteArray} (h1 : rightT t = true) : thenL pairP (pairQ t) = (pack [.ins newB, .skip, .del t], true) := by
 obtain ⟨n1, n2⟩ := newB_right
 have e1 : ex pairP = [.ins newB, .skip] := by simp [pairP, ex, exO]
 have e2 : ex (pairQ t) = [.keep newB, .skip, .del t] := by simp [pairQ, ex, exO]
 have c : cmpU (ex pairP) false (ex (pairQ t)) = some [.ins newB, .skip, .del t] := by
  rw [e1, e2]
  simp [cmpU, cmpT, inner, endQ, midT, opM, opnX, txU, n2, un]
 have ru : rightU [.ins newB, .skip, .del t] = true := by simp [rightU, okS, olds, news, textS, closedS, h1, n1, n2]
 have rp : rightL pairP = true := by decide +kernel
 rw [thenL_of rp (pairQ_right h1) c ru]
 simp [nf]
theorem pair_both {t : ByteArray} (h1 : rightT t = true) : bothL pairP (pairQ t) = ([⟨#[63, 48, 10]⟩, t], true) := by
 have ht := pair_then h1
 have hr := thenL_right (p := pairP) (q := pairQ t) (by rw [ht])
 rw [ht] at hr
 have hr : rightL (pack [.ins newB, .skip, .del t]) = true := hr
 have hc : capd 3 (pack [.ins newB, .skip, .del t]) ≤ 5000 := by rw [(capd_right hr).1, ex_pack]; simp [olds]
 have l0 : lineN 0 = ⟨#[63, 48, 10]⟩ := by decide +kernel
 unfold bothL
 rw [ht]
 simp only [if_true]
 unfold witL
 rw [if_pos ⟨hr, hc⟩, ex_pack]
 simp [witU, l0]
theorem none_both : bothL [(⟨4, 0, newB⟩ : Op)] [⟨3, 0, otherB⟩] = ([], false) := by decide +kernel
theorem sx_of {l : List Op} (h : (l.map fun o => o.f2.size + 1).sum ≤ 1000) : Sx l := by
 induction l with
 | nil => exact ⟨by simp, by simp⟩
 | cons o l ih =>
  simp only [List.map_cons, List.sum_cons] at h
  obtain ⟨a, b⟩ := ih (by omega)
  have hl : ∀ l : List Op, l.length ≤ (l.map fun o => o.f2.size + 1).sum := by
   intro l
   induction l with
   | nil => simp
   | cons o l ih => simp only [List.map_cons, List.sum_cons, List.length_cons]; omega
  have := hl l
  refine ⟨by simp only [List.length_cons]; omega, fun x hx => ?_⟩
  rcases List.mem_cons.mp hx with rfl | hx
  ·omega
  ·exact b x hx
theorem WitnessEach.tail {a : Nat} {t : ByteArray} (h1 : rightT t = true) (hs : t.size ≤ 30) (p : List ByteArray) (hp : p.length ≤ 5000) : Ev (fun k => patchworklaw18_WitnessEach.l0 k (a : Int) t (p ++ []) (p.length : Int)) true := by
 have z4 : newB.size = 4 := rfl
 have z0 : (⟨#[]⟩ : ByteArray).size = 0 := rfl
 have z6 : otherB.size = 6 := rfl
 have sp : Sx pairP := sx_of (by decide)
 have sq : Sx (pairQ t) := sx_of (by simp only [pairQ, List.map_cons, List.map_nil, List.sum_cons, List.sum_nil, z4, z0]; omega)
 have b1 := pboth_ev sp sq (by simp [pairP, pairQ])
 have b2 := pboth_ev (p := [(⟨4, 0, newB⟩ : Op)]) (q := [⟨3, 0, otherB⟩]) (sx_of (by decide)) (sx_of (by decide)) (by simp)
 rw [pair_both h1] at b1
 rw [none_both] at b2
 refine Ev.step (fun k => rfl) ?_
 simp only [patchworklaw18_WitnessEach.l0, lt_end, if_false]
 refine Ev.bind' b1 ?_
 refine Ev.bind' b2 ?_
 have q1 : (([⟨#[63, 48, 10]⟩, t] : List ByteArray).length : Int) = 2 := rfl
 have q2 : (0 : Int) < (([⟨#[63, 48, 10]⟩, t] : List ByteArray).length : Int) := by rw [q1]; decide
 have q3 : (1 : Int) < (([⟨#[63, 48, 10]⟩, t] : List ByteArray).length : Int) := by rw [q1]; decide
 have q4 : (rdOf ByteArray.empty ([⟨#[63, 48, 10]⟩, t] : List ByteArray) 0).toList = ([63, 48, 10] : List UInt8) := by rw [Lib.toList_data]; rfl
 have q5 : ((rdOf ByteArray.empty ([⟨#[63, 48, 10]⟩, t] : List ByteArray) 1).toList == t.toList) = true := by
  show (t.toList == t.toList) = true
  exact beq_self_eq_true _
 simp only [if_true, Bool.false_eq_true, if_false, if_pos q1, if_pos q2, if_pos q3, if_pos q4, q5]
 exact Ev.now _
theorem WitnessEach.loop {a b : Nat} (ha : 1 ≤ a) (hb : 1 ≤ b) (ha2 : a ≤ 50) (hb2 : b ≤ 50) {t : ByteArray} (h1 : rightT t = true) (h2 : openT t = false) (hs : t.size ≤ 30) :
  Ev (fun k => patchworklaw18_WitnessEach.l0 k (a : Int) t (witL (eachO a b t)) 0) true := by
 have hw := each_wit ha hb ha2 hb2 h1 h2
 generalize hW : witL (eachO a b t) = W at *
 have hl : W.length = a + 1 + b := by rw [hw, List.length_append, List.length_cons, skips_len, skips_len]; omega
 have la : (witU 0 (List.replicate a U.skip)).length = a := skips_len a 0
 refine WitnessEach.skips (a := a) (t := t) W (by omega) true a [] (t :: witU (a + 1) (List.replicate b .skip)) (by rw [hw]; rfl) (.inl (by simp)) ?_
 have e0 : (([] : List ByteArray).length + a : Nat) = (witU 0 (List.replicate a U.skip)).length := by rw [la]; simp
 rw [e0]
 have cl : ((witU 0 (List.replicate a U.skip)).length : Int) < (W.length : Int) := by omega
 have c2 : ((witU 0 (List.replicate a U.skip)).length : Int) = (a : Int) := by omega
 have c3 : (0 : Int) ≤ ((witU 0 (List.replicate a U.skip)).length : Int) := by omega
 obtain ⟨s1, s2, _⟩ := line_size (witU 0 (List.replicate a U.skip)).length
 have rd : rdOf ByteArray.empty W ((witU 0 (List.replicate a U.skip)).length : Int) = t := by rw [hw]; exact rdOf_mid ..
 have w : wrap64 (((witU 0 (List.replicate a U.skip)).length : Int) + 1) = ((witU 0 (List.replicate a U.skip) ++ [t]).length : Int) := wrap_len _ _ (by omega)
 have lp : (witU 0 (List.replicate a U.skip) ++ [t]).length = a + 1 := by rw [List.length_append, la]; rfl
 refine Ev.step (fun k => rfl) ?_
 simp only [patchworklaw18_WitnessEach.l0, if_pos cl]
 refine Ev.bind' (num_ev 4 _ (by omega) (by rw [la]; omega)) ?_
 simp only [if_pos s1, if_pos s2, rd, w]
 simp only [if_pos c2, if_pos c3, if_true]
 refine WitnessEach.skips (a := a) (t := t) W (by omega) true b (witU 0 (List.replicate a U.skip) ++ [t]) [] (by rw [hw, lp]; simp) (.inr (by omega)) ?_
 have e1 : ((witU 0 (List.replicate a U.skip) ++ [t]).length + b : Nat) = W.length := by omega
 rw [e1]
 have := WitnessEach.tail (a := a) h1 hs W (by omega)
 rw [List.append_nil] at this
 exact this
theorem WitnessEach.proved : WitnessEach.Pure := by
 intro a b t _ _ hw
 simp only at hw
 refine Ev.rounds ?_
 simp only [patchworklaw18_WitnessEach.f]
 refine Ev.bind' alive18 ?_
 simp only [if_true]
 by_cases a1 : a < 1
 ·simp only [if_pos a1]; exact WitnessEach.out ..
 simp only [if_neg a1]
 by_cases a2 : a > 50
 ·simp only [if_pos a2]; exact WitnessEach.out ..
 simp only [if_neg a2]
 by_cases b1 : b < 1
 ·simp only [if_pos b1]; exact WitnessEach.out ..
 simp only [if_neg b1]
 by_cases b2 : b > 50
 ·simp only [if_pos b2]; exact WitnessEach.out ..
 simp only [if_neg b2]
 by_cases ts : (t.size : Int) > 30
 ·simp only [if_pos ts]; exact WitnessEach.out ..
 simp only [if_neg ts]
 refine Ev.bind' (rightline_ev (by omega)) ?_
 cases hr : rightT t
 ·simp only [Bool.false_eq_true, if_false]; exact WitnessEach.out ..
 simp only [if_true]
 have hne : t.data.toList ≠ [] := by
  unfold rightT at hr
  simp only [Bool.and_eq_true, decide_eq_true_eq] at hr
  exact hr.1
 have hp := size_pos hne
 have w : wrap64 ((t.size : Int) - 1) = ((t.size - 1 : Nat) : Int) := by rw [wrap_small (by omega) (by omega)]; omega
 have d1 : (0 : Int) ≤ ((t.size - 1 : Nat) : Int) := by omega
 have d2 : ((t.size - 1 : Nat) : Int) < (t.size : Int) := by omega
 have ob : (bt t ((t.size - 1 : Nat) : Int) != 10) = openT t := by
  rw [bt_getD, openT_getD hne]
  generalize t.data.toList.getD (t.size - 1) 0 = x
  by_cases h2 : x = 10
  ·subst h2; rfl
  ·have : ¬ (x.toNat : Int) = 10 := fun e => h2 (u10.mp e)
   rw [bne_iff_ne.mpr h2, bne_iff_ne.mpr this]
 simp only [w, if_pos d1, if_pos d2, ob]
 cases ho : openT t
 ·obtain ⟨n, rfl⟩ : ∃ n : Nat, a = (n : Int) := ⟨a.toNat, by omega⟩
  obtain ⟨m, rfl⟩ : ∃ m : Nat, b = (m : Int) := ⟨b.toNat, by omega⟩
  have h30 : t.size ≤ 30 := by omega
  have lw := each_wit (a := n) (b := m) (by omega) (by omega) (by omega) (by omega) hr ho
  have ll : (witL (eachO n m t)).length = n + 1 + m := by rw [lw, List.length_append, List.length_cons, skips_len, skips_len]; omega
  have w1 : wrap64 ((n : Int) + 1) = ((n + 1 : Nat) : Int) := by rw [wrap_small (by omega) (by omega)]; omega
  have w2 : wrap64 (wrap64 ((n : Int) + 1) + (m : Int)) = ((n + 1 + m : Nat) : Int) := by rw [w1, wrap_small (by omega) (by omega)]; omega
  have z4 : newB.size = 4 := rfl
  have z0 : (⟨#[]⟩ : ByteArray).size = 0 := rfl
  have sx : Sx (eachO n m t) := sx_of (by simp only [eachO, List.map_cons, List.map_nil, List.sum_cons, List.sum_nil, z4, z0]; omega)
  have pw := pwit_ev sx.sm
  have lp := WitnessEach.loop (a := n) (b := m) (by omega) (by omega) (by omega) (by omega) hr ho h30
  have c : ((witL (eachO n m t)).length : Int) = ((n + 1 + m : Nat) : Int) := by rw [ll]
  refine Ev.step (fun k => rfl) ?_
  simp only [patchworklaw18_WitnessEach.j0, Bool.false_eq_true, if_false]
  refine Ev.bind' pw ?_
  simp only [w2, if_pos c]
  exact lp
 ·exact WitnessEach.out ..
end Go.Proofs.YtkiklmmpflndbaaDoor.P
namespace Go.Proofs.YtkiklmmpflndbaaDoor.P.witnessEach
open Go.ChangeShapes Go.WideShapes Go.ChangeAt Go.RowKit Go.Proofs.YtkiklmmpflndbaaDoor.P Go.Proofs.YtkiklmmpflndbaaDoorW.PrintWords
open Go.ChangeMaps (open_string shut_string)
theorem own : ownKnob Tryd.prog.godebug = none := by kernel_rfl
set_option maxRecDepth 100000 in
theorem table {W : World} (h : laidMetH Tryd.prog Rows.witnessEachUptoRow.laid W) : TabOk W :=
 Lib.tabIs_of_head (P := Tryd.prog) (name := "internal/strconv.uint64pow10") (k := .u64) (zs := Lib.pow10Tab) (rest := []) (g := 0) (t := 83) (e := 76) (n := 20) (by kernel_rfl) (by kernel_rfl) Tryd.underlying83 Tryd.underlying76 (by kernel_rfl) (by kernel_rfl)
  (show laidMetH Tryd.prog (Rows.witnessEachUptoRow.laid.filter fun x => x.1 == "internal/strconv.uint64pow10") W from h.filter _)
set_option maxRecDepth 100000 in
theorem contract (H : Type) (enc : TypeId × Value → H) (W : World) (base : Nat) (args : Array Value) (ds gs : List (DataW H)) (before : List MemPlace)
  (hval : ∀ (j : Nat) t v, Tryd.f4.params[j]? = some t → args[j]? = some v → Value.okWide Tryd.prog W .any base t v)
  (hW : DataW.Whole enc Tryd.prog Tryd.f4.params.toList Rows.witnessEachSpec.vars false W args.toList ds gs before) (hk : Rows.uptoSmall H (ds ++ gs) = true) (hL : laidMetH Tryd.prog Rows.witnessEachUptoRow.laid W) :
  Calls Tryd.prog 4 args W fun e W' => ∃ v, e = .returned v ∧ Rows.witnessEachSpec.post enc Tryd.prog Tryd.f4 false true false false W args v W' := by
 have hW' := hW
 obtain ⟨p, q, hA0, hV, rfl, hfz, hnd⟩ := hW
 have hA : DataW.TrodAll enc Tryd.prog W 0 (fun _ => true) true Tryd.f4.params.toList args.toList ds p := hA0
 rw [Tryd.params4] at hA hval
 obtain ⟨v0, vs0, d0, ds0, p0, q0, hargs, rfl, rfl, h0, r0⟩ := trodAll_cons hA
 obtain ⟨v1, vs1, d1, ds1, p1, q1, rfl, rfl, rfl, h1, r1⟩ := trodAll_cons r0
 obtain ⟨v2, vs2, d2, ds2, p2, q2, rfl, rfl, rfl, h2, r2⟩ := trodAll_cons r1
 obtain ⟨rfl, rfl, rfl⟩ := trodAll_nil r2
 obtain rfl : args = #[v0, v1, v2] := by cases args; simp_all
 obtain ⟨rfl, rfl⟩ := trodVars_none hV
 have hb := small_all hk
 simp only [List.append_nil, Rows.uptoBulkAll] at hb
 obtain ⟨a0, rfl, rfl, rfl, ok0⟩ := open_int Tryd.underlying3 (hval 0 3 v0 rfl rfl) h0
 have wt0 : 1 ≤ Rows.uptoBulk (DataW.lit (H := H) (.int .i64 a0)) := by simp [Rows.uptoBulk]
 obtain ⟨a1, rfl, rfl, rfl, ok1⟩ := open_int Tryd.underlying3 (hval 1 3 v1 rfl rfl) h1
 have wt1 : 1 ≤ Rows.uptoBulk (DataW.lit (H := H) (.int .i64 a1)) := by simp [Rows.uptoBulk]
 obtain ⟨a2, rfl, rfl, rfl, y2⟩ := open_string Tryd.underlying9 (hval 2 9 v2 rfl rfl) h2
 have wt2 : a2.size + 1 ≤ Rows.uptoBulk (DataW.lit (H := H) (.string a2.data.toList)) := by simp [Rows.uptoBulk]
 clear hA0 hval
 obtain ⟨k, hp⟩ := WitnessEach.proved a0 a1 a2 ok0 ok1 (by simp only [] at *; omega)
 refine (patchworklaw18_WitnessEach.calls k a0 a1 a2 true W (table hL) hp).mono fun e W' ⟨he, bel0⟩ => ?_
 have bel : Below W.heap.size W W' := bel0
 subst he
 exact ⟨_, rfl, _, _, _, [], _, [], hW', trodAll_mk1 (shut_bool Tryd.underlying4 _), (trodAll_cons_mk (shut_int Tryd.underlying3 ok0) (trodAll_cons_mk (shut_int Tryd.underlying3 ok1) (trodAll_cons_mk (shut_string Tryd.underlying9 y2) trodAll_mk0))), rfl, bel.frame _, fun h => by cases h⟩
noncomputable def laidWorld (os : Os) : World := { World.holding Tryd.prog os ⟨#[], #[], []⟩ with heap := ((((World.holding Tryd.prog os ⟨#[], #[], []⟩).heap).modify 2 (fun o => match o with | .cells _ t frozen => .cells #[.int .u8 0, .int .u8 1, .int .u8 28, .int .u8 2, .int .u8 29, .int .u8 14, .int .u8 24, .int .u8 3, .int .u8 30, .int .u8 22, .int .u8 20, .int .u8 15, .int .u8 25, .int .u8 17, .int .u8 4, .int .u8 8, .int .u8 31, .int .u8 27, .int .u8 13, .int .u8 23, .int .u8 21, .int .u8 19, .int .u8 16, .int .u8 7, .int .u8 26, .int .u8 12, .int .u8 18, .int .u8 6, .int .u8 11, .int .u8 5, .int .u8 10, .int .u8 9] t frozen | o => o)).modify 3 (fun o => match o with | .cells _ t frozen => .cells #[.int .u8 0, .int .u8 1, .int .u8 56, .int .u8 2, .int .u8 57, .int .u8 49, .int .u8 28, .int .u8 3, .int .u8 61, .int .u8 58, .int .u8 42, .int .u8 50, .int .u8 38, .int .u8 29, .int .u8 17, .int .u8 4, .int .u8 62, .int .u8 47, .int .u8 59, .int .u8 36, .int .u8 45, .int .u8 43, .int .u8 51, .int .u8 22, .int .u8 53, .int .u8 39, .int .u8 33, .int .u8 30, .int .u8 24, .int .u8 18, .int .u8 12, .int .u8 5, .int .u8 63, .int .u8 55, .int .u8 48, .int .u8 27, .int .u8 60, .int .u8 41, .int .u8 37, .int .u8 16, .int .u8 46, .int .u8 35, .int .u8 44, .int .u8 21, .int .u8 52, .int .u8 32, .int .u8 23, .int .u8 11, .int .u8 54, .int .u8 26, .int .u8 40, .int .u8 15, .int .u8 34, .int .u8 20, .int .u8 31, .int .u8 10, .int .u8 25, .int .u8 14, .int .u8 19, .int .u8 9, .int .u8 13, .int .u8 8, .int .u8 7, .int .u8 6] t frozen | o => o)).modify 0 (fun o => match o with | .cells _ t frozen => .cells #[.int .u64 1, .int .u64 10, .int .u64 100, .int .u64 1000, .int .u64 10000, .int .u64 100000, .int .u64 1000000, .int .u64 10000000, .int .u64 100000000, .int .u64 1000000000, .int .u64 10000000000, .int .u64 100000000000, .int .u64 1000000000000, .int .u64 10000000000000, .int .u64 100000000000000, .int .u64 1000000000000000, .int .u64 10000000000000000, .int .u64 100000000000000000, .int .u64 1000000000000000000, .int .u64 10000000000000000000] t frozen | o => o) }
set_option maxRecDepth 100000 in
theorem laid_met (os : Os) : laidMet Tryd.prog Rows.witnessEachUptoRow.laid ((laidWorld os).forCall (fun _ _ => 0) ⟨#[], #[.int .i64 0, .int .i64 0, .string ByteArray.empty], []⟩).memory :=
 laidMet_of_run' 8 (by kernel_rfl) (by kernel_rfl)
set_option maxRecDepth 100000 in
theorem reads (os : Os) {H : Type} (enc : TypeId × Value → H) : ∃ places, DataW.whole enc Tryd.prog ((laidWorld os).forCall (fun _ _ => 0) ⟨#[], #[.int .i64 0, .int .i64 0, .string ByteArray.empty], []⟩).memory Tryd.f4.params.toList Rows.witnessEachSpec.vars false (#[.int .i64 0, .int .i64 0, .string ByteArray.empty] : Array Value).toList 8 = some ([.lit (.int .i64 0), .lit (.int .i64 0), .lit (.string [])], [], places) :=
 ⟨[], by kernel_rfl⟩
set_option maxRecDepth 100000 in
theorem lifted (os : Os) (started : os.Started) (H : Type) (enc : TypeId × Value → H) (F : Stop.Interp) :
  ReturnsInHanded {} Tryd.checked os 4 .any ((Rows.OpenSpec.upto Rows.witnessEachSpec).preRow enc Tryd.prog Tryd.f4 Rows.witnessEachUptoRow.domain false Rows.witnessEachUptoRow.laid) (((Rows.OpenSpec.upto Rows.witnessEachSpec).at F).post enc Tryd.prog Tryd.f4 false true false false) := by
 obtain ⟨places, hx⟩ := reads os enc
 refine returnsInHanded_of_row (C := Tryd.checked) (s := Rows.OpenSpec.upto Rows.witnessEachSpec) own started (by kernel_rfl) Tryd.func4
  (witness_row_at (enc := enc) (C := Tryd.checked) false (laidWorld os) #[.int .i64 0, .int .i64 0, .string ByteArray.empty] rfl (by kernel_rfl) (by kernel_rfl) (by kernel_rfl)
   (OpenSpec.preRow_of_cond 8 hx (by kernel_rfl) (fun k hk => by cases hk; kernel_rfl) (by kernel_rfl) (laid_met os))) ?_
 intro W base args ds gs before hval hW _ hcond _ hL _ _
 exact contract H enc W base args ds gs before hval hW (hcond _ rfl) hL
theorem over : Rows.WitnessEachUptoSaid :=
 OpenClaim.holds_of_cond 4 Tryd.f4 rfl rfl rfl rfl rfl rfl rfl ⟨rfl, rfl, rfl, rfl, rfl⟩ rfl rfl rfl rfl rfl (by kernel_rfl) Tryd.func4 (by kernel_rfl)
  (of_decide_eq_true (by kernel_rfl)) (by unfold Func.isWrapper; first | (rw [if_pos (by decide +kernel)]; kernel_rfl) | (rw [if_neg (by decide +kernel)]; exact ⟨rfl, rfl⟩))
  (fun os started H enc _ F => by rw [OpenClaim.pre_eq_preRow]; exact lifted os started H enc F)
theorem plain (f : FuncId) (fn : Func) (hf : Tryd.pinned.checked.prog.funcNamed "patchwork/patchworklaw18.WitnessEach" = some f) (hfn : Tryd.pinned.checked.prog.funcs[f]? = some fn) :
  false = Tryd.pinned.checked.prog.looks [] ∧ ∀ (j : Nat) t, fn.params[j]? = some t → Tryd.pinned.checked.prog.wantsStandIn t = false := by
 obtain rfl : f = 4 := Option.some.inj ((show Tryd.prog.funcNamed "patchwork/patchworklaw18.WitnessEach" = some 4 by kernel_rfl).symm.trans hf) |>.symm
 obtain rfl : fn = Tryd.f4 := (Option.some.inj (Tryd.func4.symm.trans hfn)).symm
 refine ⟨by kernel_rfl, fun j t ht => ?_⟩
 rw [Tryd.params4] at ht
 have hm := Array.mem_of_getElem? ht
 have all : ∀ x ∈ #[3, 3, 9], Tryd.prog.wantsStandIn x = false := by
  intro x hx
  simp only [List.mem_toArray, List.mem_cons, List.not_mem_nil, or_false] at hx
  rcases hx with rfl | rfl | rfl <;> kernel_rfl
 exact all t hm
theorem proved : Rows.WitnessEachUptoCardSaid :=
 Claim7.holds_tied_plain_at .later [] _ _ _ _ over (fun _ h => by cases h) (by kernel_rfl) (fun _ h => by cases h) witnessEachUpto_row_tie rfl ⟨rfl, rfl⟩ (by kernel_rfl) rfl plain (by kernel_rfl)
end Go.Proofs.YtkiklmmpflndbaaDoor.P.witnessEach
namespace Go.Proofs.YtkiklmmpflndbaaDoor
theorem witnessEach_holds : Rows.WitnessEachUptoCardSaid := P.witnessEach.proved
#print axioms witnessEach_holds
end Go.Proofs.YtkiklmmpflndbaaDoor
