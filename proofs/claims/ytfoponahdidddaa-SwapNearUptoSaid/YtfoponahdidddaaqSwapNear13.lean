/- The law SwapNear answers true, for all arguments that hold together at most 1048576 values and letters, and leaves them as they were. -/
import Derived.Test.YtfoponahdidddaaqSwapNear12
import Derived.Test.YtfoponahdidddaaqSwapNear3
import Derived.Test.YtfoponahdidddaaqSwapNear8
import Derived.Test.YtfoponahdidddaaqSwapNear5
import Derived.WalkKit
import Derived.ProofKit
import Derived.OpenShut
import Derived.ShutString
import Derived.ChangeOld
import Derived.Below
import Derived.SizedLaws
import Derived.JoinedCond
set_option linter.unusedVariables false
set_option linter.unusedSimpArgs false
namespace Go.Proofs.Ytfoponahdidddaa.P
open Go.RowKit Go.Proofs.YtfoponahdidddaaW.PrintWords Go.Proofs.YtfoponahdidddaaW.PrintLast Go.Proofs.YtfoponahdidddaaW.PrintMore
def SwapNear.Pure : Prop := ∀ (a0 : Int) (a1 : Int) (a2 : Bool), ((fun n => (Lit.int .i64 n).wf = true) a0) → ((fun n => (Lit.int .i64 n).wf = true) a1) → (fun _ => 1) a0 + (fun _ => 1) a1 + (fun _ => 1) a2 ≤ 1048576 → ∃ k, patchworklaw15_SwapNear.f k a0 a1 a2 = some true
end Go.Proofs.Ytfoponahdidddaa.P
namespace Go.Proofs.Ytfoponahdidddaa.P
open Go.RowKit Go.Proofs.YtfoponahdidddaaW.PrintWords Go.Proofs.YtfoponahdidddaaW.PrintLast Go.Proofs.YtfoponahdidddaaW.PrintMore
def ta : ByteArray := ⟨#[97, 10]⟩
def tb : ByteArray := ⟨#[98, 10]⟩
def tc : ByteArray := ⟨#[99, 10]⟩
def td : ByteArray := ⟨#[100, 10]⟩
def skL (n : Nat) : List Op := if n = 0 then [] else [⟨1, (n : Int), ⟨#[]⟩⟩]
theorem skL_len (n : Nat) : (skL n).length ≤ 1 := by unfold skL; split <;> simp
theorem ex_skL (n : Nat) (r : List Op) : ex (skL n ++ r) = skU n ++ ex r := by
 unfold skL
 split
 ·rename_i h; subst h; rfl
 ·rw [List.singleton_append, ex_sk (by omega), Int.toNat_natCast]
theorem pack_skL (n : Nat) (u : List U) (h : NoSkU u) : pack (skU n ++ u) = skL n ++ pack u := by
 cases n with
 | zero => rfl
 | succ n =>
  rw [pack_sk (by omega) u h]
  unfold skL
  rw [if_neg (by omega)]; rfl
theorem sk_add' (a b : Nat) (u : List U) : skU a ++ (skU b ++ u) = skU (a + b) ++ u := by
 rw [← List.append_assoc, List.replicate_append_replicate]
def pNear (n : Nat) : List Op := skL n ++ [⟨3, 0, ta⟩, ⟨4, 0, tb⟩, ⟨4, 0, tc⟩]
def qNear (n : Nat) (kind : Int) : List Op := [⟨1, (n : Int), ⟨#[]⟩⟩, ⟨kind, 0, td⟩]
def xU (kind : Int) : U := if kind = 4 then .ins td else .del td
theorem ex_p (n : Nat) : ex (pNear n) = skU n ++ [.del ta, .ins tb, .ins tc] := by rw [pNear, ex_skL]; rfl
theorem ex_q (n : Nat) {kind : Int} (hk : kind = 3 ∨ kind = 4) : ex (qNear n kind) = skU n ++ [xU kind] := by
 rw [qNear, ex_sk (by omega), Int.toNat_natCast]
 rcases hk with rfl | rfl <;> rfl
theorem sx_p (n : Nat) : Sx (pNear n) := by
 have := skL_len n
 refine ⟨by rw [pNear, List.length_append]; simp only [List.length_cons, List.length_nil]; omega, fun o ho => ?_⟩
 rcases List.mem_append.mp ho with h | h
 ·unfold skL at h
  split at h
  ·simp at h
  ·rw [List.mem_singleton.mp h]; exact (by decide : (0 : Nat) < 1073741824)
 ·simp only [List.mem_cons, List.not_mem_nil, or_false] at h
  rcases h with rfl | rfl | rfl <;> exact (by decide : (2 : Nat) < 1073741824)
theorem sx_q (n : Nat) (kind : Int) : Sx (qNear n kind) := by
 refine ⟨by simp [qNear], fun o ho => ?_⟩
 simp only [qNear, List.mem_cons, List.not_mem_nil, or_false] at ho
 rcases ho with rfl | rfl
 ·exact (by decide : (0 : Nat) < 1073741824)
 ·exact (by decide : (2 : Nat) < 1073741824)
theorem form_p (n : Nat) : ∀ o ∈ pNear n, formO o := by
 intro o ho
 rcases List.mem_append.mp ho with h | h
 ·unfold skL at h
  split at h
  ·simp at h
  ·rw [List.mem_singleton.mp h]; exact .inl ⟨rfl, by show (1 : Int) ≤ (n : Int); omega, rfl⟩
 ·simp only [List.mem_cons, List.not_mem_nil, or_false] at h
  rcases h with rfl | rfl | rfl
  ·exact .inr ⟨.inr (.inl rfl), rfl⟩
  ·exact .inr ⟨.inr (.inr rfl), rfl⟩
  ·exact .inr ⟨.inr (.inr rfl), rfl⟩
theorem form_q {n : Nat} (hn : 0 < n) {kind : Int} (hk : kind = 3 ∨ kind = 4) : ∀ o ∈ qNear n kind, formO o := by
 intro o ho
 simp only [qNear, List.mem_cons, List.not_mem_nil, or_false] at ho
 rcases ho with rfl | rfl
 ·exact .inl ⟨rfl, by show (1 : Int) ≤ (n : Int); omega, rfl⟩
 ·rcases hk with rfl | rfl
  ·exact .inr ⟨.inr (.inl rfl), rfl⟩
  ·exact .inr ⟨.inr (.inr rfl), rfl⟩
theorem fine_x {kind : Int} (hk : kind = 3 ∨ kind = 4) : fineU (xU kind) = true := by rcases hk with rfl | rfl <;> decide
theorem right_p {n : Nat} (h : n ≤ 1000) : rightL (pNear n) = true := by
 rw [right_iff (form_p n), ex_p]
 refine fine_right ?_ ?_
 ·rw [List.all_append, fine_sk]; decide
 ·rw [List.length_append, List.length_replicate]; simp only [List.length_cons, List.length_nil]; omega
theorem right_q {n : Nat} (hn : 0 < n) (h : n ≤ 1000) {kind : Int} (hk : kind = 3 ∨ kind = 4) : rightL (qNear n kind) = true := by
 rw [right_iff (form_q hn hk), ex_q n hk]
 refine fine_right ?_ ?_
 ·rw [List.all_append, fine_sk, List.all_cons, fine_x hk]; rfl
 ·rw [List.length_append, List.length_replicate]; simp only [List.length_cons, List.length_nil]; omega
def wNear (n far : Nat) (kind : Int) : List TU := skT n ++ ([(.del ta, 1), (.ins tb, 1), (.ins tc, 1)] ++ (skT far ++ [(xU kind, 2)]))
theorem walk_near (n far : Nat) {kind : Int} (hk : kind = 3 ∨ kind = 4) : cmpT (ex (pNear n)) false (ex (qNear (n + 2 + far) kind)) = some (wNear n far kind) := by
 have e : cmpT [] false [xU kind] = some [(xU kind, 2)] := by rcases hk with rfl | rfl <;> rfl
 have ob : opM (.ins tb) .skip = false := by decide
 have oc : opM (.ins tc) .skip = false := by decide
 rw [ex_p, ex_q _ hk, show n + 2 + far = n + (2 + far) from by omega, ← sk_add' n (2 + far) [xU kind], cmp_sk, cmpT_del]
 have s2 : skU (2 + far) ++ [xU kind] = .skip :: .skip :: (skU far ++ [xU kind]) := by
  rw [Nat.add_comm]; rfl
 rw [s2, cmpT_mid (fun s r h => by simp at h) (fun s r h => by simp at h) (.inl (by simp)) false, if_neg (by simp)]
 show Option.map (skT n ++ ·) (Option.map ((.del ta, 1) :: ·) ((some [((.ins tb, 1) : TU)]).bind fun a => (cmpT [.ins tc] (opM (.ins tb) .skip) (.skip :: (skU far ++ [xU kind]))).map (a ++ ·))) = _
 rw [ob, cmpT_mid (fun s r h => by simp at h) (fun s r h => by simp at h) (.inl (by simp)) false, if_neg (by simp)]
 show Option.map (skT n ++ ·) (Option.map ((.del ta, 1) :: ·) ((some [((.ins tb, 1) : TU)]).bind fun a => ((some [((.ins tc, 1) : TU)]).bind fun b => (cmpT [] (opM (.ins tc) .skip) (skU far ++ [xU kind])).map (b ++ ·)).map (a ++ ·))) = _
 rw [oc, cmp_skR, e]; rfl
theorem no3_near (n far : Nat) (kind : Int) : no3 (wNear n far kind) := by
 intro x hx
 simp only [wNear, List.mem_append, List.mem_cons, List.not_mem_nil, or_false] at hx
 rcases hx with h | ((h | h | h) | (h | h))
 ·rw [List.eq_of_mem_replicate h]; decide
 ·subst h; show (1 : Int) ≠ 3; decide
 ·subst h; show (1 : Int) ≠ 3; decide
 ·subst h; show (1 : Int) ≠ 3; decide
 ·rw [List.eq_of_mem_replicate h]; decide
 ·subst h; show (2 : Int) ≠ 3; decide
theorem all_near (n far : Nat) (kind : Int) : allT (wNear n far kind) = skU n ++ ([.del ta, .ins tb, .ins tc] ++ (skU far ++ [xU kind])) := by
 simp [wNear, allT]
theorem right_near {n far : Nat} (h : n ≤ 1000) (h2 : far ≤ 1000) {kind : Int} (hk : kind = 3 ∨ kind = 4) : rightU (un (wNear n far kind)) = true := by
 rw [un_no3 (no3_near n far kind), all_near]
 refine fine_right ?_ ?_
 ·rw [List.all_append, List.all_append, List.all_append, fine_sk, fine_sk, List.all_cons (a := xU kind), fine_x hk]; decide
 ·simp only [List.length_append, List.length_replicate, List.length_cons, List.length_nil]; omega
theorem touch_near (n : Nat) (kind : Int) : ∀ b, b = 0 → touchT b (wNear n 0 kind) = true := by
 intro b hb
 subst hb
 have key : touchT 0 ([((.del ta, 1) : TU), (.ins tb, 1), (.ins tc, 1)] ++ (skT 0 ++ [(xU kind, 2)])) = true := by simp [touchT, skT]
 cases n with
 | zero => exact key
 | succ n =>
  unfold wNear
  rw [touch_skips]; exact key
theorem free_near (n : Nat) {far : Nat} (hf : 0 < far) (kind : Int) : touchT 0 (wNear n far kind) = false := by
 have e : touchT 0 (skT far ++ [((xU kind, 2) : TU)]) = false := by rw [touch_sk hf]; simp [touchT]
 have e1 : touchT 1 (skT far ++ [((xU kind, 2) : TU)]) = false := by rw [touch_sk hf]; simp [touchT]
 have key : touchT 0 ([((.del ta, 1) : TU), (.ins tb, 1), (.ins tc, 1)] ++ (skT far ++ [(xU kind, 2)])) = false := by
  show ((_ : Bool) || ((_ : Bool) || ((_ : Bool) || touchT 1 (skT far ++ [((xU kind, 2) : TU)])))) = false
  rw [e1]; rfl
 cases n with
 | zero => exact key
 | succ n =>
  unfold wNear
  rw [touch_skips]; exact key
theorem fst_near (n far : Nat) {kind : Int} (hk : kind = 3 ∨ kind = 4) : fstT (wNear n far kind) = skU n ++ (.keep ta :: (skU far ++ [xU kind])) := by
 have e : fstT [((xU kind, 2) : TU)] = [xU kind] := by rcases hk with rfl | rfl <;> rfl
 unfold wNear
 rw [fst_skips]
 show skU n ++ fstT ((.del ta, 1) :: (.ins tb, 1) :: (.ins tc, 1) :: (skT far ++ [(xU kind, 2)])) = _
 rw [fst_d1, fst_i1, fst_i1, fst_skips, e]
theorem snd_near (n far : Nat) (kind : Int) : ∃ r : List U, sndT (wNear n far kind) = skU n ++ (.del ta :: .ins tb :: .ins tc :: (skU far ++ r)) ∧ r.length ≤ 1 ∧ r.all fineU = true := by
 have e : ∃ r : List U, sndT [((xU kind, 2) : TU)] = r ∧ r.length ≤ 1 ∧ r.all fineU = true := by
  unfold xU
  split
  ·exact ⟨[.keep td], rfl, by simp, by decide⟩
  ·exact ⟨[], rfl, by simp, rfl⟩
 obtain ⟨r, e1, e2, e3⟩ := e
 refine ⟨r, ?_, e2, e3⟩
 unfold wNear
 rw [snd_skips]
 show skU n ++ sndT ((.del ta, 1) :: (.ins tb, 1) :: (.ins tc, 1) :: (skT far ++ [(xU kind, 2)])) = _
 rw [snd_d1, snd_i1, snd_i1, snd_skips, e1]
theorem swap_near0 {n : Nat} (h : n ≤ 100) {kind : Int} (hk : kind = 3 ∨ kind = 4) : (swapL (pNear n) (qNear (n + 2 + 0) kind)).2.2 = 7 := by
 have v := (((swap_val (sx_p n) (sx_q _ kind) (right_p (by omega)) (right_q (by omega) (by omega) hk) (walk_near n 0 hk)).2 (right_near (by omega) (by omega) hk)).2 (no3_near n 0 kind)).1 (touch_near n kind 0 rfl)
 rw [v]
theorem nf_x {kind : Int} (hk : kind = 3 ∨ kind = 4) : nf [] [xU kind] = [xU kind] := by rcases hk with rfl | rfl <;> rfl
theorem pack_x {kind : Int} (hk : kind = 3 ∨ kind = 4) : pack [xU kind] = [⟨kind, 0, td⟩] := by rcases hk with rfl | rfl <;> rfl
theorem noSk_x {kind : Int} (hk : kind = 3 ∨ kind = 4) : NoSkU [xU kind] := by
 intro x r h
 obtain ⟨rfl, _⟩ := List.cons.inj h
 rcases hk with rfl | rfl <;> rfl
theorem swap_near {n far : Nat} (h : n ≤ 100) (h1 : 0 < far) (h2 : far ≤ 100) {kind : Int} (hk : kind = 3 ∨ kind = 4) : (swapL (pNear n) (qNear (n + 2 + far) kind)).2.2 = 0 ∧
  (swapL (pNear n) (qNear (n + 2 + far) kind)).1 = skL n ++ [⟨2, 0, ta⟩, ⟨1, (far : Int), ⟨#[]⟩⟩, ⟨kind, 0, td⟩] ∧ 3 ≤ (swapL (pNear n) (qNear (n + 2 + far) kind)).2.1.length := by
 obtain ⟨r, s1, s2, s3⟩ := snd_near n far kind
 have f1 := fst_near n far hk
 have rf : rightU (fstT (wNear n far kind)) = true := by
  rw [f1]
  refine fine_right ?_ ?_
  ·rw [List.all_append, List.all_cons, List.all_append, fine_sk, fine_sk, List.all_cons (a := xU kind), fine_x hk]; decide
  ·simp only [List.length_append, List.length_replicate, List.length_cons, List.length_nil]; omega
 have rs : rightU (sndT (wNear n far kind)) = true := by
  rw [s1]
  refine fine_right ?_ ?_
  ·rw [List.all_append, List.all_cons, List.all_cons, List.all_cons, List.all_append, fine_sk, fine_sk, s3]; decide
  ·simp only [List.length_append, List.length_replicate, List.length_cons, List.length_nil]; omega
 have v := (((swap_val (sx_p n) (sx_q _ kind) (right_p (by omega)) (right_q (by omega) (by omega) hk) (walk_near n far hk)).2 (right_near (by omega) (by omega) hk)).2 (no3_near n far kind)).2 (free_near n h1 kind)
 rw [if_pos ⟨rf, rs⟩] at v
 rw [v]
 refine ⟨rfl, ?_, ?_⟩
 ·show pack (nf [] (fstT (wNear n far kind))) = _
  rw [f1, nf_skips, nf, nf_sk h1, nf_x hk]
  show pack (skU n ++ (.keep ta :: (skU far ++ [xU kind]))) = _
  rw [pack_skL n _ (by intro x r h; obtain ⟨rfl, _⟩ := List.cons.inj h; rfl), pack, put_ne rfl, pack_sk h1 _ (noSk_x hk), pack_x hk]; rfl
 ·show 3 ≤ (pack (nf [] (sndT (wNear n far kind)))).length
  rw [s1, nf_skips, nf, nf, nf, nf_sk h1]
  show 3 ≤ (pack (skU n ++ (.del ta :: .ins tb :: .ins tc :: (skU far ++ nf [] r)))).length
  rw [pack_skL n _ (by intro x r h; obtain ⟨rfl, _⟩ := List.cons.inj h; rfl), pack, put_ne rfl, pack, put_ne rfl, pack, put_ne rfl]
  simp only [List.length_append, List.length_cons]; omega
theorem near_end {n far : Nat} (h : n ≤ 100) (h2 : far ≤ 100) {kind : Int} (hk : kind = 3 ∨ kind = 4) : Ev (fun k => patchworklaw15_SwapNear.j2 k (n : Int) (far : Int) (pNear n) [] kind) true := by
 have w1 : wrap64 ((n : Int) + 2) = ((n + 2 : Nat) : Int) := by rw [wrap_small (by omega) (by omega)]; omega
 have w2 : wrap64 (((n + 2 : Nat) : Int) + (far : Int)) = ((n + 2 + far : Nat) : Int) := by rw [wrap_small (by omega) (by omega)]; omega
 have e0 : ([] : List Op) ++ [(⟨1, ((n + 2 + far : Nat) : Int), (⟨#[]⟩ : ByteArray)⟩ : Op), ⟨kind, 0, ⟨#[100, 10]⟩⟩] = qNear (n + 2 + far) kind := rfl
 have l0 : ([] : List Op).length + [(⟨1, ((n + 2 + far : Nat) : Int), (⟨#[]⟩ : ByteArray)⟩ : Op), ⟨kind, 0, ⟨#[100, 10]⟩⟩].length < 4398046511104 := by simp
 refine Ev.step (fun k => rfl) ?_
 simp only [patchworklaw15_SwapNear.j2, w1, w2, Option.bind_some, if_pos l0, e0]
 clear w1 w2 l0 e0
 refine Ev.bind' (pswap_ev (sx_p n) (sx_q _ kind)) ?_
 simp only [num_val, Option.bind_some]
 by_cases hf : far = 0
 ·subst hf
  simp only [swap_near0 h hk, Int.natCast_zero, if_true]
  exact Ev.now _
 ·have hf' : ¬ (far : Int) = 0 := by omega
  obtain ⟨a1, a2, a3⟩ := swap_near h (by omega) h2 hk
  have c3 : ((swapL (pNear n) (qNear (n + 2 + far) kind)).2.1.length : Int) ≥ 3 := by omega
  simp only [if_neg hf', a1, if_true, if_pos c3, a2]
  clear a1 a2 a3 c3
  have sk := skL_len n
  have len : (skL n ++ [(⟨2, 0, ta⟩ : Op), ⟨1, (far : Int), ⟨#[]⟩⟩, ⟨kind, 0, td⟩]).length = (skL n).length + 3 := by simp
  have c2 : ((skL n ++ [(⟨2, 0, ta⟩ : Op), ⟨1, (far : Int), ⟨#[]⟩⟩, ⟨kind, 0, td⟩]).length : Int) ≥ 2 := by omega
  have c1 : 1 ≤ ((skL n ++ [(⟨2, 0, ta⟩ : Op), ⟨1, (far : Int), ⟨#[]⟩⟩, ⟨kind, 0, td⟩]).length : Int) := by omega
  have t1 : ∃ o : Op, (skL n ++ [(⟨2, 0, ta⟩ : Op), ⟨1, (far : Int), ⟨#[]⟩⟩, ⟨kind, 0, td⟩]).take 1 = [o] ∧ o.f2.size < 4611686018427387904 ∧ capd 3 [o] ≥ 1 := by
   unfold skL
   split
   ·exact ⟨⟨2, 0, ta⟩, rfl, (by decide : (2 : Nat) < 4611686018427387904), by decide⟩
   ·refine ⟨⟨1, (n : Int), ⟨#[]⟩⟩, rfl, (by decide : (0 : Nat) < 4611686018427387904), ?_⟩
    have e : capd 3 [(⟨1, (n : Int), ⟨#[]⟩⟩ : Op)] = min (capd 3 [] + ((cnt 3 ⟨1, (n : Int), ⟨#[]⟩⟩ : Nat) : Int)) P.far := capd_snoc 3 [] _
    rw [e, capd_nil]
    have : cnt 3 (⟨1, (n : Int), ⟨#[]⟩⟩ : Op) = n := by simp [cnt]
    rw [this]
    unfold P.far
    omega
  have at_ : rd_Op (skL n ++ [(⟨2, 0, ta⟩ : Op), ⟨1, (far : Int), ⟨#[]⟩⟩, ⟨kind, 0, td⟩]) (((skL n).length + 2 : Nat) : Int) = ⟨kind, 0, td⟩ := by
   unfold skL
   split <;> rfl
  have c4 : (0 : Int) ≤ (((skL n).length + 2 : Nat) : Int) := by omega
  have c5 : (((skL n).length + 2 : Nat) : Int) < ((skL n ++ [(⟨2, 0, ta⟩ : Op), ⟨1, (far : Int), ⟨#[]⟩⟩, ⟨kind, 0, td⟩]).length : Int) := by omega
  have w : wrap64 (((skL n ++ [(⟨2, 0, ta⟩ : Op), ⟨1, (far : Int), ⟨#[]⟩⟩, ⟨kind, 0, td⟩]).length : Int) - 1) = (((skL n).length + 2 : Nat) : Int) := by
   rw [len, wrap_small (by omega) (by omega)]; omega
  obtain ⟨o, t2, t3, t4⟩ := t1
  simp only [if_pos c2, if_pos c1, t2]
  refine Ev.bind' (refolds_ev (l := [o]) ⟨by simp, fun x hx => by rw [List.mem_singleton.mp hx]; exact t3⟩) ?_
  simp only [if_pos t4, w, if_pos c4, if_pos c5, at_]
  have e : ((kind == kind) && ((0 : Int) == 0 && (td.toList == ([100, 10] : List UInt8)))) = true := by
   rw [Lib.toList_data]; simp [td]
  rw [e]
  exact Ev.now _
theorem SwapNear.out (a b : Int) (c : Bool) : Ev (fun k => patchworklaw15_SwapNear.j0 k a b c true true) true := by
 refine Ev.step (fun k => rfl) ?_
 simp only [patchworklaw15_SwapNear.j0, if_true]
 exact Ev.now true
theorem near_mid {n far : Nat} (h : n ≤ 100) (h2 : far ≤ 100) (c : Bool) : Ev (fun k => patchworklaw15_SwapNear.j1 k (n : Int) (far : Int) c (skL n) []) true := by
 have l : (skL n).length + [(⟨3, 0, (⟨#[97, 10]⟩ : ByteArray)⟩ : Op), ⟨4, 0, ⟨#[98, 10]⟩⟩, ⟨4, 0, ⟨#[99, 10]⟩⟩].length < 4398046511104 := by
  have := skL_len n
  simp only [List.length_cons, List.length_nil]; omega
 have e : skL n ++ [(⟨3, 0, (⟨#[97, 10]⟩ : ByteArray)⟩ : Op), ⟨4, 0, ⟨#[98, 10]⟩⟩, ⟨4, 0, ⟨#[99, 10]⟩⟩] = pNear n := rfl
 refine Ev.step (fun k => rfl) ?_
 simp only [patchworklaw15_SwapNear.j1, Option.bind_some, if_pos l, e]
 cases c
 ·simp only [Bool.false_eq_true, if_false]; exact near_end h h2 (.inl rfl)
 ·simp only [if_true]; exact near_end h h2 (.inr rfl)
theorem SwapNear.proved : SwapNear.Pure := by
 intro a b c _ _ _
 refine Ev.rounds ?_
 simp only [patchworklaw15_SwapNear.f]
 refine Ev.bind' alive15 ?_
 simp only [if_true]
 have out := SwapNear.out a b c
 by_cases a1 : a < 0
 ·simp only [if_pos a1]; exact out
 simp only [if_neg a1]
 by_cases a2 : a > 100
 ·simp only [if_pos a2]; exact out
 simp only [if_neg a2]
 by_cases b1 : b < 0
 ·simp only [if_pos b1]; exact out
 simp only [if_neg b1]
 by_cases b2 : b > 100
 ·simp only [b2, decide_true]; exact out
 simp only [b2, decide_false]
 obtain ⟨n, rfl⟩ : ∃ n : Nat, a = (n : Int) := ⟨a.toNat, by omega⟩
 obtain ⟨far, rfl⟩ : ∃ n : Nat, b = (n : Int) := ⟨b.toNat, by omega⟩
 have m := near_mid (n := n) (far := far) (by omega) (by omega) c
 have l : ([] : List Op).length < 4398046511104 := by simp
 refine Ev.step (fun k => rfl) ?_
 simp only [patchworklaw15_SwapNear.j0, Bool.false_eq_true, if_false]
 by_cases hn : n = 0
 ·subst hn
  have h : ¬ ((0 : Nat) : Int) > 0 := by omega
  simp only [if_neg h]
  exact m
 ·have h : (n : Int) > 0 := by omega
  have e : ([] : List Op) ++ [(⟨1, (n : Int), (⟨#[]⟩ : ByteArray)⟩ : Op)] = skL n := by unfold skL; rw [if_neg hn]; rfl
  simp only [if_pos h, if_pos l, e]
  exact m
end Go.Proofs.Ytfoponahdidddaa.P
namespace Go.Proofs.Ytfoponahdidddaa.P.swapNear
open Go.ChangeShapes Go.WideShapes Go.ChangeAt Go.RowKit Go.Proofs.Ytfoponahdidddaa.P Go.Proofs.YtfoponahdidddaaW.PrintWords
open Go.ChangeMaps (open_string shut_string)
theorem own : ownKnob Try.prog.godebug = none := by kernel_rfl
set_option maxRecDepth 100000 in
theorem contract (H : Type) (enc : TypeId × Value → H) (W : World) (base : Nat) (args : Array Value) (ds gs : List (DataW H)) (before : List MemPlace)
  (hval : ∀ (j : Nat) t v, Try.f7.params[j]? = some t → args[j]? = some v → Value.okWide Try.prog W .any base t v)
  (hW : DataW.Whole enc Try.prog Try.f7.params.toList Rows.swapNearSpec.vars false W args.toList ds gs before) (hk : Rows.uptoSmall H (ds ++ gs) = true) :
  Calls Try.prog 7 args W fun e W' => ∃ v, e = .returned v ∧ Rows.swapNearSpec.post enc Try.prog Try.f7 false true false false W args v W' := by
 have hW' := hW
 obtain ⟨p, q, hA0, hV, rfl, hfz, hnd⟩ := hW
 have hA : DataW.TrodAll enc Try.prog W 0 (fun _ => true) true Try.f7.params.toList args.toList ds p := hA0
 rw [Try.params7] at hA hval
 obtain ⟨v0, vs0, d0, ds0, p0, q0, hargs, rfl, rfl, h0, r0⟩ := trodAll_cons hA
 obtain ⟨v1, vs1, d1, ds1, p1, q1, rfl, rfl, rfl, h1, r1⟩ := trodAll_cons r0
 obtain ⟨v2, vs2, d2, ds2, p2, q2, rfl, rfl, rfl, h2, r2⟩ := trodAll_cons r1
 obtain ⟨rfl, rfl, rfl⟩ := trodAll_nil r2
 obtain rfl : args = #[v0, v1, v2] := by cases args; simp_all
 obtain ⟨rfl, rfl⟩ := trodVars_none hV
 have hb := small_all hk
 simp only [List.append_nil, Rows.uptoBulkAll] at hb
 obtain ⟨a0, rfl, rfl, rfl, ok0⟩ := open_int Try.underlying3 (hval 0 3 v0 rfl rfl) h0
 have wt0 : 1 ≤ Rows.uptoBulk (DataW.lit (H := H) (.int .i64 a0)) := by simp [Rows.uptoBulk]
 obtain ⟨a1, rfl, rfl, rfl, ok1⟩ := open_int Try.underlying3 (hval 1 3 v1 rfl rfl) h1
 have wt1 : 1 ≤ Rows.uptoBulk (DataW.lit (H := H) (.int .i64 a1)) := by simp [Rows.uptoBulk]
 obtain ⟨a2, rfl, rfl, rfl⟩ := open_bool Try.underlying4 (hval 2 4 v2 rfl rfl) h2
 have wt2 : 1 ≤ Rows.uptoBulk (DataW.lit (H := H) (.bool a2)) := by simp [Rows.uptoBulk]
 clear hA0 hval
 obtain ⟨k, hp⟩ := SwapNear.proved a0 a1 a2 ok0 ok1 (by simp only [] at *; omega)
 refine (patchworklaw15_SwapNear.calls k a0 a1 a2 true W hp).mono fun e W' ⟨he, bel0⟩ => ?_
 have bel : Below W.heap.size W W' := bel0
 subst he
 exact ⟨_, rfl, _, _, _, [], _, [], hW', trodAll_mk1 (shut_bool Try.underlying4 _), (trodAll_cons_mk (shut_int Try.underlying3 ok0) (trodAll_cons_mk (shut_int Try.underlying3 ok1) (trodAll_cons_mk (shut_bool Try.underlying4 _) trodAll_mk0))), rfl, bel.frame _, fun h => by cases h⟩
set_option maxRecDepth 100000 in
theorem lifted (os : Os) (started : os.Started) (H : Type) (enc : TypeId × Value → H) (F : Stop.Interp) :
  ReturnsInHanded {} Try.checked os 7 .any ((Rows.OpenSpec.upto Rows.swapNearSpec).pre6 enc Try.prog Try.f7 Rows.swapNearUptoRow.domain false) (((Rows.OpenSpec.upto Rows.swapNearSpec).at F).post enc Try.prog Try.f7 false true false false) := by
 refine returnsInHanded_of_cond (C := Try.checked) (s := Rows.OpenSpec.upto Rows.swapNearSpec) (k := Rows.uptoSmall) rfl own started (by kernel_rfl) Try.func7
  (OpenSpec.witness (enc := enc) (C := Try.checked) (s := Rows.OpenSpec.upto Rows.swapNearSpec) (k := Rows.uptoSmall) rfl false ⟨#[], #[.int .i64 0, .int .i64 0, .bool false], []⟩ 8 (by kernel_rfl) (by kernel_rfl) (by kernel_rfl)
   (x := ([.lit (.int .i64 0), .lit (.int .i64 0), .lit (.bool false)], [], [])) (by kernel_rfl) rfl (by kernel_rfl)) ?_
 intro W base args ds gs before hval hW _ hk _
 exact contract H enc W base args ds gs before hval hW hk
theorem over : Rows.swapNearUptoRow.holds Try.pinned (Rows.OpenSpec.upto Rows.swapNearSpec) :=
 OpenClaim.holds_of_cond 7 Try.f7 rfl rfl rfl rfl rfl rfl rfl ⟨rfl, rfl, rfl, rfl, rfl⟩ rfl rfl rfl rfl rfl (by kernel_rfl) Try.func7 (by kernel_rfl)
  (of_decide_eq_true (by kernel_rfl)) (by unfold Func.isWrapper; first | (rw [if_pos (by decide +kernel)]; kernel_rfl) | (rw [if_neg (by decide +kernel)]; exact ⟨rfl, rfl⟩))
  (fun os started H enc _ F => lifted os started H enc F)
theorem proved : Rows.SwapNearUptoSaid := over
end Go.Proofs.Ytfoponahdidddaa.P.swapNear
namespace Go.Proofs.Ytfoponahdidddaa
theorem swapNear_holds : Rows.SwapNearUptoSaid := P.swapNear.proved
#print axioms swapNear_holds
end Go.Proofs.Ytfoponahdidddaa
