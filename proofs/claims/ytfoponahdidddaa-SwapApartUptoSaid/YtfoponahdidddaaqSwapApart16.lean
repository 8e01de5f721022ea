/- The law SwapApart answers true, for all arguments that hold together at most 1048576 values and letters, and leaves them as they were. -/
import Derived.Test.YtfoponahdidddaaqSwapApart15
import Derived.Test.YtfoponahdidddaaqSwapApart3
import Derived.Test.YtfoponahdidddaaqSwapApart8
import Derived.WalkKit
import Derived.ProofKit
import Derived.OpenShut
import Derived.ShutString
import Derived.ChangeOld
import Derived.Below
import Derived.SizedLaws
import Derived.JoinedCond
set_option linter.unusedVariables false
set_option linter.unusedSimpArgs false
namespace Go.Proofs.Ytfoponahdidddaa.P
open Go.RowKit Go.Proofs.YtfoponahdidddaaW.PrintWords Go.Proofs.YtfoponahdidddaaW.PrintLast Go.Proofs.YtfoponahdidddaaW.PrintMore
def SwapApart.Pure : Prop := ∀ (a0 : Int) (a1 : Int) (a2 : Int) (a3 : Int) (a4 : Bool), ((fun n => (Lit.int .i64 n).wf = true) a0) → ((fun n => (Lit.int .i64 n).wf = true) a1) → ((fun n => (Lit.int .i64 n).wf = true) a2) → ((fun n => (Lit.int .i64 n).wf = true) a3) → (fun _ => 1) a0 + (fun _ => 1) a1 + (fun _ => 1) a2 + (fun _ => 1) a3 + (fun _ => 1) a4 ≤ 1048576 → ∃ k, patchworklaw15_SwapApart.f k a0 a1 a2 a3 a4 = some true
end Go.Proofs.Ytfoponahdidddaa.P
namespace Go.Proofs.Ytfoponahdidddaa.P
open Go.RowKit Go.Proofs.YtfoponahdidddaaW.PrintWords Go.Proofs.YtfoponahdidddaaW.PrintLast Go.Proofs.YtfoponahdidddaaW.PrintMore
def comeL (n : Nat) (t : ByteArray) : List Op := List.replicate n ⟨4, 0, t⟩
theorem come_loop (t : ByteArray) : ∀ (m i : Nat), i + m ≤ 1000 → Ev (fun k => patchworklaw15_come.l0 k ((i + m : Nat) : Int) t (comeL i t) (i : Int)) (comeL (i + m) t)
 | 0, i, h => by
  have c : ¬ (i : Int) < ((i + 0 : Nat) : Int) := by omega
  refine Ev.step (fun k => rfl) ?_
  simp only [patchworklaw15_come.l0, if_neg c]
  exact Ev.now _
 | m + 1, i, h => by
  have i1 := come_loop t m (i + 1) (by omega)
  rw [show i + 1 + m = i + (m + 1) from by omega] at i1
  have c : (i : Int) < ((i + (m + 1) : Nat) : Int) := by omega
  have l : (comeL i t).length < 4398046511104 := by unfold comeL; rw [List.length_replicate]; omega
  have w : wrap64 ((i : Int) + 1) = ((i + 1 : Nat) : Int) := by rw [wrap_small (by omega) (by omega)]; omega
  have e : comeL i t ++ [⟨4, 0, t⟩] = comeL (i + 1) t := by unfold comeL; rw [List.replicate_succ']
  refine Ev.step (fun k => rfl) ?_
  simp only [patchworklaw15_come.l0, if_pos c, if_pos l, w, e]
  exact i1
theorem come_ev (t : ByteArray) {n : Nat} (h : n ≤ 1000) : Ev (fun k => patchworklaw15_come.f k (n : Int) t) (comeL n t) := by
 have := come_loop t n 0 (by omega)
 rw [Nat.zero_add] at this
 exact this
theorem come_len (n : Nat) (t : ByteArray) : (comeL n t).length = n := by simp [comeL]
def tx : ByteArray := ⟨#[120, 10]⟩
def ty : ByteArray := ⟨#[121, 10]⟩
theorem sx_row {a : Int} {n : Nat} {t : ByteArray} (hn : n ≤ 1000) (ht : t.size < 1073741824) : Sx ((⟨1, a, ⟨#[]⟩⟩ : Op) :: comeL n t) := by
 refine ⟨by rw [List.length_cons, come_len]; omega, fun o ho => ?_⟩
 rcases List.mem_cons.mp ho with rfl | ho
 ·exact (by decide : (0 : Nat) < 1073741824)
 ·rw [List.eq_of_mem_replicate ho]; exact ht
theorem ex_row {a n : Nat} {t : ByteArray} : ex ((⟨1, (a : Int), ⟨#[]⟩⟩ : Op) :: comeL n t) = skU a ++ inU n t := by
 rw [ex_sk (by omega), comeL, ex_in, Int.toNat_natCast]
theorem form_row {a : Nat} (ha : 1 ≤ a) (n : Nat) (t : ByteArray) : ∀ o ∈ (⟨1, (a : Int), ⟨#[]⟩⟩ : Op) :: comeL n t, formO o := by
 intro o ho
 rcases List.mem_cons.mp ho with rfl | ho
 ·exact .inl ⟨rfl, by show (1 : Int) ≤ (a : Int); omega, rfl⟩
 ·rw [List.eq_of_mem_replicate ho]; exact .inr ⟨.inr (.inr rfl), rfl⟩
theorem right_row {a n : Nat} {t : ByteArray} (ha : 1 ≤ a) (h1 : a + n ≤ 1000000) (ht : fineU (.ins t) = true) : rightL ((⟨1, (a : Int), ⟨#[]⟩⟩ : Op) :: comeL n t) = true := by
 rw [right_iff (form_row ha n t), ex_row]
 refine fine_right ?_ ?_
 ·rw [List.all_append, fine_sk, fine_in ht]; rfl
 ·rw [List.length_append, List.length_replicate, List.length_replicate]; omega
theorem pack_row {a n : Nat} {t : ByteArray} (ha : 0 < a) (hn : 0 < n) : pack (skU a ++ inU n t) = (⟨1, (a : Int), ⟨#[]⟩⟩ : Op) :: comeL n t := by
 have h := noSk_in hn t []
 rw [List.append_nil] at h
 have p := pack_in t n []
 rw [List.append_nil] at p
 rw [pack_sk ha _ h, p]
 show _ :: (comeL n t ++ []) = _
 rw [List.append_nil]
theorem ends_in {n : Nat} (hn : 0 < n) (t : ByteArray) (u : List U) : u ++ inU n t = [] ∨ ∃ w x, u ++ inU n t = w ++ [x] ∧ isSkip x = false := by
 cases n with
 | zero => omega
 | succ n => exact .inr ⟨u ++ inU n t, .ins t, by show u ++ List.replicate (n + 1) _ = _; rw [List.replicate_succ', ← List.append_assoc], rfl⟩
theorem nf_row {a n : Nat} (ha : 0 < a) (t : ByteArray) : nf [] (skU a ++ inU n t) = skU a ++ inU n t := by
 rw [nf_sk ha, List.nil_append]
 have := nf_in t n [] []
 rw [List.append_nil, List.nil_append] at this
 rw [this, nf]
theorem trim_row {l : List Op} {a n m : Nat} {t : ByteArray} {u : List U} (hr : rightL l = true) (he : ex l = nf [] u) (ha : 0 < a) (hn : 0 < n) (hb : blkU u = skU a ++ inU n t ++ skU m) : trimL l 0 = (⟨1, (a : Int), ⟨#[]⟩⟩ : Op) :: comeL n t := by
 rw [trim0 hr, he, nf_blk]
 show restL (pack (nf [] (nf [] (blkU u)))) = _
 rw [nf_idem, hb, nf_tail, nf_row ha, rest_pack (ends_in hn t _) m, pack_row ha hn]
theorem rest_row {a : Int} {n : Nat} (hn : 0 < n) (t : ByteArray) : restL ((⟨1, a, ⟨#[]⟩⟩ : Op) :: comeL n t) = (⟨1, a, ⟨#[]⟩⟩ : Op) :: comeL n t := by
 cases n with
 | zero => omega
 | succ n =>
  have e : comeL (n + 1) t = comeL n t ++ [⟨4, 0, t⟩] := by unfold comeL; rw [List.replicate_succ']
  rw [e, ← List.cons_append]
  exact rest_ne (by show (4 : Int) ≠ 1; decide)
theorem apart_end {p q x y : List Op} (hp : Sx p) (hq : Sx q) (hl : p.length + q.length ≤ 100000) (sy : Sm y) (ly : y.length ≤ 100000) (lx : x.length ≤ 100000) (h0 : (swapL p q).2.2 = 0) (h1 : trimL (swapL p q).1 0 = x) (h2 : trimL (swapL p q).2.1 0 = restL y) :
  Ev (fun k => patchworklaw15_SwapApart.j1 k p q x y) true := by
 obtain ⟨sa, sb⟩ := hp.swap hq (by omega)
 have l1 := (swap_len hp hq).1.1
 have l2 := (swap_len hp hq).2.1
 have n1 := trim_le (l := (swapL p q).1) 0
 have n2 := trim_le (l := (swapL p q).2.1) 0
 refine Ev.step (fun k => rfl) ?_
 simp only [patchworklaw15_SwapApart.j1]
 refine Ev.bind' (pswap_ev hp hq) ?_
 simp only [num_val, Option.bind_some, if_pos h0]
 refine Ev.bind' (reftrim_ev sa.sm 0) ?_
 refine Ev.bind' (same_ev _ _ (by omega)) ?_
 rw [h1]
 simp only [decide_true, if_true]
 refine Ev.bind' (reftrim_ev sb.sm 0) ?_
 refine Ev.bind' (refrest_ev sy) ?_
 refine Ev.bind' (same_ev _ _ (by omega)) ?_
 rw [h2]
 simp only [decide_true]
 exact Ev.now true
theorem apart_told {p q : List Op} {W : List TU} {a n m m2 : Nat} {t s : ByteArray} (hp : Sx p) (hq : Sx q) (rp : rightL p = true) (rq : rightL q = true) (hW : cmpT (ex p) false (ex q) = some W) (h3 : no3 W) (ht : touchT 0 W = false)
  (fa : (allT W).all fineU = true) (la : (allT W).length ≤ 1000000) (ff : (fstT W).all fineU = true) (lf : (fstT W).length ≤ 1000000) (fs : (sndT W).all fineU = true) (ls : (sndT W).length ≤ 1000000)
  (ha : 0 < a) (hn : 0 < n) (b1 : blkU (fstT W) = skU a ++ inU n t ++ skU m) {c k : Nat} (hc : 0 < c) (hk : 0 < k) (b2 : blkU (sndT W) = skU c ++ inU k s ++ skU m2) :
  (swapL p q).2.2 = 0 ∧ trimL (swapL p q).1 0 = (⟨1, (a : Int), ⟨#[]⟩⟩ : Op) :: comeL n t ∧ trimL (swapL p q).2.1 0 = (⟨1, (c : Int), ⟨#[]⟩⟩ : Op) :: comeL k s := by
 have r1 := fine_right ff (by omega)
 have r2 := fine_right fs (by omega)
 have r0 : rightU (un W) = true := by rw [un_no3 h3]; exact fine_right fa (by omega)
 have v := (((swap_val hp hq rp rq hW).2 r0).2 h3).2 ht
 rw [if_pos ⟨r1, r2⟩] at v
 rw [v]
 refine ⟨rfl, ?_, ?_⟩
 ·exact trim_row (by rw [right_pack, rightU_nf]; exact r1) (ex_pack _) ha hn b1
 ·exact trim_row (by rw [right_pack, rightU_nf]; exact r2) (ex_pack _) hc hk b2
theorem no3_app {a b : List TU} (ha : no3 a) (hb : no3 b) : no3 (a ++ b) := fun x hx => by
 rcases List.mem_append.mp hx with h | h
 ·exact ha x h
 ·exact hb x h
theorem no3_sk (n : Nat) : no3 (skT n) := fun x hx => by rw [List.eq_of_mem_replicate hx]; decide
theorem no3_in {n : Nat} {t : ByteArray} {b : Int} (h : b ≠ 3) : no3 (inT n t b) := fun x hx => by rw [List.eq_of_mem_replicate hx]; exact h
theorem allT_app (a b : List TU) : allT (a ++ b) = allT a ++ allT b := by simp [allT]
theorem allT_sk (n : Nat) : allT (skT n) = skU n := by simp [allT, skT, skU]
theorem allT_in (n : Nat) (t : ByteArray) (b : Int) : allT (inT n t b) = inU n t := by simp [allT, inT, inU]
theorem fx : fineU (.ins tx) = true := by decide
theorem fy : fineU (.ins ty) = true := by decide
theorem ox : openT tx = false := by decide
theorem oy : openT ty = false := by decide
theorem fst_nil : fstT [] = [] := rfl
theorem snd_nil : sndT [] = [] := rfl
theorem kfine {t : ByteArray} (h : fineU (.ins t) = true) (n : Nat) : (List.replicate n (U.keep t)).all fineU = true := by
 rw [List.all_eq_true]
 intro x hx
 rw [List.eq_of_mem_replicate hx]; exact h
theorem sk_add (a b : Nat) (u : List U) : skU a ++ (skU b ++ u) = skU (a + b) ++ u := by
 rw [← List.append_assoc, List.replicate_append_replicate]
theorem sk_add0 (a b : Nat) : skU a ++ skU b = skU (a + b) := List.replicate_append_replicate
theorem ahead {at_ far many more : Nat} (h1 : 1 ≤ at_) (h2 : at_ ≤ 1000) (h3 : 1 ≤ far) (h4 : far ≤ 1000) (h5 : 1 ≤ many) (h6 : many ≤ 20) (h7 : 1 ≤ more) (h8 : more ≤ 20) :
  Ev (fun k => patchworklaw15_SwapApart.j1 k ((⟨1, (at_ : Int), ⟨#[]⟩⟩ : Op) :: comeL many tx) ((⟨1, ((at_ + many + far : Nat) : Int), ⟨#[]⟩⟩ : Op) :: comeL more ty) ((⟨1, ((at_ + far : Nat) : Int), ⟨#[]⟩⟩ : Op) :: comeL more ty) (((⟨1, (at_ : Int), ⟨#[]⟩⟩ : Op) :: comeL many tx) ++ [⟨1, (far : Int), ⟨#[]⟩⟩])) true := by
 have hp : Sx ((⟨1, (at_ : Int), ⟨#[]⟩⟩ : Op) :: comeL many tx) := sx_row (by omega) (by decide)
 have hq : Sx ((⟨1, ((at_ + many + far : Nat) : Int), ⟨#[]⟩⟩ : Op) :: comeL more ty) := sx_row (by omega) (by decide)
 have rp : rightL ((⟨1, (at_ : Int), ⟨#[]⟩⟩ : Op) :: comeL many tx) = true := right_row h1 (by omega) fx
 have rq : rightL ((⟨1, ((at_ + many + far : Nat) : Int), ⟨#[]⟩⟩ : Op) :: comeL more ty) = true := right_row (by omega) (by omega) fy
 have hW : cmpT (ex ((⟨1, (at_ : Int), ⟨#[]⟩⟩ : Op) :: comeL many tx)) false (ex ((⟨1, ((at_ + many + far : Nat) : Int), ⟨#[]⟩⟩ : Op) :: comeL more ty)) = some (skT at_ ++ (inT many tx 1 ++ (skT far ++ inT more ty 2))) := by
  have e := cmp_inQ (p := []) noD_nil ty more []
  rw [List.append_nil, cmpT_nil, Option.map_some, List.append_nil] at e
  rw [ex_row, ex_row, ← sk_add0, ← sk_add0, List.append_assoc, List.append_assoc, cmp_sk, cmp_inL ox, cmp_skR, e]; rfl
 have eT : allT (skT at_ ++ (inT many tx 1 ++ (skT far ++ inT more ty 2))) = skU at_ ++ (inU many tx ++ (skU far ++ inU more ty)) := by
  rw [allT_app, allT_app, allT_app, allT_sk, allT_sk, allT_in, allT_in]
 have eF : fstT (skT at_ ++ (inT many tx 1 ++ (skT far ++ inT more ty 2))) = skU at_ ++ (skU far ++ inU more ty) := by
  have := fst_in2 ty more []
  rw [List.append_nil, fst_nil, List.append_nil] at this
  rw [fst_skips, fst_in1, fst_skips, this]
 have eS : sndT (skT at_ ++ (inT many tx 1 ++ (skT far ++ inT more ty 2))) = skU at_ ++ (inU many tx ++ (skU far ++ List.replicate more (.keep ty))) := by
  have := snd_in2 ty more []
  rw [List.append_nil, snd_nil, List.append_nil] at this
  rw [snd_skips, snd_in1, snd_skips, this]
 obtain ⟨t0, t1, t2⟩ := apart_told (a := at_ + far) (n := more) (m := 0) (m2 := far + more) (c := at_) (k := many) (t := ty) (s := tx) hp hq rp rq hW
  (no3_app (no3_sk _) (no3_app (no3_in (by decide)) (no3_app (no3_sk _) (no3_in (by decide)))))
  (by
   rw [touch_sk (by omega)]
   refine touch_in many 0 _ (.inl rfl) fun d _ => ?_
   rw [touch_sk (by omega)]
   have := touch_in (t := ty) (c := 2) more 0 [] (.inl rfl) (fun d _ => rfl)
   rwa [List.append_nil] at this)
  (by rw [eT, List.all_append, List.all_append, List.all_append, fine_sk, fine_sk, fine_in fx, fine_in fy]; rfl)
  (by rw [eT]; simp only [List.length_append, List.length_replicate]; omega)
  (by rw [eF, List.all_append, List.all_append, fine_sk, fine_sk, fine_in fy]; rfl)
  (by rw [eF]; simp only [List.length_append, List.length_replicate]; omega)
  (by rw [eS, List.all_append, List.all_append, List.all_append, fine_sk, fine_sk, fine_in fx, kfine fy]; rfl)
  (by rw [eS]; simp only [List.length_append, List.length_replicate]; omega)
  (by omega) (by omega)
  (by rw [eF, blk_app, blk_app, blk_sk, blk_sk, blk_in, sk_add]; simp)
  (by omega) (by omega)
  (by rw [eS, blk_app, blk_app, blk_app, blk_sk, blk_sk, blk_in, blk_keep, sk_add0]; simp)
 refine apart_end hp hq (by simp only [List.length_cons, come_len]; omega) ?_ (by simp only [List.length_append, List.length_cons, come_len, List.length_nil]; omega) (by simp only [List.length_cons, come_len]; omega) t0 t1 ?_
 ·refine ⟨by simp only [List.length_append, List.length_cons, come_len, List.length_nil]; omega, fun o ho => ?_⟩
  rcases List.mem_append.mp ho with h | h
  ·exact hp.sm.2 o h
  ·rw [List.mem_singleton.mp h]; exact (by decide : (0 : Nat) < 4611686018427387904)
 ·rw [t2, rest_skip rfl, rest_row (by omega)]
theorem behind {at_ far many more : Nat} (h1 : 1 ≤ at_) (h2 : at_ ≤ 1000) (h3 : 1 ≤ far) (h4 : far ≤ 1000) (h5 : 1 ≤ many) (h6 : many ≤ 20) (h7 : 1 ≤ more) (h8 : more ≤ 20) :
  Ev (fun k => patchworklaw15_SwapApart.j1 k ((⟨1, ((at_ + far : Nat) : Int), ⟨#[]⟩⟩ : Op) :: comeL many tx) ((⟨1, (at_ : Int), ⟨#[]⟩⟩ : Op) :: comeL more ty) ((⟨1, (at_ : Int), ⟨#[]⟩⟩ : Op) :: comeL more ty) ((⟨1, ((at_ + more + far : Nat) : Int), ⟨#[]⟩⟩ : Op) :: comeL many tx)) true := by
 have hp : Sx ((⟨1, ((at_ + far : Nat) : Int), ⟨#[]⟩⟩ : Op) :: comeL many tx) := sx_row (by omega) (by decide)
 have hq : Sx ((⟨1, (at_ : Int), ⟨#[]⟩⟩ : Op) :: comeL more ty) := sx_row (by omega) (by decide)
 have rp : rightL ((⟨1, ((at_ + far : Nat) : Int), ⟨#[]⟩⟩ : Op) :: comeL many tx) = true := right_row (by omega) (by omega) fx
 have rq : rightL ((⟨1, (at_ : Int), ⟨#[]⟩⟩ : Op) :: comeL more ty) = true := right_row (by omega) (by omega) fy
 have hW : cmpT (ex ((⟨1, ((at_ + far : Nat) : Int), ⟨#[]⟩⟩ : Op) :: comeL many tx)) false (ex ((⟨1, (at_ : Int), ⟨#[]⟩⟩ : Op) :: comeL more ty)) = some (skT at_ ++ (inT more ty 2 ++ (skT far ++ inT many tx 1))) := by
  have nd : NoD (skU far ++ inU many tx) := by
   cases far with
   | zero => omega
   | succ far => exact fun s r h => by simp [skU, List.replicate_succ] at h
  have e := cmp_inQ nd ty more []
  rw [List.append_nil, cmp_skL, cmp_inE ox, Option.map_some, Option.map_some] at e
  rw [ex_row, ex_row, ← sk_add0, List.append_assoc, cmp_sk, e]; rfl
 have eT : allT (skT at_ ++ (inT more ty 2 ++ (skT far ++ inT many tx 1))) = skU at_ ++ (inU more ty ++ (skU far ++ inU many tx)) := by
  rw [allT_app, allT_app, allT_app, allT_sk, allT_sk, allT_in, allT_in]
 have eF : fstT (skT at_ ++ (inT more ty 2 ++ (skT far ++ inT many tx 1))) = skU at_ ++ (inU more ty ++ skU far) := by
  have := fst_in1 tx many []
  rw [List.append_nil, fst_nil] at this
  rw [fst_skips, fst_in2, fst_skips, this, List.append_nil]
 have eS : sndT (skT at_ ++ (inT more ty 2 ++ (skT far ++ inT many tx 1))) = skU at_ ++ (List.replicate more (.keep ty) ++ (skU far ++ inU many tx)) := by
  have := snd_in1 tx many []
  rw [List.append_nil, snd_nil, List.append_nil] at this
  rw [snd_skips, snd_in2, snd_skips, this]
 obtain ⟨t0, t1, t2⟩ := apart_told (a := at_) (n := more) (m := far) (m2 := 0) (c := at_ + more + far) (k := many) (t := ty) (s := tx) hp hq rp rq hW
  (no3_app (no3_sk _) (no3_app (no3_in (by decide)) (no3_app (no3_sk _) (no3_in (by decide)))))
  (by
   rw [touch_sk (by omega)]
   refine touch_in more 0 _ (.inl rfl) fun d _ => ?_
   rw [touch_sk (by omega)]
   have := touch_in (t := tx) (c := 1) many 0 [] (.inl rfl) (fun d _ => rfl)
   rwa [List.append_nil] at this)
  (by rw [eT, List.all_append, List.all_append, List.all_append, fine_sk, fine_sk, fine_in fx, fine_in fy]; rfl)
  (by rw [eT]; simp only [List.length_append, List.length_replicate]; omega)
  (by rw [eF, List.all_append, List.all_append, fine_sk, fine_sk, fine_in fy]; rfl)
  (by rw [eF]; simp only [List.length_append, List.length_replicate]; omega)
  (by rw [eS, List.all_append, List.all_append, List.all_append, fine_sk, fine_sk, fine_in fx, kfine fy]; rfl)
  (by rw [eS]; simp only [List.length_append, List.length_replicate]; omega)
  (by omega) (by omega)
  (by rw [eF, blk_app, blk_app, blk_sk, blk_sk, blk_in]; simp)
  (by omega) (by omega)
  (by rw [eS, blk_app, blk_app, blk_app, blk_sk, blk_sk, blk_in, blk_keep, sk_add, sk_add]; simp [Nat.add_assoc])
 refine apart_end hp hq (by simp only [List.length_cons, come_len]; omega) ?_ (by simp only [List.length_cons, come_len]; omega) (by simp only [List.length_cons, come_len]; omega) t0 t1 ?_
 ·exact (sx_row (t := tx) (by omega) (by decide)).sm
 ·rw [t2, rest_row (by omega)]
theorem wrap_nat {a b : Nat} (h : a + b ≤ 1000000) : wrap64 ((a : Int) + (b : Int)) = ((a + b : Nat) : Int) := by rw [wrap_small (by omega) (by omega)]; omega
theorem SwapApart.out (a b c d : Int) (e : Bool) : Ev (fun k => patchworklaw15_SwapApart.j0 k a b c d e true true) true := by
 refine Ev.step (fun k => rfl) ?_
 simp only [patchworklaw15_SwapApart.j0, if_true]
 exact Ev.now true
theorem SwapApart.proved : SwapApart.Pure := by
 intro a b c d e _ _ _ _ _
 refine Ev.rounds ?_
 simp only [patchworklaw15_SwapApart.f]
 refine Ev.bind' alive15 ?_
 simp only [if_true]
 have out := SwapApart.out a b c d e
 by_cases a1 : a < 1
 ·simp only [if_pos a1]; exact out
 simp only [if_neg a1]
 by_cases a2 : a > 1000
 ·simp only [if_pos a2]; exact out
 simp only [if_neg a2]
 by_cases b1 : b < 1
 ·simp only [if_pos b1]; exact out
 simp only [if_neg b1]
 by_cases b2 : b > 1000
 ·simp only [if_pos b2]; exact out
 simp only [if_neg b2]
 by_cases c1 : c < 1
 ·simp only [if_pos c1]; exact out
 simp only [if_neg c1]
 by_cases c2 : c > 20
 ·simp only [if_pos c2]; exact out
 simp only [if_neg c2]
 by_cases d1 : d < 1
 ·simp only [if_pos d1]; exact out
 simp only [if_neg d1]
 by_cases d2 : d > 20
 ·simp only [d2, decide_true]; exact out
 simp only [d2, decide_false]
 obtain ⟨at_, rfl⟩ : ∃ n : Nat, a = (n : Int) := ⟨a.toNat, by omega⟩
 obtain ⟨far, rfl⟩ : ∃ n : Nat, b = (n : Int) := ⟨b.toNat, by omega⟩
 obtain ⟨many, rfl⟩ : ∃ n : Nat, c = (n : Int) := ⟨c.toNat, by omega⟩
 obtain ⟨more, rfl⟩ : ∃ n : Nat, d = (n : Int) := ⟨d.toNat, by omega⟩
 have l1 : ∀ o : Op, [o].length + (comeL many tx).length < 4398046511104 := fun o => by rw [come_len]; simp only [List.length_singleton]; omega
 have l2 : ∀ o : Op, [o].length + (comeL more ty).length < 4398046511104 := fun o => by rw [come_len]; simp only [List.length_singleton]; omega
 have l3 : ∀ o : Op, ([o] ++ comeL many tx).length < 4398046511104 := fun o => by rw [List.length_append]; exact l1 o
 have m1 : many ≤ 1000 := by omega
 have m2 : more ≤ 1000 := by omega
 have ha := ahead (at_ := at_) (far := far) (many := many) (more := more) (by omega) (by omega) (by omega) (by omega) (by omega) (by omega) (by omega) (by omega)
 have hb := behind (at_ := at_) (far := far) (many := many) (more := more) (by omega) (by omega) (by omega) (by omega) (by omega) (by omega) (by omega) (by omega)
 have g1 : at_ + many ≤ 1000000 := by omega
 have g2 : at_ + many + far ≤ 1000000 := by omega
 have g3 : at_ + far ≤ 1000000 := by omega
 have g4 : at_ + more ≤ 1000000 := by omega
 have g5 : at_ + more + far ≤ 1000000 := by omega
 have w1 : wrap64 ((at_ : Int) + (many : Int)) = ((at_ + many : Nat) : Int) := wrap_nat g1
 have w2 : wrap64 (((at_ + many : Nat) : Int) + (far : Int)) = ((at_ + many + far : Nat) : Int) := wrap_nat g2
 have w3 : wrap64 ((at_ : Int) + (far : Int)) = ((at_ + far : Nat) : Int) := wrap_nat g3
 have w4 : wrap64 ((at_ : Int) + (more : Int)) = ((at_ + more : Nat) : Int) := wrap_nat g4
 have w5 : wrap64 (((at_ + more : Nat) : Int) + (far : Int)) = ((at_ + more + far : Nat) : Int) := wrap_nat g5
 refine Ev.step (fun k => rfl) ?_
 simp only [patchworklaw15_SwapApart.j0, Bool.false_eq_true, if_false]
 refine Ev.bind' (come_ev tx m1) ?_
 refine Ev.bind' (come_ev ty m2) ?_
 simp only [w1, w2, w3, w4, w5, Option.bind_some, l1, l2, l3, if_true]
 cases e
 ·simp only [Bool.false_eq_true, if_false]
  exact ha
 ·simp only [if_true]
  exact hb
end Go.Proofs.Ytfoponahdidddaa.P
namespace Go.Proofs.Ytfoponahdidddaa.P.swapApart
open Go.ChangeShapes Go.WideShapes Go.ChangeAt Go.RowKit Go.Proofs.Ytfoponahdidddaa.P Go.Proofs.YtfoponahdidddaaW.PrintWords
open Go.ChangeMaps (open_string shut_string)
theorem own : ownKnob Try.prog.godebug = none := by kernel_rfl
set_option maxRecDepth 100000 in
theorem contract (H : Type) (enc : TypeId × Value → H) (W : World) (base : Nat) (args : Array Value) (ds gs : List (DataW H)) (before : List MemPlace)
  (hval : ∀ (j : Nat) t v, Try.f8.params[j]? = some t → args[j]? = some v → Value.okWide Try.prog W .any base t v)
  (hW : DataW.Whole enc Try.prog Try.f8.params.toList Rows.swapApartSpec.vars false W args.toList ds gs before) (hk : Rows.uptoSmall H (ds ++ gs) = true) :
  Calls Try.prog 8 args W fun e W' => ∃ v, e = .returned v ∧ Rows.swapApartSpec.post enc Try.prog Try.f8 false true false false W args v W' := by
 have hW' := hW
 obtain ⟨p, q, hA0, hV, rfl, hfz, hnd⟩ := hW
 have hA : DataW.TrodAll enc Try.prog W 0 (fun _ => true) true Try.f8.params.toList args.toList ds p := hA0
 rw [Try.params8] at hA hval
 obtain ⟨v0, vs0, d0, ds0, p0, q0, hargs, rfl, rfl, h0, r0⟩ := trodAll_cons hA
 obtain ⟨v1, vs1, d1, ds1, p1, q1, rfl, rfl, rfl, h1, r1⟩ := trodAll_cons r0
 obtain ⟨v2, vs2, d2, ds2, p2, q2, rfl, rfl, rfl, h2, r2⟩ := trodAll_cons r1
 obtain ⟨v3, vs3, d3, ds3, p3, q3, rfl, rfl, rfl, h3, r3⟩ := trodAll_cons r2
 obtain ⟨v4, vs4, d4, ds4, p4, q4, rfl, rfl, rfl, h4, r4⟩ := trodAll_cons r3
 obtain ⟨rfl, rfl, rfl⟩ := trodAll_nil r4
 obtain rfl : args = #[v0, v1, v2, v3, v4] := by cases args; simp_all
 obtain ⟨rfl, rfl⟩ := trodVars_none hV
 have hb := small_all hk
 simp only [List.append_nil, Rows.uptoBulkAll] at hb
 obtain ⟨a0, rfl, rfl, rfl, ok0⟩ := open_int Try.underlying3 (hval 0 3 v0 rfl rfl) h0
 have wt0 : 1 ≤ Rows.uptoBulk (DataW.lit (H := H) (.int .i64 a0)) := by simp [Rows.uptoBulk]
 obtain ⟨a1, rfl, rfl, rfl, ok1⟩ := open_int Try.underlying3 (hval 1 3 v1 rfl rfl) h1
 have wt1 : 1 ≤ Rows.uptoBulk (DataW.lit (H := H) (.int .i64 a1)) := by simp [Rows.uptoBulk]
 obtain ⟨a2, rfl, rfl, rfl, ok2⟩ := open_int Try.underlying3 (hval 2 3 v2 rfl rfl) h2
 have wt2 : 1 ≤ Rows.uptoBulk (DataW.lit (H := H) (.int .i64 a2)) := by simp [Rows.uptoBulk]
 obtain ⟨a3, rfl, rfl, rfl, ok3⟩ := open_int Try.underlying3 (hval 3 3 v3 rfl rfl) h3
 have wt3 : 1 ≤ Rows.uptoBulk (DataW.lit (H := H) (.int .i64 a3)) := by simp [Rows.uptoBulk]
 obtain ⟨a4, rfl, rfl, rfl⟩ := open_bool Try.underlying4 (hval 4 4 v4 rfl rfl) h4
 have wt4 : 1 ≤ Rows.uptoBulk (DataW.lit (H := H) (.bool a4)) := by simp [Rows.uptoBulk]
 clear hA0 hval
 obtain ⟨k, hp⟩ := SwapApart.proved a0 a1 a2 a3 a4 ok0 ok1 ok2 ok3 (by simp only [] at *; omega)
 refine (patchworklaw15_SwapApart.calls k a0 a1 a2 a3 a4 true W hp).mono fun e W' ⟨he, bel0⟩ => ?_
 have bel : Below W.heap.size W W' := bel0
 subst he
 exact ⟨_, rfl, _, _, _, [], _, [], hW', trodAll_mk1 (shut_bool Try.underlying4 _), (trodAll_cons_mk (shut_int Try.underlying3 ok0) (trodAll_cons_mk (shut_int Try.underlying3 ok1) (trodAll_cons_mk (shut_int Try.underlying3 ok2) (trodAll_cons_mk (shut_int Try.underlying3 ok3) (trodAll_cons_mk (shut_bool Try.underlying4 _) trodAll_mk0))))), rfl, bel.frame _, fun h => by cases h⟩
set_option maxRecDepth 100000 in
theorem lifted (os : Os) (started : os.Started) (H : Type) (enc : TypeId × Value → H) (F : Stop.Interp) :
  ReturnsInHanded {} Try.checked os 8 .any ((Rows.OpenSpec.upto Rows.swapApartSpec).pre6 enc Try.prog Try.f8 Rows.swapApartUptoRow.domain false) (((Rows.OpenSpec.upto Rows.swapApartSpec).at F).post enc Try.prog Try.f8 false true false false) := by
 refine returnsInHanded_of_cond (C := Try.checked) (s := Rows.OpenSpec.upto Rows.swapApartSpec) (k := Rows.uptoSmall) rfl own started (by kernel_rfl) Try.func8
  (OpenSpec.witness (enc := enc) (C := Try.checked) (s := Rows.OpenSpec.upto Rows.swapApartSpec) (k := Rows.uptoSmall) rfl false ⟨#[], #[.int .i64 0, .int .i64 0, .int .i64 0, .int .i64 0, .bool false], []⟩ 8 (by kernel_rfl) (by kernel_rfl) (by kernel_rfl)
   (x := ([.lit (.int .i64 0), .lit (.int .i64 0), .lit (.int .i64 0), .lit (.int .i64 0), .lit (.bool false)], [], [])) (by kernel_rfl) rfl (by kernel_rfl)) ?_
 intro W base args ds gs before hval hW _ hk _
 exact contract H enc W base args ds gs before hval hW hk
theorem over : Rows.swapApartUptoRow.holds Try.pinned (Rows.OpenSpec.upto Rows.swapApartSpec) :=
 OpenClaim.holds_of_cond 8 Try.f8 rfl rfl rfl rfl rfl rfl rfl ⟨rfl, rfl, rfl, rfl, rfl⟩ rfl rfl rfl rfl rfl (by kernel_rfl) Try.func8 (by kernel_rfl)
  (of_decide_eq_true (by kernel_rfl)) (by unfold Func.isWrapper; first | (rw [if_pos (by decide +kernel)]; kernel_rfl) | (rw [if_neg (by decide +kernel)]; exact ⟨rfl, rfl⟩))
  (fun os started H enc _ F => lifted os started H enc F)
theorem proved : Rows.SwapApartUptoSaid := over
end Go.Proofs.Ytfoponahdidddaa.P.swapApart
namespace Go.Proofs.Ytfoponahdidddaa
theorem swapApart_holds : Rows.SwapApartUptoSaid := P.swapApart.proved
#print axioms swapApart_holds
end Go.Proofs.Ytfoponahdidddaa
