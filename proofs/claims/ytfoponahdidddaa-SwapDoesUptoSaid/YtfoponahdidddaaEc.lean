/- Own: both, one behind the other: the program's and the reference's function. -/
import Derived.Test.YtfoponahdidddaaEa
import Derived.Test.YtfoponahdidddaaQb
import Derived.Test.YtfoponahdidddaaK
namespace Go.Proofs.Ytfoponahdidddaa.P
open Go.RowKit Go.Proofs.YtfoponahdidddaaW.PrintWords Go.Proofs.YtfoponahdidddaaW.PrintLast Go.Proofs.YtfoponahdidddaaW.PrintMore
set_option linter.unusedSimpArgs false
set_option linter.unusedVariables false

theorem told_loop (s : List Step) : ∀ (p : List Step) (out v : List Op) (b : Bool), (p ++ s).length < 1099511627777 → out.length ≤ p.length → out ++ stepsL s = v → Ev (fun k => ops_Right.f k v) b → Ev (fun k => compose_told.l0 k out (p ++ s) ((p ++ s).length : Int) (p.length : Int)) (v, b) := by
  induction s with
  | nil =>
    intro p out v b hb ho hv h
    have hv : out = v := by rw [← hv]; simp [stepsL]
    subst hv
    refine Ev.step (fun k => rfl) ?_
    simp only [compose_told.l0, lt_end, if_false]
    exact Ev.bind' h (Ev.now _)
  | cons x s ih =>
    intro p out v b hb ho hv h
    have hl := hb
    simp only [List.length_append, List.length_cons] at hl
    have i := fun out h1 h2 => ih (p ++ [x]) out v b (by simpa using hb) h1 h2 h
    rw [List.append_assoc, List.singleton_append] at i
    have w := wrap_len p x (by omega)
    have e : rd_Step (p ++ x :: s) (p.length : Int) = x := getD_mid p s x zStep
    rw [stepsL_cons] at hv
    have c : out.length < 4398046511104 := by omega
    refine Ev.step (fun k => rfl) ?_
    simp only [compose_told.l0, lt_mid, nn_nat, if_true, e, w, if_pos c]
    cases hg : x.f2
    · simp only [Bool.false_eq_true, if_false]
      refine i _ (by simp only [List.length_append, List.length_singleton]; omega) ?_
      rw [← hv, hg]; simp
    · simp only [if_true]
      refine i _ (by simp only [List.length_append, List.length_singleton]; omega) ?_
      rw [← hv, hg]; simp
theorem told_ev {os : List Step} (h : os.length ≤ 1099511627776) (hs : Sm (stepsL os)) : Ev (fun k => compose_told.f k os) (stepsL os, rightL (stepsL os)) :=
  told_loop os [] [] _ _ (by simpa using (by omega : os.length < 1099511627777)) (by simp) (by simp) (right_ev hs)
theorem pthen_ev {p q : List Op} (hp : Sx p) (hq : Sx q) : Ev (fun k => compose_Then.f k p q) (thenL p q) := by
  have hlen : p.length + q.length ≤ 1099511627776 := by have := hp.1; have := hq.1; omega
  cases rp : rightL p
  · have e : thenL p q = ([], false) := by unfold thenL; simp [rp]
    rw [e]
    refine Ev.bind' (a := ([], false)) ?_ ?_
    · refine Ev.bind' (right_ev hp.sm) ?_
      simp only [rp, Bool.false_eq_true, if_false]
      exact Ev.now _
    · simp only [Bool.false_eq_true, if_false]
      exact Ev.now _
  cases rq : rightL q
  · have e : thenL p q = ([], false) := by unfold thenL; simp [rq]
    rw [e]
    refine Ev.bind' (a := ([], false)) ?_ ?_
    · refine Ev.bind' (right_ev hp.sm) ?_
      simp only [rp, if_true]
      refine Ev.bind' (right_ev hq.sm) ?_
      simp only [rq, Bool.false_eq_true, if_false]
      exact Ev.now _
    · simp only [Bool.false_eq_true, if_false]
      exact Ev.now _
  have hW := okW_of (rightL_okX rp hp) (rightL_okX rq hq) hlen
  rcases walk_then hp hq rp rq with ⟨hw, e⟩ | ⟨os, hw, _, g1, g2, he, hf, hsm, hsk, hr, e⟩
  · rw [e]
    refine Ev.bind' (a := ([], false)) ?_ ?_
    · refine Ev.bind' (right_ev hp.sm) ?_
      simp only [rp, if_true]
      refine Ev.bind' (right_ev hq.sm) ?_
      simp only [rq, if_true, hW, hw]
      exact Ev.now _
    · simp only [Bool.false_eq_true, if_false]
      exact Ev.now _
  · rw [e]
    have ht := told_ev (os := os) (by omega) hsm
    cases hrs : rightL (stepsL os)
    · refine Ev.bind' (a := ([], false)) ?_ ?_
      · refine Ev.bind' (right_ev hp.sm) ?_
        simp only [rp, if_true]
        refine Ev.bind' (right_ev hq.sm) ?_
        simp only [rq, if_true, hW, hw]
        refine Ev.bind' ht ?_
        simp only [hrs, Bool.false_eq_true, if_false]
        exact Ev.now _
      · simp only [Bool.false_eq_true, if_false]
        exact Ev.now _
    · refine Ev.bind' (a := (os, true)) ?_ ?_
      · refine Ev.bind' (right_ev hp.sm) ?_
        simp only [rp, if_true]
        refine Ev.bind' (right_ev hq.sm) ?_
        simp only [rq, if_true, hW, hw]
        refine Ev.bind' ht ?_
        simp only [hrs, if_true]
        exact Ev.now _
      · simp only [if_true]
        refine Ev.bind' ht ?_
        refine Ev.bind' (norm_ev hsm) ?_
        simp only [hrs, if_true]
        exact Ev.now _
/-- The reference's. -/
def opsB (l : List By) : List Op := l.map (·.f0)
theorem opsB_byS (os : List Step) : opsB (byS os) = stepsL os := by
  unfold opsB byS stepsL
  rw [List.map_map]; rfl
theorem refops_loop (s : List By) : ∀ (p : List By), (p ++ s).length < 4398046511104 → Ev (fun k => patchworkref8_ops.l0 k (p ++ s) (opsB p) (p.length : Int)) (opsB (p ++ s)) := by
  induction s with
  | nil =>
    intro p _
    refine Ev.step (fun k => rfl) ?_
    simp only [patchworkref8_ops.l0, lt_end, if_false]
    rw [List.append_nil]
    exact Ev.now _
  | cons x s ih =>
    intro p hb
    have hl := hb
    simp only [List.length_append, List.length_cons] at hl
    have i := ih (p ++ [x]) (by simpa using hb)
    rw [List.append_assoc, List.singleton_append] at i
    have w := wrap_len p x (by omega)
    have e : rd_By (p ++ x :: s) (p.length : Int) = x := getD_mid p s x zBy
    have c : (opsB p).length < 4398046511104 := by unfold opsB; rw [List.length_map]; omega
    have eo : opsB p ++ [(⟨x.f0.f0, x.f0.f1, x.f0.f2⟩ : Op)] = opsB (p ++ [x]) := by simp [opsB]
    refine Ev.step (fun k => rfl) ?_
    simp only [patchworkref8_ops.l0, lt_mid, nn_nat, if_true, e, w, if_pos c, eo]
    exact i
theorem refops_ev {l : List By} (h : l.length < 4398046511104) : Ev (fun k => patchworkref8_ops.f k l) (opsB l) := refops_loop l [] h
theorem byS_len' (os : List Step) : (byS os).length ≤ os.length := by
  unfold byS
  rw [List.length_map]
  exact List.length_filter_le _ _
theorem refwalk_val {p q : List Op} (hp : Sx p) (hq : Sx q) (rp : rightL p = true) (rq : rightL q = true) : patchworkref8_walk.f p q = some (match walkO (p.length + q.length) p q false with | none => ([], false, false) | some os => (byS os, metS os, true)) := by
  have hlen : p.length + q.length ≤ 1099511627776 := by have := hp.1; have := hq.1; omega
  unfold patchworkref8_walk.f
  rw [if_pos (okR_of (rightL_okX rp hp) (rightL_okX rq hq) hlen)]
  cases walkO (p.length + q.length) p q false <;> rfl
theorem refthen_ev {p q : List Op} (hp : Sx p) (hq : Sx q) : Ev (fun k => patchworkref8_Then.f k p q) (thenL p q) := by
  cases rp : rightL p
  · have e : thenL p q = ([], false) := by unfold thenL; simp [rp]
    rw [e]
    refine Ev.bind' (refright_ev hp.sm) ?_
    simp only [rp, Bool.false_eq_true, if_false]
    refine Ev.step (fun k => rfl) ?_
    simp only [patchworkref8_Then.j0, if_true]
    exact Ev.now _
  cases rq : rightL q
  · have e : thenL p q = ([], false) := by unfold thenL; simp [rq]
    rw [e]
    refine Ev.bind' (refright_ev hp.sm) ?_
    simp only [rp, if_true]
    refine Ev.bind' (refright_ev hq.sm) ?_
    simp only [rq, Bool.not_false]
    refine Ev.step (fun k => rfl) ?_
    simp only [patchworkref8_Then.j0, if_true]
    exact Ev.now _
  refine Ev.bind' (refright_ev hp.sm) ?_
  simp only [rp, if_true]
  refine Ev.bind' (refright_ev hq.sm) ?_
  simp only [rq, Bool.not_true]
  refine Ev.step (fun k => rfl) ?_
  simp only [patchworkref8_Then.j0, Bool.false_eq_true, if_false]
  have hv := refwalk_val hp hq rp rq
  rcases walk_then hp hq rp rq with ⟨hw, e⟩ | ⟨os, hw, _, g1, g2, he, hf, hsm, hsk, hr, e⟩
  · rw [hw] at hv
    rw [e]
    refine Ev.bindN hv ?_
    refine Ev.bind' (refops_ev (l := []) (by simp)) ?_
    refine Ev.bind' (refnorm_ev (l := opsB []) Sm.nil (fun o ho => by simp [opsB] at ho) (by simp [opsB, skips])) ?_
    simp only [Bool.false_eq_true, if_false]
    exact Ev.now _
  · rw [hw] at hv
    rw [e]
    refine Ev.bindN hv ?_
    refine Ev.bind' (refops_ev (l := byS os) (by have := byS_len' os; have := hp.1; have := hq.1; omega)) ?_
    rw [opsB_byS]
    refine Ev.bind' (refnorm_ev hsm hf (by omega)) ?_
    simp only [if_true]
    have hn : rightL (normL (stepsL os)) = rightL (stepsL os) := by
      unfold normL
      rw [right_pack, rightU_nf, ← right_iff hf]
    refine Ev.bind' (refright_ev (Sm.norm hsm hf)) ?_
    rw [hn]
    cases rightL (stepsL os)
    · simp only [Bool.false_eq_true, if_false]; exact Ev.now _
    · simp only [if_true]; exact Ev.now _

/-- What two come to. -/
theorem thenL_some {p q : List Op} (h : (thenL p q).2 = true) : ∃ u, rightL p = true ∧ rightL q = true ∧ cmpU (ex p) false (ex q) = some u ∧ rightU u = true ∧ thenL p q = (pack (nf [] u), true) := by
  unfold thenL at h ⊢
  split at h
  · rename_i hr
    rw [if_pos hr]
    unfold thenU at h ⊢
    cases hc : cmpU (ex p) false (ex q) with
    | none => rw [hc] at h; simp at h
    | some u =>
      rw [hc] at h
      simp only [Option.bind_some] at h ⊢
      cases hu : rightU u
      · rw [hu] at h; simp at h
      · exact ⟨u, hr.1, hr.2, rfl, hu, by simp⟩
  · simp at h
theorem thenL_of {p q : List Op} {u : List U} (h1 : rightL p = true) (h2 : rightL q = true) (h3 : cmpU (ex p) false (ex q) = some u) (h4 : rightU u = true) : thenL p q = (pack (nf [] u), true) := by
  unfold thenL thenU
  rw [if_pos ⟨h1, h2⟩, h3]
  simp [h4]
theorem thenL_no {p q : List Op} (h : (thenL p q).2 = false) : thenL p q = ([], false) := by
  unfold thenL at h ⊢
  split
  · rename_i hr
    rw [if_pos hr] at h
    cases hu : thenU (ex p) (ex q) with
    | none => rfl
    | some u => rw [hu] at h; simp at h
  · rfl
theorem cmpU_mem : ∀ p q, ∀ (e : Bool) (w : List U), cmpU p e q = some w → ∀ x ∈ w, txU x = ByteArray.empty ∨ (∃ y ∈ p, txU x = txU y) ∨ ∃ y ∈ q, txU x = txU y := by
  refine walk_ind ?_ ?_ ?_ ?_
  · intro e w h x hx
    rw [cmpU_nil] at h
    rw [← Option.some.inj h] at hx; simp at hx
  · intro t p q ih e w h x hx
    rw [cmpU_del] at h
    obtain ⟨w', h', rfl⟩ := Option.map_eq_some_iff.mp h
    rcases List.mem_cons.mp hx with rfl | hx
    · exact .inr (.inl ⟨_, List.mem_cons_self .., rfl⟩)
    · rcases ih e w' h' x hx with h | ⟨y, hy, h⟩ | h
      · exact .inl h
      · exact .inr (.inl ⟨y, List.mem_cons_of_mem _ hy, h⟩)
      · exact .inr (.inr h)
  · intro t p q hp ih e w h x hx
    rw [cmpU_ins hp] at h
    obtain ⟨w', h', rfl⟩ := Option.map_eq_some_iff.mp h
    rcases List.mem_cons.mp hx with rfl | hx
    · exact .inr (.inr ⟨_, List.mem_cons_self .., rfl⟩)
    · rcases ih e w' h' x hx with h | h | ⟨y, hy, h⟩
      · exact .inl h
      · exact .inr (.inl h)
      · exact .inr (.inr ⟨y, List.mem_cons_of_mem _ hy, h⟩)
  · intro p q hp hq hne ih e w h x hx
    rw [cmpU_mid hp hq hne] at h
    split at h
    · simp at h
    · obtain ⟨a, ha, h⟩ := Option.bind_eq_some_iff.mp h
      obtain ⟨w', h', rfl⟩ := Option.map_eq_some_iff.mp h
      rcases List.mem_append.mp hx with hx | hx
      · have key : txU x = ByteArray.empty ∨ txU x = txU (nxU p) ∨ txU x = txU (nxU q) := by
          generalize nxU p = u at ha
          generalize nxU q = v at ha
          cases u <;> cases v <;> simp only [midU, midT] at ha <;> (try split at ha) <;> simp [un] at ha <;> subst ha <;> simp at hx <;> subst hx <;> simp [txU]
        have nx : ∀ l : List U, txU (nxU l) = ByteArray.empty ∨ ∃ y ∈ l, txU (nxU l) = txU y := by
          intro l
          cases l with
          | nil => exact .inl rfl
          | cons y l => exact .inr ⟨y, List.mem_cons_self .., rfl⟩
        rcases key with h | h | h
        · exact .inl h
        · rcases nx p with e | e
          · exact .inl (h.trans e)
          · obtain ⟨y, hy, e⟩ := e
            exact .inr (.inl ⟨y, hy, h.trans e⟩)
        · rcases nx q with e | e
          · exact .inl (h.trans e)
          · obtain ⟨y, hy, e⟩ := e
            exact .inr (.inr ⟨y, hy, h.trans e⟩)
      · have tl : ∀ {l : List U} {y : U}, y ∈ l.tail → y ∈ l := fun hy => List.mem_of_mem_tail hy
        rcases ih _ w' h' x hx with h | ⟨y, hy, h⟩ | ⟨y, hy, h⟩
        · exact .inl h
        · exact .inr (.inl ⟨y, tl hy, h⟩)
        · exact .inr (.inr ⟨y, tl hy, h⟩)
/-- What two come to is few, too. -/
theorem thenL_len {p q : List Op} (hp : Sx p) (hq : Sx q) : (thenL p q).1.length ≤ p.length + q.length ∧ ∀ o ∈ (thenL p q).1, o.f2.size < 1073741824 := by
  cases rp : rightL p
  · unfold thenL; simp [rp]
  cases rq : rightL q
  · unfold thenL; simp [rq]
  rcases walk_then hp hq rp rq with ⟨hw, e⟩ | ⟨os, hw, _, g1, g2, he, hf, hsm, hsk, hr, e⟩
  · rw [e]; simp
  · rw [e]
    split
    · refine ⟨?_, ?_⟩
      · have h1 := nf_pack_len (stepsL os) [] hf
        have h2 : (stepsL os).length ≤ os.length := by unfold stepsL; rw [List.length_map]; exact List.length_filter_le _ _
        simp only [List.length_nil] at h1
        show (pack (nf [] (ex (stepsL os)))).length ≤ _
        omega
      · intro o ho
        have ho : o ∈ pack (nf [] (ex (stepsL os))) := ho
        have he0 : ByteArray.empty.size = 0 := rfl
        rcases tx_pack _ o ho with e | ⟨x, hx, e⟩
        · rw [e, he0]; omega
        · rcases nf_mem _ _ _ hx with hx | hx
          · simp at hx
          · rcases tx_ex hx with e2 | ⟨y, hy, e2⟩
            · rw [e, e2, he0]; omega
            · rw [e, e2]
              obtain ⟨s, hs, rfl⟩ := List.mem_map.mp hy
              exact (g1 s (List.mem_filter.mp hs).1).1.2
    · simp
theorem Sx.then {p q : List Op} (hp : Sx p) (hq : Sx q) (h : p.length + q.length ≤ 274877906944) : Sx (thenL p q).1 := by
  obtain ⟨h1, h2⟩ := thenL_len hp hq
  exact ⟨by omega, h2⟩
theorem thenL_right {p q : List Op} (h : (thenL p q).2 = true) : rightL (thenL p q).1 = true := by
  obtain ⟨u, _, _, _, hu, e⟩ := thenL_some h
  rw [e, right_pack, rightU_nf]; exact hu
theorem ex_then {p q : List Op} {u : List U} (h : thenL p q = (pack (nf [] u), true)) : ex (thenL p q).1 = nf [] u := by rw [h, ex_pack]
end Go.Proofs.Ytfoponahdidddaa.P
