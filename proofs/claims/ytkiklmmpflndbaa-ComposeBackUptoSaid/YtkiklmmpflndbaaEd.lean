/- Own: what stands ahead of skips at the end; the example; what two come to. -/
import Derived.Test.YtkiklmmpflndbaaEc
import Derived.Test.YtkiklmmpflndbaaQb
import Derived.Test.YtkiklmmpflndbaaK
namespace Go.Proofs.Ytkiklmmpflndbaa.P
open Go.RowKit Go.Proofs.YtkiklmmpflndbaaW.PrintWords Go.Proofs.YtkiklmmpflndbaaW.PrintLast Go.Proofs.YtkiklmmpflndbaaW.PrintMore
set_option linter.unusedSimpArgs false
set_option linter.unusedVariables false

/-- Without skips at the end. -/
def restN (l : List Op) : Nat → Nat
  | 0 => 0
  | n + 1 => if (l.getD n ⟨0, 0, ⟨#[]⟩⟩).f0 = 1 then restN l n else n + 1
def restL (l : List Op) : List Op := l.take (restN l l.length)
theorem restN_le (l : List Op) : ∀ n, restN l n ≤ n
  | 0 => Nat.le_refl _
  | n + 1 => by
    rw [restN]
    have := restN_le l n
    split <;> omega
theorem rd_getD (l : List Op) (n : Nat) (h : n < l.length) : rd_Op l (n : Int) = l.getD n ⟨0, 0, ⟨#[]⟩⟩ := by
  rw [rdOp_get h, List.getD_eq_getElem?_getD, List.getElem?_eq_getElem h]; rfl
theorem prest_loop (l : List Op) (hl : l.length < 4398046511104) : ∀ n, n ≤ l.length → Ev (fun k => compose_Rest.l0 k l (n : Int)) (l.take (restN l n))
  | 0, h => by
    refine Ev.step (fun k => rfl) ?_
    have c0 : ¬ ((0 : Nat) : Int) > 0 := by omega
    have c1 : (0 : Int) ≤ ((0 : Nat) : Int) := by omega
    have c2 : ((0 : Nat) : Int) ≤ (l.length : Int) := by omega
    have c3 : ([] : List Op).length + (l.take ((0 : Nat) : Int).toNat).length < 4398046511104 := by simp
    simp only [compose_Rest.l0, if_neg c0, if_pos c1, if_pos c2, Option.bind_some, if_pos c3]
    exact Ev.now _
  | n + 1, h => by
    have i := prest_loop l hl n (by omega)
    have w : wrap64 (((n + 1 : Nat) : Int) - 1) = (n : Int) := by unfold wrap64; omega
    have c0 : ((n + 1 : Nat) : Int) > 0 := by omega
    have c1 : (0 : Int) ≤ (n : Int) := by omega
    have c2 : (n : Int) < (l.length : Int) := by omega
    have c3 : (0 : Int) ≤ ((n + 1 : Nat) : Int) := by omega
    have c4 : ((n + 1 : Nat) : Int) ≤ (l.length : Int) := by omega
    have c5 : ([] : List Op).length + (l.take ((n + 1 : Nat) : Int).toNat).length < 4398046511104 := by rw [List.length_take]; simp only [List.length_nil]; omega
    refine Ev.step (fun k => rfl) ?_
    simp only [compose_Rest.l0, w, if_pos c0, if_pos c1, if_pos c2, if_pos c3, if_pos c4, rd_getD l n (by omega), Option.bind_some, if_pos c5]
    rw [restN]
    by_cases hk : (l.getD n ⟨0, 0, ⟨#[]⟩⟩).f0 = 1
    · simp only [if_pos hk]; exact i
    · simp only [if_neg hk]; exact Ev.now _
theorem refrest_loop (l : List Op) (hl : l.length < 4398046511104) : ∀ n, n ≤ l.length → Ev (fun k => patchworkref8_Rest.l0 k l (n : Int)) (l.take (restN l n))
  | 0, h => by
    refine Ev.step (fun k => rfl) ?_
    have c0 : ¬ ((0 : Nat) : Int) > 0 := by omega
    have c1 : (0 : Int) ≤ ((0 : Nat) : Int) := by omega
    have c2 : ((0 : Nat) : Int) ≤ (l.length : Int) := by omega
    have c3 : ([] : List Op).length + (l.take ((0 : Nat) : Int).toNat).length < 4398046511104 := by simp
    simp only [patchworkref8_Rest.l0, if_neg c0, if_pos c1, if_pos c2, Option.bind_some, if_pos c3]
    exact Ev.now _
  | n + 1, h => by
    have i := refrest_loop l hl n (by omega)
    have w : wrap64 (((n + 1 : Nat) : Int) - 1) = (n : Int) := by unfold wrap64; omega
    have c0 : ((n + 1 : Nat) : Int) > 0 := by omega
    have c1 : (0 : Int) ≤ (n : Int) := by omega
    have c2 : (n : Int) < (l.length : Int) := by omega
    have c3 : (0 : Int) ≤ ((n + 1 : Nat) : Int) := by omega
    have c4 : ((n + 1 : Nat) : Int) ≤ (l.length : Int) := by omega
    have c5 : ([] : List Op).length + (l.take ((n + 1 : Nat) : Int).toNat).length < 4398046511104 := by rw [List.length_take]; simp only [List.length_nil]; omega
    refine Ev.step (fun k => rfl) ?_
    simp only [patchworkref8_Rest.l0, w, if_pos c0, if_pos c1, if_pos c2, if_pos c3, if_pos c4, rd_getD l n (by omega), Option.bind_some, if_pos c5]
    rw [restN]
    by_cases hk : (l.getD n ⟨0, 0, ⟨#[]⟩⟩).f0 = 1
    · simp only [if_pos hk]; exact i
    · simp only [if_neg hk]; exact Ev.now _
theorem prest_ev {l : List Op} (h : Sm l) : Ev (fun k => compose_Rest.f k l) (restL l) := prest_loop l h.1 _ (Nat.le_refl _)
theorem refrest_ev {l : List Op} (h : Sm l) : Ev (fun k => patchworkref8_Rest.f k l) (restL l) := refrest_loop l h.1 _ (Nat.le_refl _)
/-- What two come to. -/
theorem thenL_some {p q : List Op} (h : (thenL p q).2 = true) : ∃ u, rightL p = true ∧ rightL q = true ∧ cmpU (ex p) false (ex q) = some u ∧ rightU u = true ∧ thenL p q = (pack (nf [] u), true) := by
  unfold thenL at h ⊢
  split at h
  · rename_i hr
    rw [if_pos hr]
    unfold thenU at h ⊢
    cases hc : cmpU (ex p) false (ex q) with
    | none => rw [hc] at h; simp at h
    | some u =>
      rw [hc] at h
      simp only [Option.bind_some] at h ⊢
      cases hu : rightU u
      · rw [hu] at h; simp at h
      · exact ⟨u, hr.1, hr.2, rfl, hu, by simp⟩
  · simp at h
theorem thenL_of {p q : List Op} {u : List U} (h1 : rightL p = true) (h2 : rightL q = true) (h3 : cmpU (ex p) false (ex q) = some u) (h4 : rightU u = true) : thenL p q = (pack (nf [] u), true) := by
  unfold thenL thenU
  rw [if_pos ⟨h1, h2⟩, h3]
  simp [h4]
theorem thenL_no {p q : List Op} (h : (thenL p q).2 = false) : thenL p q = ([], false) := by
  unfold thenL at h ⊢
  split
  · rename_i hr
    rw [if_pos hr] at h
    cases hu : thenU (ex p) (ex q) with
    | none => rfl
    | some u => rw [hu] at h; simp at h
  · rfl
theorem cmpU_mem : ∀ p q, ∀ (e : Bool) (w : List U), cmpU p e q = some w → ∀ x ∈ w, txU x = ByteArray.empty ∨ (∃ y ∈ p, txU x = txU y) ∨ ∃ y ∈ q, txU x = txU y := by
  refine walk_ind ?_ ?_ ?_ ?_
  · intro e w h x hx
    rw [cmpU_nil] at h
    rw [← Option.some.inj h] at hx; simp at hx
  · intro t p q ih e w h x hx
    rw [cmpU_del] at h
    obtain ⟨w', h', rfl⟩ := Option.map_eq_some_iff.mp h
    rcases List.mem_cons.mp hx with rfl | hx
    · exact .inr (.inl ⟨_, List.mem_cons_self .., rfl⟩)
    · rcases ih e w' h' x hx with h | ⟨y, hy, h⟩ | h
      · exact .inl h
      · exact .inr (.inl ⟨y, List.mem_cons_of_mem _ hy, h⟩)
      · exact .inr (.inr h)
  · intro t p q hp ih e w h x hx
    rw [cmpU_ins hp] at h
    obtain ⟨w', h', rfl⟩ := Option.map_eq_some_iff.mp h
    rcases List.mem_cons.mp hx with rfl | hx
    · exact .inr (.inr ⟨_, List.mem_cons_self .., rfl⟩)
    · rcases ih e w' h' x hx with h | h | ⟨y, hy, h⟩
      · exact .inl h
      · exact .inr (.inl h)
      · exact .inr (.inr ⟨y, List.mem_cons_of_mem _ hy, h⟩)
  · intro p q hp hq hne ih e w h x hx
    rw [cmpU_mid hp hq hne] at h
    split at h
    · simp at h
    · obtain ⟨a, ha, h⟩ := Option.bind_eq_some_iff.mp h
      obtain ⟨w', h', rfl⟩ := Option.map_eq_some_iff.mp h
      rcases List.mem_append.mp hx with hx | hx
      · have key : txU x = ByteArray.empty ∨ txU x = txU (nxU p) ∨ txU x = txU (nxU q) := by
          generalize nxU p = u at ha
          generalize nxU q = v at ha
          cases u <;> cases v <;> simp only [midU, midT] at ha <;> (try split at ha) <;> simp [un] at ha <;> subst ha <;> simp at hx <;> subst hx <;> simp [txU]
        have nx : ∀ l : List U, txU (nxU l) = ByteArray.empty ∨ ∃ y ∈ l, txU (nxU l) = txU y := by
          intro l
          cases l with
          | nil => exact .inl rfl
          | cons y l => exact .inr ⟨y, List.mem_cons_self .., rfl⟩
        rcases key with h | h | h
        · exact .inl h
        · rcases nx p with e | e
          · exact .inl (h.trans e)
          · obtain ⟨y, hy, e⟩ := e
            exact .inr (.inl ⟨y, hy, h.trans e⟩)
        · rcases nx q with e | e
          · exact .inl (h.trans e)
          · obtain ⟨y, hy, e⟩ := e
            exact .inr (.inr ⟨y, hy, h.trans e⟩)
      · have tl : ∀ {l : List U} {y : U}, y ∈ l.tail → y ∈ l := fun hy => List.mem_of_mem_tail hy
        rcases ih _ w' h' x hx with h | ⟨y, hy, h⟩ | ⟨y, hy, h⟩
        · exact .inl h
        · exact .inr (.inl ⟨y, tl hy, h⟩)
        · exact .inr (.inr ⟨y, tl hy, h⟩)
/-- What two come to is few, too. -/
theorem thenL_len {p q : List Op} (hp : Sx p) (hq : Sx q) : (thenL p q).1.length ≤ p.length + q.length ∧ ∀ o ∈ (thenL p q).1, o.f2.size < 1073741824 := by
  cases rp : rightL p
  · unfold thenL; simp [rp]
  cases rq : rightL q
  · unfold thenL; simp [rq]
  rcases walk_then hp hq rp rq with ⟨hw, e⟩ | ⟨os, hw, _, g1, g2, he, hf, hsm, hsk, hr, e⟩
  · rw [e]; simp
  · rw [e]
    split
    · refine ⟨?_, ?_⟩
      · have h1 := nf_pack_len (stepsL os) [] hf
        have h2 : (stepsL os).length ≤ os.length := by unfold stepsL; rw [List.length_map]; exact List.length_filter_le _ _
        simp only [List.length_nil] at h1
        show (pack (nf [] (ex (stepsL os)))).length ≤ _
        omega
      · intro o ho
        have ho : o ∈ pack (nf [] (ex (stepsL os))) := ho
        have he0 : ByteArray.empty.size = 0 := rfl
        rcases tx_pack _ o ho with e | ⟨x, hx, e⟩
        · rw [e, he0]; omega
        · rcases nf_mem _ _ _ hx with hx | hx
          · simp at hx
          · rcases tx_ex hx with e2 | ⟨y, hy, e2⟩
            · rw [e, e2, he0]; omega
            · rw [e, e2]
              obtain ⟨s, hs, rfl⟩ := List.mem_map.mp hy
              exact (g1 s (List.mem_filter.mp hs).1).1.2
    · simp
theorem Sx.then {p q : List Op} (hp : Sx p) (hq : Sx q) (h : p.length + q.length ≤ 274877906944) : Sx (thenL p q).1 := by
  obtain ⟨h1, h2⟩ := thenL_len hp hq
  exact ⟨by omega, h2⟩
theorem thenL_right {p q : List Op} (h : (thenL p q).2 = true) : rightL (thenL p q).1 = true := by
  obtain ⟨u, _, _, _, hu, e⟩ := thenL_some h
  rw [e, right_pack, rightU_nf]; exact hu
theorem ex_then {p q : List Op} {u : List U} (h : thenL p q = (pack (nf [] u), true)) : ex (thenL p q).1 = nf [] u := by rw [h, ex_pack]
theorem alive11 : Ev (fun k => patchworklaw11_alive.f k) true := by
  have s0 : Sx [] := ⟨by simp, by simp⟩
  have s1 : Sx [(⟨4, 0, ⟨#[97, 10]⟩⟩ : Op)] := ⟨by simp, fun o ho => by rw [List.mem_singleton.mp ho]; exact (by decide : (2 : Nat) < 1073741824)⟩
  have s2 : Sx [(⟨3, 0, ⟨#[97, 10]⟩⟩ : Op)] := ⟨by simp, fun o ho => by rw [List.mem_singleton.mp ho]; exact (by decide : (2 : Nat) < 1073741824)⟩
  have s3 : Sm [(⟨1, 2, ⟨#[]⟩⟩ : Op)] := ⟨by simp, fun o ho => by rw [List.mem_singleton.mp ho]; exact (by decide : (0 : Nat) < 4611686018427387904)⟩
  have e0 : thenL [] [] = ([], true) := rfl
  have r1 : rightL [(⟨4, 0, ⟨#[97, 10]⟩⟩ : Op)] = true := by decide +kernel
  have r2 : rightL [(⟨3, 0, ⟨#[97, 10]⟩⟩ : Op)] = true := by decide +kernel
  have e1 : thenL [(⟨4, 0, ⟨#[97, 10]⟩⟩ : Op)] [(⟨3, 0, ⟨#[97, 10]⟩⟩ : Op)] = ([], true) := by
    have := thenL_of (u := []) r1 r2 (by
      show cmpU [.ins ⟨#[97, 10]⟩] false [.del ⟨#[97, 10]⟩] = some []
      simp [cmpU, cmpT, inner, midT, endQ, un]) rfl
    exact this
  have e2 : restL [(⟨1, 2, ⟨#[]⟩⟩ : Op)] = [] := rfl
  have a0 := pthen_ev s0 s0
  have a1 := pthen_ev s1 s2
  have a2 := prest_ev s3
  rw [e0] at a0
  rw [e1] at a1
  rw [e2] at a2
  unfold patchworklaw11_alive.f
  refine Ev.bind' a0 ?_
  refine Ev.bind' a1 ?_
  have c : (([] : List Op).length : Int) = 0 := rfl
  simp only [if_pos c, if_true]
  refine Ev.bind' a2 ?_
  exact Ev.now _
end Go.Proofs.Ytkiklmmpflndbaa.P
