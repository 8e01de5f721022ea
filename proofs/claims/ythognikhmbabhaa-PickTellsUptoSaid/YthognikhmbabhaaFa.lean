/- Own: what the program and the reference tell of steps that are turned back; how many steps come in. -/
import Derived.Test.YthognikhmbabhaaUb
import Derived.Test.YthognikhmbabhaaQb
import Derived.Test.YthognikhmbabhaaK
namespace Go.Proofs.Ythognikhmbabhaa.P
open Go.RowKit Go.Proofs.YthognikhmbabhaaW.PrintWords Go.Proofs.YthognikhmbabhaaW.PrintLast Go.Proofs.YthognikhmbabhaaW.PrintMore

theorem Sm.of_wt {l : List Op} (h : (l.map wtOp).sum ≤ 1099511627776) : Sm l := by
  induction l with
  | nil => exact .nil
  | cons o l ih =>
    rw [List.map_cons, List.sum_cons] at h
    unfold wtOp at h
    obtain ⟨i1, i2⟩ := ih (by unfold wtOp; omega)
    have hl : ∀ l : List Op, l.length ≤ (l.map wtOp).sum := by
      intro l
      induction l with
      | nil => simp
      | cons x l ih => rw [List.map_cons, List.sum_cons, List.length_cons]; unfold wtOp at *; omega
    have := hl l
    unfold wtOp at this
    refine ⟨by rw [List.length_cons]; omega, fun x hx => ?_⟩
    rcases List.mem_cons.mp hx with rfl | hx
    · omega
    · exact i2 x hx
/-- How much is told of steps by the reading. -/
def fewN (l : List Op) : Nat := (l.map fun o => 1 + o.f2.size).sum
theorem fewN_le (l : List Op) : fewN l ≤ (l.map wtOp).sum := by
  induction l with
  | nil => exact Nat.le_refl _
  | cons o l ih => simp only [fewN, List.map_cons, List.sum_cons] at ih ⊢; unfold wtOp at *; omega
theorem fewN_len (l : List Op) : l.length ≤ fewN l := by
  induction l with
  | nil => exact Nat.le_refl _
  | cons o l ih => simp only [fewN, List.map_cons, List.sum_cons, List.length_cons] at ih ⊢; omega
theorem few_loop (s : List Op) : ∀ (p : List Op), fewN (p ++ s) < 4398046511104 → Ev (fun k => patchworklaw8_Few.l0 k (p ++ s) (fewN p : Int) (p.length : Int)) (decide (fewN (p ++ s) ≤ 600)) := by
  induction s with
  | nil =>
    intro p _
    refine Ev.step (fun k => rfl) ?_
    simp only [patchworklaw8_Few.l0, lt_end, if_false]
    rw [List.append_nil, show decide (fewN p ≤ 600) = decide ((fewN p : Int) ≤ 600) from by
      have : fewN p ≤ 600 ↔ (fewN p : Int) ≤ 600 := by omega
      simp only [this]]
    exact Ev.now _
  | cons o s ih =>
    intro p hb
    have e : fewN (p ++ [o]) = fewN p + (1 + o.f2.size) := by simp [fewN]
    have e2 : fewN (p ++ o :: s) = fewN p + (1 + o.f2.size) + fewN s := by simp [fewN, Nat.add_assoc]
    have hl := fewN_len (p ++ o :: s)
    have := ih (p ++ [o]) (by simpa using hb)
    rw [List.append_assoc, List.singleton_append, e] at this
    have w : wrap64 (wrap64 ((fewN p : Int) + 1) + (o.f2.size : Int)) = ((fewN p + (1 + o.f2.size) : Nat) : Int) := by unfold wrap64; omega
    refine Ev.step (fun k => rfl) ?_
    simp only [patchworklaw8_Few.l0, lt_mid, nn_nat, if_true, rdOp_mid, w, wrap_len p o (by simp at hl; omega)]
    exact this
theorem few_ev {l : List Op} (h : fewN l < 4398046511104) : Ev (fun k => patchworklaw8_Few.f k l) (decide (fewN l ≤ 600)) := few_loop l [] h
theorem Sm.flip {l : List Op} (h : Sm l) : Sm (l.map flipO) := by
  refine ⟨by rw [List.length_map]; exact h.1, fun o ho => ?_⟩
  obtain ⟨x, hx, rfl⟩ := List.mem_map.mp ho
  have : (flipO x).f2 = x.f2 := by
    unfold flipO
    split
    · rfl
    · split <;> rfl
  rw [this]; exact h.2 x hx
theorem right_flip {l : List Op} (h : rightL l = true) : rightL (l.map flipO) = true := by
  have hf := rightL_form h
  have hf2 : ∀ o ∈ l.map flipO, formO o := fun o ho => by
    obtain ⟨x, hx, rfl⟩ := List.mem_map.mp ho
    exact form_flip (hf x hx)
  rw [right_iff hf2, ex_flip hf, rightU_flip]
  exact rightL_U h
theorem norm_flip {l : List Op} (h : rightL l = true) : normL (l.map flipO) = flipL l := by
  unfold normL flipL; rw [ex_flip (rightL_form h)]
theorem flipO_val (o : Op) : flipO o = if o.f0 = 3 then ⟨4, o.f1, o.f2⟩ else if o.f0 = 4 then ⟨3, o.f1, o.f2⟩ else o := rfl
theorem flip_loop (s : List Op) : ∀ (p : List Op) (v : List Op), Sm (p ++ s) → Ev (fun k => (ops_Norm.f k ((p ++ s).map flipO)).bind fun t => some t) v → Ev (fun k => flip_Ops.l0 k (p.map flipO) (p ++ s) ((p ++ s).length : Int) (p.length : Int)) v := by
  induction s with
  | nil =>
    intro p v hb h
    rw [List.append_nil] at h
    refine Ev.step (fun k => rfl) ?_
    simp only [flip_Ops.l0, lt_end, if_false]
    exact h
  | cons o s ih =>
    intro p v hb h
    have i := ih (p ++ [o]) v hb.snoc (by simpa using h)
    rw [List.append_assoc, List.singleton_append, List.map_append, List.map_cons, List.map_nil] at i
    have hlo : (p.map flipO).length < 4398046511104 := by rw [List.length_map]; exact hb.len
    refine Ev.step (fun k => rfl) ?_
    simp only [flip_Ops.l0, lt_mid, nn_nat, if_true, rdOp_mid, if_pos hlo, wrap_len p o (by have := hb.len; omega)]
    unfold flipO at i ⊢
    by_cases h3 : o.f0 = 3
    · simp only [if_pos h3] at i ⊢; exact i
    · by_cases h4 : o.f0 = 4
      · simp only [if_neg h3, if_pos h4] at i ⊢; exact i
      · simp only [if_neg h3, if_neg h4] at i ⊢; exact i
theorem flip_ev {l : List Op} (h : Sm l) : Ev (fun k => flip_Ops.f k l) (if rightL l then flipL l else []) := by
  refine Ev.bind' (right_ev h) ?_
  cases hr : rightL l
  · simp only [Bool.false_eq_true, if_false]; exact Ev.now _
  · simp only [if_true]
    refine flip_loop l [] _ h ?_
    have := norm_ev h.flip
    rw [right_flip hr, if_pos rfl, norm_flip hr] at this
    exact Ev.bind' this (Ev.now _)
theorem refflip_loop (s : List Op) : ∀ (p : List Op) (v : List Op), Sm (p ++ s) → Ev (fun k => (patchworkref8_norm.f k ((p ++ s).map flipO)).bind fun t => some t) v → Ev (fun k => patchworkref8_Flip.l0 k (p ++ s) (p.map flipO) (p.length : Int)) v := by
  induction s with
  | nil =>
    intro p v hb h
    rw [List.append_nil] at h
    refine Ev.step (fun k => rfl) ?_
    simp only [patchworkref8_Flip.l0, lt_end, if_false]
    exact h
  | cons o s ih =>
    intro p v hb h
    have i := ih (p ++ [o]) v hb.snoc (by simpa using h)
    rw [List.append_assoc, List.singleton_append, List.map_append, List.map_cons, List.map_nil] at i
    have hlo : (p.map flipO).length < 4398046511104 := by rw [List.length_map]; exact hb.len
    refine Ev.step (fun k => rfl) ?_
    simp only [patchworkref8_Flip.l0, lt_mid, nn_nat, if_true, rdOp_mid, if_pos hlo, wrap_len p o (by have := hb.len; omega)]
    unfold flipO at i ⊢
    by_cases h3 : o.f0 = 3
    · simp only [if_pos h3] at i ⊢; exact i
    · by_cases h4 : o.f0 = 4
      · simp only [if_neg h3, if_pos h4] at i ⊢; exact i
      · simp only [if_neg h3, if_neg h4] at i ⊢; exact i
theorem refflip_ev {l : List Op} (h : Sm l) : Ev (fun k => patchworkref8_Flip.f k l) (if rightL l then flipL l else []) := by
  refine Ev.bind' (refright_ev h) ?_
  cases hr : rightL l
  · simp only [Bool.false_eq_true, if_false]; exact Ev.now _
  · simp only [if_true]
    refine refflip_loop l [] _ h ?_
    have hr2 := right_flip hr
    obtain ⟨h1, h2, _⟩ := rightL_ok hr2
    have hf := rightL_form hr2
    have := skips_le 3 hf
    have := refnorm_ev h.flip hf (by omega)
    rw [norm_flip hr] at this
    exact Ev.bind' this (Ev.now _)
theorem Sm.flipped {l : List Op} (h : Sm l) (hr : rightL l = true) : Sm (flipL l) := by
  rw [← norm_flip hr]
  exact h.flip.norm (rightL_form (right_flip hr))
theorem Sm.flips {l : List Op} (h : Sm l) : Sm (if rightL l then flipL l else []) := by
  split
  · rename_i hr; exact h.flipped hr
  · exact .nil
theorem alive10 : Ev (fun k => patchworklaw10_alive.f k) true := by
  have s1 : Sm [(⟨3, 0, ⟨#[97, 10]⟩⟩ : Op)] := Sm.of_wt (by decide)
  have r1 : rightL [(⟨3, 0, ⟨#[97, 10]⟩⟩ : Op)] = true := by decide
  have f1 : flipL [(⟨3, 0, ⟨#[97, 10]⟩⟩ : Op)] = [⟨4, 0, ⟨#[97, 10]⟩⟩] := rfl
  have e1 := flip_ev s1
  rw [r1, if_pos rfl, f1] at e1
  have e2 := flip_ev Sm.nil
  have r2 : (if rightL [] then flipL [] else []) = [] := by split <;> rfl
  rw [r2] at e2
  refine Ev.bind' e1 ?_
  refine Ev.bind' e2 ?_
  exact Ev.now _
end Go.Proofs.Ythognikhmbabhaa.P
