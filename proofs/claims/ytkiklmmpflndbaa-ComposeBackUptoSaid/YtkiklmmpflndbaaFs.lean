/- Own: what the reference tells of steps that are turned back. -/
import Derived.Test.YtkiklmmpflndbaaUb
import Derived.Test.YtkiklmmpflndbaaQb
import Derived.Test.YtkiklmmpflndbaaK
import Derived.Test.YtkiklmmpflndbaaFa8
namespace Go.Proofs.Ytkiklmmpflndbaa.P
open Go.RowKit Go.Proofs.YtkiklmmpflndbaaW.PrintWords Go.Proofs.YtkiklmmpflndbaaW.PrintLast Go.Proofs.YtkiklmmpflndbaaW.PrintMore

theorem Sm.flip {l : List Op} (h : Sm l) : Sm (l.map flipO) := by
  refine ⟨by rw [List.length_map]; exact h.1, fun o ho => ?_⟩
  obtain ⟨x, hx, rfl⟩ := List.mem_map.mp ho
  have : (flipO x).f2 = x.f2 := by
    unfold flipO
    split
    · rfl
    · split <;> rfl
  rw [this]; exact h.2 x hx
theorem right_flip {l : List Op} (h : rightL l = true) : rightL (l.map flipO) = true := by
  have hf := rightL_form h
  have hf2 : ∀ o ∈ l.map flipO, formO o := fun o ho => by
    obtain ⟨x, hx, rfl⟩ := List.mem_map.mp ho
    exact form_flip (hf x hx)
  rw [right_iff hf2, ex_flip hf, rightU_flip]
  exact rightL_U h
theorem norm_flip {l : List Op} (h : rightL l = true) : normL (l.map flipO) = flipL l := by
  unfold normL flipL; rw [ex_flip (rightL_form h)]
theorem flipO_val (o : Op) : flipO o = if o.f0 = 3 then ⟨4, o.f1, o.f2⟩ else if o.f0 = 4 then ⟨3, o.f1, o.f2⟩ else o := rfl
theorem refflip_loop (s : List Op) : ∀ (p : List Op) (v : List Op), Sm (p ++ s) → Ev (fun k => (patchworkref8_norm.f k ((p ++ s).map flipO)).bind fun t => some t) v → Ev (fun k => patchworkref8_Flip.l0 k (p ++ s) (p.map flipO) (p.length : Int)) v := by
  induction s with
  | nil =>
    intro p v hb h
    rw [List.append_nil] at h
    refine Ev.step (fun k => rfl) ?_
    simp only [patchworkref8_Flip.l0, lt_end, if_false]
    exact h
  | cons o s ih =>
    intro p v hb h
    have i := ih (p ++ [o]) v hb.snoc (by simpa using h)
    rw [List.append_assoc, List.singleton_append, List.map_append, List.map_cons, List.map_nil] at i
    have hlo : (p.map flipO).length < 4398046511104 := by rw [List.length_map]; exact hb.len
    refine Ev.step (fun k => rfl) ?_
    simp only [patchworkref8_Flip.l0, lt_mid, nn_nat, if_true, rdOp_mid, if_pos hlo, wrap_len p o (by have := hb.len; omega)]
    unfold flipO at i ⊢
    by_cases h3 : o.f0 = 3
    · simp only [if_pos h3] at i ⊢; exact i
    · by_cases h4 : o.f0 = 4
      · simp only [if_neg h3, if_pos h4] at i ⊢; exact i
      · simp only [if_neg h3, if_neg h4] at i ⊢; exact i
theorem refflip_ev {l : List Op} (h : Sm l) : Ev (fun k => patchworkref8_Flip.f k l) (if rightL l then flipL l else []) := by
  refine Ev.bind' (refright_ev h) ?_
  cases hr : rightL l
  · simp only [Bool.false_eq_true, if_false]; exact Ev.now _
  · simp only [if_true]
    refine refflip_loop l [] _ h ?_
    have hr2 := right_flip hr
    obtain ⟨h1, h2, _⟩ := rightL_ok hr2
    have hf := rightL_form hr2
    have := skips_le 3 hf
    have := refnorm_ev h.flip hf (by omega)
    rw [norm_flip hr] at this
    exact Ev.bind' this (Ev.now _)
theorem Sm.flipped {l : List Op} (h : Sm l) (hr : rightL l = true) : Sm (flipL l) := by
  rw [← norm_flip hr]
  exact h.flip.norm (rightL_form (right_flip hr))
theorem Sm.flips {l : List Op} (h : Sm l) : Sm (if rightL l then flipL l else []) := by
  split
  · rename_i hr; exact h.flipped hr
  · exact .nil
end Go.Proofs.Ytkiklmmpflndbaa.P
