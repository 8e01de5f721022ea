/- Own: PickRows holds. -/
import Derived.Test.YthognikhmbabhaaPb
import Derived.Test.YthognikhmbabhaaSPickRows
namespace Go.Proofs.Ythognikhmbabhaa.P
open Go.RowKit Go.Proofs.YthognikhmbabhaaW.PrintWords Go.Proofs.YthognikhmbabhaaW.PrintLast Go.Proofs.YthognikhmbabhaaW.PrintMore

theorem PickRows.out (a : List Op) : Ev (fun k => patchworklaw16_PickRows.j0 k a true true) true := by
  refine Ev.step (fun k => rfl) ?_
  simp only [patchworklaw16_PickRows.j0, if_true]
  exact Ev.now true
theorem rdRange_mid (p s : List Range) (x : Range) : rd_Range (p ++ x :: s) (p.length : Int) = x := getD_mid p s x zRange
theorem PickRows.loop {l : List Op} (h : Sm l) (s : List Range) : ∀ (p : List Range) (m : Int), chained m s (chN l : Int) → 0 ≤ m → (p ++ s).length + chN l ≤ l.length + 1 →
    Ev (fun k => patchworklaw16_PickRows.l0 k l (p ++ s) m (p.length : Int)) true := by
  induction s with
  | nil =>
    intro p m hc _ hl
    have hc' : m = (chN l : Int) := hc
    have := h.1
    have := chN_le l
    rw [List.append_nil] at hl
    refine Ev.step (fun k => rfl) ?_
    simp only [patchworklaw16_PickRows.l0, lt_end, if_false]
    refine Ev.bind' (changes_ev h) ?_
    simp only [if_pos hc']
    have : decide (((p ++ ([] : List Range)).length : Int) ≤ wrap64 (wrap64 ((l.length : Int) - m) + 1)) = true := by
      rw [List.append_nil, decide_eq_true_iff]
      unfold wrap64; omega
    rw [this]
    exact Ev.now true
  | cons r s ih =>
    intro p m hc h0 hl
    obtain ⟨c1, c2, c3⟩ := hc
    have hll := h.1
    have hub : ∀ (s : List Range) (m : Int), chained m s (chN l : Int) → m ≤ (chN l : Int) := by
      intro s
      induction s with
      | nil => intro m h; exact Int.le_of_eq h
      | cons r s ih => intro m h; have := ih _ h.2.2; have := h.2.1; have := h.1; omega
    have hb := hub s _ c3
    have hcl := chN_le l
    have w : wrap64 (r.f1 + 1) = r.f1 + 1 := by unfold wrap64; omega
    have g : ¬ r.f1 < r.f0 := by omega
    have hpl : p.length < 4611686018427387904 := by simp only [List.length_append, List.length_cons] at hl; omega
    have i := ih (p ++ [r]) (r.f1 + 1) c3 (by omega) (by simpa using hl)
    rw [List.append_assoc, List.singleton_append] at i
    refine Ev.step (fun k => rfl) ?_
    simp only [patchworklaw16_PickRows.l0, lt_mid, nn_nat, if_true, rdRange_mid, if_pos c1, if_neg g, w, wrap_len p r hpl]
    exact i
theorem PickRows.proved : PickRows.Pure := by
  intro l _ hw
  simp only at hw
  have hs : Sm l := Sm.of_wt (by omega)
  have hf := fewN_le l
  refine Ev.rounds ?_
  simp only [patchworklaw16_PickRows.f]
  refine Ev.bind' alive16 ?_
  simp only [if_true]
  refine Ev.bind' (few_ev (by omega)) ?_
  by_cases h : fewN l ≤ 600
  · simp only [h, decide_true, Bool.not_true]
    obtain ⟨r, e, c, hl⟩ := rows_ev hs
    refine Ev.step (fun k => rfl) ?_
    simp only [patchworklaw16_PickRows.j0, Bool.false_eq_true, if_false]
    refine Ev.bind' e ?_
    exact PickRows.loop hs r [] 0 c (Int.le_refl _) hl
  · simp only [h, decide_false, Bool.not_false]
    exact PickRows.out l
end Go.Proofs.Ythognikhmbabhaa.P
