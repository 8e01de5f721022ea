/- Own: the example of the chapter on picking; how many changes steps have. -/
import Derived.Test.YthognikhmbabhaaPa
namespace Go.Proofs.Ythognikhmbabhaa.P
open Go.RowKit Go.Proofs.YthognikhmbabhaaW.PrintWords Go.Proofs.YthognikhmbabhaaW.PrintLast Go.Proofs.YthognikhmbabhaaW.PrintMore
set_option linter.unusedSimpArgs false
set_option linter.unusedVariables false

theorem chained_zero {r : List Range} (h : chained 0 r 0) (hl : r.length ≤ 1) : r.length = 0 := by
  match r, h, hl with
  | [], _, _ => rfl
  | [x], h, _ => simp only [chained] at h; omega
theorem alive16 : Ev (fun k => patchworklaw16_alive.f k) true := by
  have s1 : Sm [(⟨3, 0, ⟨#[97, 10]⟩⟩ : Op), ⟨4, 0, ⟨#[98, 10]⟩⟩] := Sm.of_wt (by decide)
  have e1 := pick_ev s1 [true]
  have v1 : pickL [(⟨3, 0, ⟨#[97, 10]⟩⟩ : Op), ⟨4, 0, ⟨#[98, 10]⟩⟩] [true] = ([⟨3, 0, ⟨#[97, 10]⟩⟩], [⟨4, 0, ⟨#[98, 10]⟩⟩]) := by decide
  rw [v1] at e1
  obtain ⟨r0, e2, c0, l0⟩ := rows_ev Sm.nil
  obtain ⟨r1, e3, c1, l1⟩ := rows_ev s1
  have n0 : r0.length = 0 := chained_zero c0 (by simpa [chN] using l0)
  have hc : chN [(⟨3, 0, ⟨#[97, 10]⟩⟩ : Op), ⟨4, 0, ⟨#[98, 10]⟩⟩] = 2 := by decide
  rw [hc] at c1 l1
  have n1 : r1.length = 1 := by
    match r1, c1, l1 with
    | [], c, _ => simp only [chained] at c; omega
    | [x], _, _ => rfl
  have q0 : (r0.length : Int) = 0 := by omega
  have q1 : (r1.length : Int) = 1 := by omega
  simp only [patchworklaw16_alive.f, Option.bind_some]
  refine Ev.bind' e1 ?_
  refine Ev.bind' e2 ?_
  simp only [if_pos q0]
  refine Ev.bind' e3 ?_
  simp only [if_pos q1]
  exact Ev.now _
end Go.Proofs.Ythognikhmbabhaa.P
