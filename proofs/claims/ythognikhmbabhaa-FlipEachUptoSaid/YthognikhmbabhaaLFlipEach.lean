/- Own: FlipEach holds. -/
import Derived.Test.YthognikhmbabhaaFa
import Derived.Test.YthognikhmbabhaaSFlipEach
namespace Go.Proofs.Ythognikhmbabhaa.P
open Go.RowKit Go.Proofs.YthognikhmbabhaaW.PrintWords Go.Proofs.YthognikhmbabhaaW.PrintLast Go.Proofs.YthognikhmbabhaaW.PrintMore

theorem FlipEach.out (a : Int) (b c : List (List Op)) : Ev (fun k => patchworklaw10_FlipEach.j0 k a true b c true) true := by
  refine Ev.step (fun k => rfl) ?_
  simp only [patchworklaw10_FlipEach.j0, if_true]
  exact Ev.now true
theorem FlipEach.main {a : Int} {b c : List (List Op)} (h0 : 0 ≤ a) (h1 : a < (b.length : Int)) (h2 : a < (c.length : Int)) (hs : Sm (rd_L5 b a)) (hv : (if rightL (rd_L5 b a) then flipL (rd_L5 b a) else []) = rd_L5 c a) : Ev (fun k => patchworklaw10_FlipEach.j0 k a true b c false) true := by
  refine Ev.step (fun k => rfl) ?_
  simp only [patchworklaw10_FlipEach.j0, Bool.false_eq_true, if_false, if_pos h0, if_pos h1, if_pos h2]
  refine Ev.bind' (flip_ev hs) ?_
  have := hs.flips.1
  rw [hv] at this ⊢
  refine Ev.bind' (same_ev _ _ (by omega)) ?_
  simp only [decide_true]
  exact Ev.now true
theorem FlipEach.both {a : Int} {b c : List (List Op)} (h0 : 0 ≤ a) (hbc : c.length = b.length) (hall : ∀ i : Nat, i < b.length → Sm (rd_L5 b (i : Int)) ∧ (if rightL (rd_L5 b (i : Int)) then flipL (rd_L5 b (i : Int)) else []) = rd_L5 c (i : Int)) :
    Ev (fun k => patchworklaw10_FlipEach.j0 k a true b c (decide (a ≥ (b.length : Int)))) true := by
  by_cases h : a ≥ (b.length : Int)
  · simp only [h, decide_true]; exact FlipEach.out _ _ _
  · simp only [h, decide_false]
    obtain ⟨x, y⟩ := hall a.toNat (by omega)
    rw [Int.toNat_of_nonneg h0] at x y
    exact FlipEach.main h0 (by omega) (by omega) x y
theorem FlipEach.proved : FlipEach.Pure := by
  intro a _ _
  refine Ev.rounds ?_
  simp only [patchworklaw10_FlipEach.f, Option.bind_some]
  refine Ev.bind' alive10 ?_
  simp only [if_true]
  by_cases c0 : a < 0
  · simp only [if_pos c0]; exact FlipEach.out _ _ _
  simp only [if_neg c0]
  refine FlipEach.both (by omega) rfl (fun i hi => ?_)
  have hi' : i < 9 := hi
  have hc : i = 0 ∨ i = 1 ∨ i = 2 ∨ i = 3 ∨ i = 4 ∨ i = 5 ∨ i = 6 ∨ i = 7 ∨ i = 8 := by omega
  rcases hc with rfl | rfl | rfl | rfl | rfl | rfl | rfl | rfl | rfl <;> exact ⟨Sm.of_wt (by decide), by decide⟩
end Go.Proofs.Ythognikhmbabhaa.P
