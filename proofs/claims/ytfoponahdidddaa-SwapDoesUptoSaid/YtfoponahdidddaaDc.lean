/- Own: where steps cannot be done to lines; how much comes out. -/
import Derived.Test.YtfoponahdidddaaDb
namespace Go.Proofs.Ytfoponahdidddaa.P
open Go.RowKit Go.Proofs.YtfoponahdidddaaW.PrintWords Go.Proofs.YtfoponahdidddaaW.PrintLast Go.Proofs.YtfoponahdidddaaW.PrintMore
set_option linter.unusedVariables false
set_option linter.unusedSimpArgs false

theorem told_no (x : Option (List ByteArray)) (hd : (told [] x).2 = false) : told [] x = ([], false) := by
  cases x with
  | none => rfl
  | some r =>
    have e : told [] (some r) = if wholeL ([] ++ r) = true then ([] ++ r, true) else ([], false) := rfl
    rw [e] at hd ⊢
    by_cases h : wholeL ([] ++ r) = true
    · rw [if_pos h] at hd; simp at hd
    · rw [if_neg h]
theorem doL_no {l : List Op} {ls : List ByteArray} (hd : (doL l ls).2 = false) : doL l ls = ([], false) := by
  unfold doL at hd ⊢
  split
  · rename_i c
    rw [if_pos c] at hd
    exact told_no _ hd
  · rfl
theorem doL_SmT {l : List Op} {ls : List ByteArray} (hl : l.length ≤ 2199023255552) (h : Sm l) (hll : ls.length < 2199023255552) (hls : SmT ls) : SmT (doL l ls).1 := by
  cases hd : (doL l ls).2
  · rw [doL_no hd]; exact SmT.of_wt (by decide)
  · obtain ⟨r, _, _, d3, _, d5⟩ := doL_true hd
    rw [d5]; exact hls.done hl h hll d3
end Go.Proofs.Ytfoponahdidddaa.P
