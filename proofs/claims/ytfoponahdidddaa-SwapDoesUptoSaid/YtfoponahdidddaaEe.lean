/- Own: two that can be done one behind the other go together; turned back; how many lines. -/
import Derived.Test.YtfoponahdidddaaEc
import Derived.Test.YtfoponahdidddaaCc
import Derived.Test.YtfoponahdidddaaDc
namespace Go.Proofs.Ytfoponahdidddaa.P
open Go.RowKit Go.Proofs.YtfoponahdidddaaW.PrintWords Go.Proofs.YtfoponahdidddaaW.PrintLast Go.Proofs.YtfoponahdidddaaW.PrintMore
set_option linter.unusedSimpArgs false
set_option linter.unusedVariables false

theorem capd_right {l : List Op} (h : rightL l = true) : capd 3 l = ((olds (ex l)).length : Int) ∧ capd 4 l = ((news (ex l)).length : Int) ∧ (olds (ex l)).length ≤ 2147483648 ∧ (news (ex l)).length ≤ 2147483648 := by
  obtain ⟨_, h1, h2, _⟩ := rightL_ok h
  have e1 := sums_olds l (rightL_form h)
  have e2 := sums_news l (rightL_form h)
  unfold capd far
  refine ⟨?_, ?_, ?_, ?_⟩ <;> omega
/-- Done one behind the other. -/
theorem then_do {p q : List Op} {ls : List ByteArray} (hp : p.length ≤ 1000000) (hq : q.length ≤ 1000000) (hl : ls.length ≤ 2000000) (h1 : (doL p ls).2 = true) (h2 : (doL q (doL p ls).1).2 = true) :
    (thenL p q).2 = true ∧ doL (thenL p q).1 ls = ((doL q (doL p ls).1).1, true) := by
  obtain ⟨a, p1, p2, p3, p4, p5⟩ := doL_true h1
  rw [p5] at h2 ⊢
  obtain ⟨b, q1, q2, q3, q4, q5⟩ := doL_true h2
  rw [q5]
  obtain ⟨w, c1, c2⟩ := cmpU_do (ex p) (ex q) false ls a b p3 q3 q2 (fun h => by simp at h)
  have l1 := doU_len _ _ _ p3
  have l2 : b.length ≤ a.length + insN (ex q) := doU_len _ _ _ q3
  have i1 := insN_ex p
  have i2 := insN_ex q
  have hu : rightU w = true := rightU_of c2 p2 q4 (by omega) (by omega)
  have ht := thenL_of p1 q1 c1 hu
  rw [ht]
  refine ⟨rfl, doL_of ?_ p2 ?_ q4⟩
  · rw [right_pack, rightU_nf]; exact hu
  · rw [ex_pack, doU_nf0]; exact c2
theorem nfO_some {o : Option (List U)} {a : List U} (h : nfO o = some a) : ∃ u, o = some u ∧ nf [] u = a := by
  unfold nfO at h
  obtain ⟨u, h1, h2⟩ := Option.map_eq_some_iff.mp h
  exact ⟨u, h1, h2⟩
theorem nf_idem (u : List U) : nf [] (nf [] u) = nf [] u := by
  have := nf_nf u [] [] .nil
  simpa using this
end Go.Proofs.Ytfoponahdidddaa.P
