/- Own: lines with whose they are, parted into one's and then the other's: done one behind the other they do what all do. -/
import Derived.Test.YtfoponahdidddaaCc
import Derived.Test.YtfoponahdidddaaCd
namespace Go.Proofs.Ytfoponahdidddaa.P
open Go.RowKit Go.Proofs.YtfoponahdidddaaW.PrintWords Go.Proofs.YtfoponahdidddaaW.PrintLast Go.Proofs.YtfoponahdidddaaW.PrintMore
set_option linter.unusedSimpArgs false
set_option linter.unusedVariables false

theorem olds_fst : ∀ (w : List TU), okT w → olds (fstT w) = olds (allT w)
  | [], _ => rfl
  | (x, b) :: w, h => by
    have ih := olds_fst w h.tail
    unfold allT at ih ⊢
    cases x with
    | skip => simp only [fstT, List.map_cons, olds, ih]
    | keep t => simp only [fstT, List.map_cons, olds, ih]
    | del t => simp only [fstT, List.map_cons, olds]; split <;> simp only [olds, ih]
    | ins t =>
      simp only [fstT, List.map_cons, olds]
      split
      · exact ih
      · simp only [olds, ih]
theorem news_snd : ∀ (w : List TU), okT w → news (sndT w) = news (allT w)
  | [], _ => rfl
  | (x, b) :: w, h => by
    have ih := news_snd w h.tail
    unfold allT at ih ⊢
    cases x with
    | skip => simp only [sndT, List.map_cons, news, ih]
    | keep t => simp only [sndT, List.map_cons, news, ih]
    | ins t => simp only [sndT, List.map_cons, news]; split <;> simp only [news, ih]
    | del t =>
      simp only [sndT, List.map_cons, news]
      split
      · exact ih
      · simp only [news, ih]
theorem mid_fst : ∀ (w : List TU), okT w → news (fstT w) = olds (sndT w)
  | [], _ => rfl
  | (x, b) :: w, h => by
    have ih := mid_fst w h.tail
    cases x with
    | skip => simp only [fstT, sndT, news, olds, ih]
    | keep t => simp only [fstT, sndT, news, olds, ih]
    | ins t => rcases h.head rfl with e | e <;> (simp only at e; subst e; simp [fstT, sndT, news, olds, ih])
    | del t => rcases h.head rfl with e | e <;> (simp only at e; subst e; simp [fstT, sndT, news, olds, ih])
theorem doU_bal : ∀ (u : List U) (ls r : List ByteArray), doU u ls = some r → r.length + (olds u).length = ls.length + (news u).length ∧ (olds u).length ≤ ls.length
  | [], ls, r, h => by rw [doU] at h; obtain rfl := Option.some.inj h; simp [olds, news]
  | .ins t :: u, ls, r, h => by
    rw [doU] at h
    obtain ⟨r', h', rfl⟩ := Option.map_eq_some_iff.mp h
    have := doU_bal u ls r' h'
    simp only [olds, news, List.length_cons]; omega
  | .del t :: u, [], r, h => by rw [doU] at h; simp at h
  | .del t :: u, x :: ls, r, h => by
    rw [doU] at h
    split at h
    · have := doU_bal u ls r h
      simp only [olds, news, List.length_cons]; omega
    · simp at h
  | .keep t :: u, [], r, h => by rw [doU] at h; simp at h
  | .keep t :: u, x :: ls, r, h => by
    rw [doU] at h
    split at h
    · obtain ⟨r', h', rfl⟩ := Option.map_eq_some_iff.mp h
      have := doU_bal u ls r' h'
      simp only [olds, news, List.length_cons]; omega
    · simp at h
  | .skip :: u, [], r, h => by rw [doU] at h; simp at h
  | .skip :: u, x :: ls, r, h => by
    rw [doU] at h
    obtain ⟨r', h', rfl⟩ := Option.map_eq_some_iff.mp h
    have := doU_bal u ls r' h'
    simp only [olds, news, List.length_cons]; omega
theorem wholeL_mk {x : ByteArray} {l : List ByteArray} (h1 : rightT x = true) (h2 : wholeL l = true) (h3 : openT x = true → l = []) : wholeL (x :: l) = true := by
  unfold wholeL
  rw [h1, Bool.true_and]
  split
  · rename_i c; exact absurd (h3 c.1) c.2
  · exact h2
theorem closedS_cons {e : Bool} {x : Option ByteArray} {s : List (Option ByteArray)} (h : closedS e (x :: s) = true) : e = false ∧ closedS (match x with | none => false | some t => openT t) s = true := by
  cases e
  · cases x <;> exact ⟨rfl, h⟩
  · simp [closedS] at h
theorem closedS_open {s : List (Option ByteArray)} (h : closedS true s = true) : s = [] := by
  cases s with
  | nil => rfl
  | cons x s => simp [closedS] at h
theorem textS_cons {t : ByteArray} {s : List (Option ByteArray)} (h : textS (some t :: s) = true) : rightT t = true ∧ textS s = true := by
  simpa [textS] using h
theorem textS_none1 {s : List (Option ByteArray)} (h : textS (none :: s) = true) : textS s = true := by simpa [textS] using h
theorem empty_do {w : List TU} {c : List ByteArray} (h : doU (allT w) [] = some []) (hc : doU (fstT w) [] = some c) : c = [] := by
  have := doU_bal _ _ _ h
  cases w with
  | nil => exact (Option.some.inj hc).symm
  | cons x w =>
    exfalso
    obtain ⟨x, b⟩ := x
    cases x <;> (simp only [allT, List.map_cons, olds, news, List.length_cons, List.length_nil] at this; omega)
/-- Done one behind the other. -/
theorem twoT : ∀ (w : List TU) (ls r : List ByteArray), okT w → doU (allT w) ls = some r → wholeL ls = true → wholeL r = true → closedS false (news (fstT w)) = true →
    ∃ c, doU (fstT w) ls = some c ∧ doU (sndT w) c = some r ∧ wholeL c = true
  | [], ls, r, _, h, h1, _, _ => by
    have e : ls = r := Option.some.inj h
    subst e
    exact ⟨ls, rfl, rfl, h1⟩
  | (.skip, b) :: w, [], r, _, h, _, _, _ => by simp [allT, doU] at h
  | (.skip, b) :: w, x :: ls, r, ok, h, h1, h2, h3 => by
    have h : doU (.skip :: allT w) (x :: ls) = some r := h
    rw [doU] at h
    obtain ⟨r', h', rfl⟩ := Option.map_eq_some_iff.mp h
    obtain ⟨a1, a2, a3⟩ := wholeL_cons h1
    obtain ⟨b1, b2, b3⟩ := wholeL_cons h2
    obtain ⟨c, c1, c2, c3⟩ := twoT w ls r' ok.tail h' a2 b2 (by simpa [fstT, news, closedS] using h3)
    refine ⟨x :: c, by rw [fstT, doU, c1]; rfl, by rw [sndT, doU, c2]; rfl, wholeL_mk a1 c3 fun ho => ?_⟩
    have e1 := a3 ho
    have e2 := b3 ho
    subst e1 e2
    exact empty_do h' c1
  | (.keep t, b) :: w, [], r, _, h, _, _, _ => by simp [allT, doU] at h
  | (.keep t, b) :: w, x :: ls, r, ok, h, h1, h2, h3 => by
    have h : doU (.keep t :: allT w) (x :: ls) = some r := h
    rw [doU] at h
    split at h
    · rename_i e
      obtain ⟨r', h', rfl⟩ := Option.map_eq_some_iff.mp h
      obtain ⟨a1, a2, a3⟩ := wholeL_cons h1
      obtain ⟨b1, b2, b3⟩ := wholeL_cons h2
      have h4 : closedS (openT t) (news (fstT w)) = true := by simpa [fstT, news, closedS] using h3
      have h5 : closedS false (news (fstT w)) = true := by
        cases ho : openT t
        · rw [ho] at h4; exact h4
        · rw [ho] at h4; rw [closedS_open h4]; rfl
      obtain ⟨c, c1, c2, c3⟩ := twoT w ls r' ok.tail h' a2 b2 h5
      refine ⟨x :: c, by rw [fstT, doU, if_pos e, c1]; rfl, by rw [sndT, doU, if_pos e, c2]; rfl, wholeL_mk a1 c3 fun ho => ?_⟩
      have e1 := a3 ho
      have e2 := b3 ho
      subst e1 e2
      exact empty_do h' c1
    · simp at h
  | (.del t, b) :: w, [], r, _, h, _, _, _ => by simp [allT, doU] at h
  | (.del t, b) :: w, x :: ls, r, ok, h, h1, h2, h3 => by
    replace h : doU (.del t :: allT w) (x :: ls) = some r := h
    rw [doU] at h
    split at h
    · rename_i e
      obtain ⟨a1, a2, a3⟩ := wholeL_cons h1
      rcases ok.head rfl with e0 | e0
      · simp only at e0
        subst e0
        have h4 : closedS (openT t) (news (fstT w)) = true := by simpa [fstT, news, closedS] using h3
        have h5 : closedS false (news (fstT w)) = true := by
          cases ho : openT t
          · rw [ho] at h4; exact h4
          · rw [ho] at h4; rw [closedS_open h4]; rfl
        obtain ⟨c, c1, c2, c3⟩ := twoT w ls r ok.tail h a2 h2 h5
        refine ⟨x :: c, by simp only [fstT, if_true]; rw [doU, if_pos e, c1]; rfl, ?_, wholeL_mk a1 c3 fun ho => ?_⟩
        · simp only [sndT, show ¬ (1 : Int) = 2 from by omega, if_false]
          rw [doU, if_pos e]; exact c2
        · have e1 := a3 ho
          subst e1
          rw [← e, ho] at h4
          have e5 := closedS_open h4
          have l2 := doU_bal _ _ _ c1
          rw [e5] at l2
          simp only [List.length_nil] at l2
          exact List.length_eq_zero_iff.mp (by omega)
      · simp only at e0
        subst e0
        obtain ⟨c, c1, c2, c3⟩ := twoT w ls r ok.tail h a2 h2 (by simpa [fstT, news] using h3)
        refine ⟨c, ?_, ?_, c3⟩
        · simp only [fstT, show ¬ (2 : Int) = 1 from by omega, if_false]
          rw [doU, if_pos e]; exact c1
        · simp only [sndT, if_true]; exact c2
    · simp at h
  | (.ins t, b) :: w, ls, r, ok, h, h1, h2, h3 => by
    have h : doU (.ins t :: allT w) ls = some r := h
    rw [doU] at h
    obtain ⟨r', h', rfl⟩ := Option.map_eq_some_iff.mp h
    obtain ⟨b1, b2, b3⟩ := wholeL_cons h2
    rcases ok.head rfl with e0 | e0
    · simp only at e0
      subst e0
      obtain ⟨c, c1, c2, c3⟩ := twoT w ls r' ok.tail h' h1 b2 (by simpa [fstT] using h3)
      refine ⟨c, ?_, ?_, c3⟩
      · simp only [fstT, if_true]; exact c1
      · simp only [sndT, show ¬ (1 : Int) = 2 from by omega, if_false]
        rw [doU, c2]; rfl
    · simp only at e0
      subst e0
      have h4 : closedS (openT t) (news (fstT w)) = true := by simpa [fstT, news, closedS] using h3
      have h5 : closedS false (news (fstT w)) = true := by
        cases ho : openT t
        · rw [ho] at h4; exact h4
        · rw [ho] at h4; rw [closedS_open h4]; rfl
      obtain ⟨c, c1, c2, c3⟩ := twoT w ls r' ok.tail h' h1 b2 h5
      refine ⟨t :: c, ?_, ?_, wholeL_mk b1 c3 fun ho => ?_⟩
      · simp only [fstT, show ¬ (2 : Int) = 1 from by omega, if_false]
        rw [doU, c1]; rfl
      · simp only [sndT, if_true]
        rw [doU, if_pos rfl, c2]; rfl
      · have e1 := b3 ho
        subst e1
        rw [ho] at h4
        have e5 := closedS_open h4
        have l1 := doU_bal _ _ _ h'
        have l2 := doU_bal _ _ _ c1
        rw [e5, olds_fst w ok.tail] at l2
        simp only [List.length_nil] at l1 l2
        exact List.length_eq_zero_iff.mp (by omega)
/-- Each line as a change, or not. -/
theorem chU_two : ∀ (w : List TU), okT w → chU (fstT w) = (w.filter fun x => isCh x.1 && decide (x.2 = 2)).length ∧ chU (sndT w) = (w.filter fun x => isCh x.1 && decide (x.2 = 1)).length := by
  intro w
  induction w with
  | nil => intro _; exact ⟨rfl, rfl⟩
  | cons x w ih =>
    intro h
    obtain ⟨i1, i2⟩ := ih h.tail
    obtain ⟨x, b⟩ := x
    cases x with
    | skip => exact ⟨i1, i2⟩
    | keep t => exact ⟨i1, i2⟩
    | del t => rcases h.head rfl with e | e <;> (simp only at e; subst e; simp only [fstT, sndT]; refine ⟨?_, ?_⟩ <;> simp [chU_del, chU_ins, chU_keep, i1, i2, isCh])
    | ins t => rcases h.head rfl with e | e <;> (simp only at e; subst e; simp only [fstT, sndT]; refine ⟨?_, ?_⟩ <;> simp [chU_del, chU_ins, chU_keep, i1, i2, isCh])
end Go.Proofs.Ytfoponahdidddaa.P
