/- Own: what Join and Short tell. -/
import Derived.Test.YtfoponahdidddaaQa
namespace Go.Proofs.Ytfoponahdidddaa.P
open Go.RowKit Go.Proofs.YtfoponahdidddaaW.PrintWords Go.Proofs.YtfoponahdidddaaW.PrintLast Go.Proofs.YtfoponahdidddaaW.PrintMore

/-- How many letters a row of texts has. -/
def textSum (l : List ByteArray) : Nat := (l.map (·.size)).sum
theorem bytesOf_len (s : ByteArray) : (bytesOf s).length = s.size := by simp [bytesOf]
theorem join_loop (l : List ByteArray) : ∀ (p : List ByteArray) (acc : List Int), p.length + l.length < 4611686018427387904 → acc.length + textSum l < 140737488355328 →
    Ev (fun k => patchworkref1_Join.l0 k (p ++ l) acc (p.length : Int)) (strOfNums (acc ++ (l.flatMap bytesOf))) := by
  induction l with
  | nil =>
    intro p acc hb hs
    refine Ev.step (fun k => rfl) ?_
    simp only [patchworkref1_Join.l0, lt_end, if_false]
    simpa using Ev.now _
  | cons x l ih =>
    intro p acc hb hs
    have hs' : acc.length + (x.size + textSum l) < 140737488355328 := by simpa [textSum] using hs
    refine Ev.step (fun k => rfl) ?_
    have h1 : acc.length + x.size < 140737488355328 := by omega
    simp only [patchworkref1_Join.l0, lt_mid, nn_nat, if_true, rdOf_mid, if_pos h1]
    have := ih (p ++ [x]) (acc ++ bytesOf x) (by simp at hb ⊢; omega) (by rw [List.length_append, bytesOf_len]; omega)
    rw [wrap_len p x (by simp at hb; omega)]
    simpa [List.append_assoc] using this
theorem join_ev (l : List ByteArray) (h : l.length ≤ 4294967296) (h2 : textSum l < 140737488355328) : Ev (fun k => patchworkref1_Join.f k l) (strOfNums (l.flatMap bytesOf)) := by
  have := join_loop l [] [] (by simp; omega) (by simpa using h2)
  simpa [patchworkref1_Join.f] using this
theorem short_ev (l : List ByteArray) (h : textSum l < 140737488355328) : ∃ b, Ev (fun k => patchworklaw9_Short.f k l) b ∧ (b = true → l.length ≤ 300) := by
  by_cases hl : (l.length : Int) ≤ 300
  · refine ⟨decide (((strOfNums (l.flatMap bytesOf)).size : Int) ≤ 2000), ?_, fun _ => by omega⟩
    simp only [patchworklaw9_Short.f, if_pos hl]
    exact Ev.bind (join_ev l (by omega) h) (Ev.now _)
  · refine ⟨false, ?_, fun h => by simp at h⟩
    simp only [patchworklaw9_Short.f, if_neg hl]
    exact Ev.now _
theorem textSum_le (l : List ByteArray) : textSum l ≤ (l.map (fun s => s.size + 1)).sum := by
  induction l with
  | nil => simp [textSum]
  | cons x l ih => simp only [textSum, List.map_cons, List.sum_cons] at ih ⊢; omega
theorem wt_len (l : List ByteArray) : l.length ≤ (l.map (fun s => s.size + 1)).sum := by
  induction l with
  | nil => simp
  | cons x l ih => simp only [List.length_cons, List.map_cons, List.sum_cons]; omega
end Go.Proofs.Ytfoponahdidddaa.P
