/- Own: lines with whose they are, and one's part of them. -/
import Derived.Test.YtfoponahdidddaaUb
namespace Go.Proofs.Ytfoponahdidddaa.P
open Go.RowKit Go.Proofs.YtfoponahdidddaaW.PrintWords Go.Proofs.YtfoponahdidddaaW.PrintLast Go.Proofs.YtfoponahdidddaaW.PrintMore
set_option linter.unusedVariables false
set_option linter.unusedSimpArgs false

/-- A line, and whose it is: 0 nobody's, 1 the first's, 2 the second's; 3: it came by the first and went by the second. -/
abbrev TU := U × Int
/-- Ahead: those of 2 as they are; of those of 1 what goes stays, what comes is left out. -/
def fstT : List TU → List U
  | [] => []
  | (.del t, b) :: w => if b = 1 then .keep t :: fstT w else .del t :: fstT w
  | (.ins t, b) :: w => if b = 1 then fstT w else .ins t :: fstT w
  | (.skip, _) :: w => .skip :: fstT w
  | (.keep t, _) :: w => .keep t :: fstT w
/-- Behind: those of 1 as they are; of those of 2 what comes stays, what goes is left out. -/
def sndT : List TU → List U
  | [] => []
  | (.ins t, b) :: w => if b = 2 then .keep t :: sndT w else .ins t :: sndT w
  | (.del t, b) :: w => if b = 2 then sndT w else .del t :: sndT w
  | (.skip, _) :: w => .skip :: sndT w
  | (.keep t, _) :: w => .keep t :: sndT w
def allT (w : List TU) : List U := w.map (·.1)
def okT (w : List TU) : Prop := ∀ x ∈ w, isCh x.1 = true → x.2 = 1 ∨ x.2 = 2
theorem okT.tail {x : TU} {w : List TU} (h : okT (x :: w)) : okT w := fun y hy => h y (List.mem_cons_of_mem _ hy)
theorem okT.head {x : TU} {w : List TU} (h : okT (x :: w)) (hc : isCh x.1 = true) : x.2 = 1 ∨ x.2 = 2 := h x (List.mem_cons_self ..) hc
theorem okT.app {a b : List TU} (ha : okT a) (hb : okT b) : okT (a ++ b) := fun y hy => by
  rcases List.mem_append.mp hy with h | h
  · exact ha y h
  · exact hb y h
theorem okT.nil : okT [] := fun x h => by simp at h
end Go.Proofs.Ytfoponahdidddaa.P
