/- Own: the walk of lcs's table: what it holds, read at a place. -/
import Derived.Test.YtacpejblnjgcoaaH
import Derived.Test.YtacpejblnjgcoaaP0
namespace Go.Proofs.Ytacpejblnjgcoaa.P
open Go.RowKit Go.Proofs.YtacpejblnjgcoaaW.PrintWords Go.Proofs.YtacpejblnjgcoaaW.PrintLast Go.Proofs.YtacpejblnjgcoaaW.PrintMore
set_option linter.unusedVariables false
set_option linter.unusedSimpArgs false

/-- A place of the table is read. -/
theorem table_at (g gt n : Nat) (wide i j v : Int) (w : World) (hb : w.heap[g]? = some (.cells #[.int .i64 wide, .slice (some ⟨gt, 0, none⟩) n n] 86 (0, 0)))
    (k : Nat) (hk : i * wide + j = (k : Int)) (hm : i * wide < 4611686018427387904) (hm0 : 0 ≤ i * wide) (hj0 : 0 ≤ j) (hj : j < 4611686018427387904) (hkn : k < n) (hc : w.cell? ⟨gt, k, none⟩ = some (.int .i32 v)) :
    Calls Try.prog 76 #[.pointer (some ⟨g, 0, none⟩), .int .i64 i, .int .i64 j] w fun e w' => e = .returned (.int .i32 v) ∧ Drawn0 w w' := by
  have c0 : w.cell? ⟨g, 0, none⟩ = some (.int .i64 wide) := (blk_cell hb 0).trans rfl
  have c1 : w.cell? ⟨g, 1, none⟩ = some (.slice (some ⟨gt, 0, none⟩) n n) := (blk_cell hb 1).trans rfl
  clear hb
  have h1 : IntKind.i64.wrap (i * wide) = i * wide := by rw [i64_w]; unfold wrap64; omega
  have h2 : IntKind.i64.wrap (i * wide + j) = (k : Int) := by rw [i64_w, hk]; unfold wrap64; omega
  have h3 : (0 : Int) ≤ (k : Int) := by omega
  have h4 : ((k : Int) < (n : Int)) := by omega
  replace h3 := eq_true h3
  replace h4 := eq_true h4
  clear hk hm hm0 hj0 hj
  go_enter Try.func76, Try.ntmps76
  go_wp2
  repeat (go_quiet (fail); try go_wp2)
  go_ret
  exact ⟨rfl, by repeat (first | exact Drawn0.refl _ | apply Drawn0.step)⟩
end Go.Proofs.Ytacpejblnjgcoaa.P
