-- PRINTED by print.py (a twelfth state) out of the translation. Not trusted: Lean checks it.
import Derived.Test.YtacpejblnjgcoaaD
import Derived.Test.YtacpejblnjgcoaaP0
import Derived.Test.YtacpejblnjgcoaaLi
namespace Go.Proofs.Ytacpejblnjgcoaa.P
open Go.RowKit Go.Proofs.YtacpejblnjgcoaaW.PrintWords Go.Proofs.YtacpejblnjgcoaaW.PrintLast Go.Proofs.YtacpejblnjgcoaaW.PrintMore
attribute [local go_sem] max2_int min2_int max_two min_two max_three min_three max_four min_four   -- for this text's walks alone
set_option linter.unusedVariables false
set_option linter.unusedSimpArgs false

/-! ### patchworkref8_table: function 57 -/
theorem patchworkref8_table.calls (A0 : Option Addr) (c0 : Nat) (l0 : List ByteArray) (A1 : Option Addr) (c1 : Nat) (l1 : List ByteArray) (r : List (List Int)) (w : World) (hr0 : Kd.C Kd.string w A0 l0.length l0) (hc0 : l0.length ≤ c0) (hr1 : Kd.C Kd.string w A1 l1.length l1) (hc1 : l1.length ≤ c1) (h : patchworkref8_table.f l0 l1 = some r) :
    Calls Try.prog 57 #[.slice A0 l0.length c0, .slice A1 l1.length c1] w fun e w' => ∃ v0_ : Value, e = .returned (v0_) ∧ Kd.S (Kd.slice 3 (Kd.int .i64)) 37 w' w.heap.size (fun _ => True) v0_ r ∧ Below w.heap.size w w' := by
  unfold patchworkref8_table.f at h
  split at h
  · rename_i hb
    obtain rfl := Option.some.inj h
    refine (ref_table_walk A0 c0 l0 A1 c1 l1 w hr0 hr1 hb.1 hb.2).mono ?_
    rintro e w' ⟨T, rfl, hT, hG⟩
    exact ⟨_, rfl, rows_S hT hG hb.1 hb.2, hT.1⟩
  · exact absurd h (by simp)

end Go.Proofs.Ytacpejblnjgcoaa.P
