/- What the rows need of numbers as arguments. -/
import Derived.Test.YtkeanadlfkfglaaVmU
set_option linter.unusedSimpArgs false
namespace Go.Proofs.Ytkeanadlfkfglaa.Vm
open Go Go.RowKit
def I64 (n : Int) : Prop := -9223372036854775808 ≤ n ∧ n < 9223372036854775808
theorem i64_wf {n : Int} (h : (Lit.int .i64 n).wf = true) : I64 n := by
  have : (decide ((-9223372036854775808 : Int) ≤ n) && decide (n ≤ 9223372036854775807)) = true := h
  simp only [Bool.and_eq_true, decide_eq_true_eq] at this
  exact ⟨this.1, by omega⟩
end Go.Proofs.Ytkeanadlfkfglaa.Vm
