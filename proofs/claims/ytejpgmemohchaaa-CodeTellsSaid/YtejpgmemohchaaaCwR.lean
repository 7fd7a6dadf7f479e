/- What the rows of code need: bytes, numbers, states as arguments. -/
import Derived.Test.YtejpgmemohchaaaVmU
import Derived.Test.YtejpgmemohchaaaCdC
import Derived.Test.YtejpgmemohchaaaCwA
set_option linter.unusedSimpArgs false
namespace Go.Proofs.Ytejpgmemohchaaa.Vm
open Go Go.RowKit

theorem i64_wf {n : Int} (h : (Lit.int .i64 n).wf = true) : I64 n := by
  have : (decide ((-9223372036854775808 : Int) ≤ n) && decide (n ≤ 9223372036854775807)) = true := h
  simp only [Bool.and_eq_true, decide_eq_true_eq] at this
  exact ⟨this.1, by omega⟩
theorem u8_wf {n : Int} (h : (Lit.int .u8 n).wf = true) : [D.int .u8 n] = encB (UInt8.ofNat n.toNat) := by
  have : (decide ((0 : Int) ≤ n) && decide (n ≤ 255)) = true := h
  simp only [Bool.and_eq_true, decide_eq_true_eq] at this
  have e : ((UInt8.ofNat n.toNat).toNat : Int) = n := by
    rw [UInt8.toNat_ofNat']
    omega
  rw [encB, e]
end Go.Proofs.Ytejpgmemohchaaa.Vm
