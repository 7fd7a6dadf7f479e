/- The program's language. -/
import Derived.Test.YtejpgmemohchaaaVmO
import Derived.Test.YtejpgmemohchaaaProg
import Derived.KernelRfl
namespace Go.Proofs.Ytejpgmemohchaaa.Vm
open Go
noncomputable def L : Lang := langOf Try.prog
set_option maxRecDepth 100000 in
theorem L_ok : L.Ok := langOf_ok (by kernel_rfl)
theorem fine : Fine L := langOf_fine _
end Go.Proofs.Ytejpgmemohchaaa.Vm
