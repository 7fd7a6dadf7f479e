/- The program's language. -/
import Derived.Test.YtefhaeaakidaiaaVmO
import Derived.Test.YtefhaeaakidaiaaProg
import Derived.KernelRfl
namespace Go.Proofs.Ytefhaeaakidaiaa.Vm
open Go
noncomputable def L : Lang := langOf Try.prog
theorem L_ok : L.Ok := langOf_ok (by kernel_rfl)
theorem fine : Fine L := langOf_fine _
end Go.Proofs.Ytefhaeaakidaiaa.Vm
