/- The program's language; its one package-level variable (the library's) holds some number m. -/
import Derived.Test.YtknkkfdkcemolaaVmO
import Derived.Test.YtknkkfdkcemolaaVmQ
import Derived.Test.YtknkkfdkcemolaaProg
import Derived.KernelRfl
namespace Go.Proofs.Ytknkkfdkcemolaa.Vm
open Go
noncomputable def L (m : Int) : Lang := ⟨Try.prog, tiOf Try.prog, fun g => if g = 0 then .box [.int .i64 m] else .undef⟩
set_option maxRecDepth 100000 in
theorem L_ok {m : Int} : (L m).Ok := ⟨tiOf_ok _, by kernel_rfl⟩
theorem fine {m : Int} : Fine (L m) := fun g => by
  show Flat (if g = 0 then D.box [.int .i64 m] else .undef)
  split
  · simp
  · exact .undef
end Go.Proofs.Ytknkkfdkcemolaa.Vm
