/- Walks: CorsTable, whole. -/
import Derived.Test.YtefhaeaakidaiaaVwN1
import Derived.Test.YtefhaeaakidaiaaVwN2
import Derived.Test.YtefhaeaakidaiaaVwN3
import Derived.Test.YtefhaeaakidaiaaVwN4
set_option linter.unusedSimpArgs false
set_option linter.unusedVariables false
set_option maxRecDepth 100000
set_option maxHeartbeats 4000000
namespace Go.Proofs.Ytefhaeaakidaiaa.Vm
open Go
attribute [local irreducible] wpD opsD thenD blockD planD planA
attribute [local simp] List.take_of_length_le List.drop_of_length_le

theorem CorsTable_ok (who bits : Int) (creds heads : Bool) : Ans L 9 [.int .i64 who, .int .i64 bits, .bool creds, .bool heads] (.bool true) := by
  cases z4 : (IntKind.i64.wrap ↑((bits % 2 ^ IntKind.i64.bits).toNat &&& 4 % 2 ^ IntKind.i64.bits) == 4) <;> cases z8 : (IntKind.i64.wrap ↑((bits % 2 ^ IntKind.i64.bits).toNat &&& 8 % 2 ^ IntKind.i64.bits) == 8)
  · exact CorsTable_4 who bits creds heads z4 z8
  · exact CorsTable_3 who bits creds heads z4 z8
  · exact CorsTable_2 who bits creds heads z4 z8
  · exact CorsTable_1 who bits creds heads z4 z8
end Go.Proofs.Ytefhaeaakidaiaa.Vm
