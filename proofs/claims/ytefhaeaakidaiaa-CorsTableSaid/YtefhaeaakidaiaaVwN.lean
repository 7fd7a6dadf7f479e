/- Plain facts for CorsTable: the endpoint that the bits tell. -/
import Derived.Test.YtefhaeaakidaiaaVwE
import Derived.Test.YtefhaeaakidaiaaVmZd
set_option linter.unusedSimpArgs false
set_option linter.unusedVariables false
set_option maxRecDepth 100000
set_option maxHeartbeats 4000000
namespace Go.Proofs.Ytefhaeaakidaiaa.Vm
open Go
attribute [local irreducible] wpD opsD thenD blockD planD planA
attribute [local simp] List.take_of_length_le List.drop_of_length_le

def byOf (w : Nat) : Int := [0, 1, 2, -1, -3, -2].getD w 0
/-- The endpoint that the bits tell. -/
def eT (b1 b2 c4 c8 c16 c32 c64 c128 : Bool) : Ep := { name := [], origin := 0, method := bif c16 then [80, 85, 84] else [71, 69, 84], path := [], page := false, inject := false, scripts := [], needs := [], heads := bif c64 then [[65, 99, 99, 101, 112, 116], [88, 45, 84, 111, 107, 101, 110]] else [], own := false, sets := [], gives := [], changes := false, opens := false, redirect := 0, any := b1, creds := b2, cors := (bif c4 then [1] else []) ++ (bif c8 then [-1] else []), allow := bif c128 then [[120, 45, 116, 111, 107, 101, 110]] else [], methods := bif c32 then [[68, 69, 76, 69, 84, 69], [80, 85, 84]] else [], policy := [] }
theorem eT_ok (b1 b2 c4 c8 c16 c32 c64 c128 : Bool) : (eT b1 b2 c4 c8 c16 c32 c64 c128).Ok := by
  cases c4 <;> cases c8 <;> cases c16 <;> cases c32 <;> cases c64 <;> cases c128 <;> exact ⟨by simp [eT], by simp [eT], by simp [eT], by simp [eT], by simp [eT], by simp [eT]⟩
theorem simple_T : ∀ c16 c64 h : Bool, isSimple (bif c16 then [80, 85, 84] else [71, 69, 84]) (if h then (bif c64 then [[65, 99, 99, 101, 112, 116], [88, 45, 84, 111, 107, 101, 110]] else []) else []) = !(c16 || (c64 && h)) := by decide
theorem meth_T : ∀ c16 : Bool, isMethod (bif c16 then [80, 85, 84] else [71, 69, 84]) = !c16 := by decide
theorem all_T : ∀ c64 c128 h : Bool, ((if h then (bif c64 then [[65, 99, 99, 101, 112, 116], [88, 45, 84, 111, 107, 101, 110]] else []) else [] : List (List UInt8)).all fun x => isHead x || (bif c128 then [[120, 45, 116, 111, 107, 101, 110]] else []).any fun s => lower s == lower x) = (!(c64 && h) || c128) := by decide
theorem lets_T (w : Nat) (hw : w < 6) (b1 b2 c4 c8 c16 c32 c64 c128 creds : Bool) : lets (eT b1 b2 c4 c8 c16 c32 c64 c128) (byOf w) creds = (byOf w == 0 || ((c4 && byOf w == 1) || (c8 && byOf w == -1)) && (!creds || b2) || b1 && !creds) := by
  obtain rfl | rfl | rfl | rfl | rfl | rfl : w = 0 ∨ w = 1 ∨ w = 2 ∨ w = 3 ∨ w = 4 ∨ w = 5 := by omega
  all_goals (simp only [lets, eT]; cases c4 <;> cases c8 <;> simp [byOf])
theorem ahead_T (w : Nat) (b1 b2 c4 c8 c16 c32 c64 c128 h : Bool) : ahead (eT b1 b2 c4 c8 c16 c32 c64 c128) (byOf w) h = ((c16 || (c64 && h)) && byOf w != 0) := by
  simp only [ahead, asked, eT, simple_T, Bool.not_not]
  exact Bool.and_comm _ _
theorem may_T (w : Nat) (b1 b2 c4 c8 c16 c32 c64 c128 creds h : Bool) : may (eT b1 b2 c4 c8 c16 c32 c64 c128) (byOf w) creds h = (!((c16 || (c64 && h)) && byOf w != 0) || (lets (eT b1 b2 c4 c8 c16 c32 c64 c128) (byOf w) creds && ((!c16 || c32) && (!(c64 && h) || c128)))) := by
  have e1 : (isMethod (eT b1 b2 c4 c8 c16 c32 c64 c128).method || (eT b1 b2 c4 c8 c16 c32 c64 c128).methods.any (fun x => (eT b1 b2 c4 c8 c16 c32 c64 c128).method == x)) = (!c16 || c32) := by
    simp only [eT, meth_T]
    cases c16 <;> cases c32 <;> rfl
  have e2 : (asked (eT b1 b2 c4 c8 c16 c32 c64 c128) h).all (isAllowed (eT b1 b2 c4 c8 c16 c32 c64 c128)) = (!(c64 && h) || c128) := all_T c64 c128 h
  rw [may, ahead_T, e1, e2, Bool.and_assoc]
end Go.Proofs.Ytefhaeaakidaiaa.Vm
