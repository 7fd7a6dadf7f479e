/-
  No cell of these rows narrows 'for every input' (looked for: loops, veiled, ifaces, maps, wideKeys, modest, calm, conditions, laid).
  DERIVED. THE GIVEN ROWS OF THIS SEAT. 7 by the template 'for every input the law returns true; each argument reads behind the call as it read before'; 0 by the template 'total and deterministic' (their statements: YtefhaeaakidaiaaTotals.lean).
  GIVEN WITH THE SEED: the statements are not yours to turn. If you find one false, say at which input.
  Laid BY PROGRAM, IN A SANDBOX (cutbox-rows.mjs): the forced cells as the released guide's own fill.sh prints them over the translation b34106742efeb3b0… (all of the seat's roots in one cut). By AI agents, Wed Nov 11 2026. No macro, syntax, notation, axiom, sorry.
-/
import Derived.Test.YtefhaeaakidaiaaChecked
import GoSem.Claim
import GoSem.ClaimJoined
import GoSem.ClaimMapViews
import Derived.JoinedTies
import Derived.KernelRfl
namespace Go.Proofs.Ytefhaeaakidaiaa
/- THE CELL 'sum', in the pinned program and in every row, IS THE sha256 OF THE DUMP (.gsa) THAT YtefhaeaakidaiaaProg.lean LOADS. Nothing in Lean hashes anything: it is a label: what it is worth is what the hold of that sum in a sandbox is worth. -/
noncomputable def Try.pinned : Pinned := { name := "ytefhaeaakidaiaa", sum := "b34106742efeb3b0cfb3218220aa3b6f5d45f4eedc2e7ca6136828dde74e18c4", checked := Try.checked }
namespace Rows
def none {H : Type} : Left H := { results := [], args := [] }

/-- 'moatlaw4.SafeTells': WHATEVER THE INPUT: true; the input reads as it did. -/
def safeTellsSpec : ChangeSpec := { name := "safeTells", fn := fun _ => fun
  | [d1, d2] => { results := [.lit (.bool true)], args := [d1, d2] }
  | _ => none }
def safeTellsRow : OpenClaim := { program := "ytefhaeaakidaiaa", sum := "b34106742efeb3b0cfb3218220aa3b6f5d45f4eedc2e7ca6136828dde74e18c4", func := "moat/moatlaw4.SafeTells", spec := "safeTells", apart := false }
def SafeTellsSaid : Prop := safeTellsRow.holds Try.pinned (OpenSpec.ofChange safeTellsSpec)

/-- ITS FALSE NEIGHBOUR: 'it returns false'. Refute it at one input. -/
def safeTellsWrong : ChangeSpec := { name := "safeTells", fn := fun _ => fun
  | [d1, d2] => { results := [.lit (.bool false)], args := [d1, d2] }
  | _ => none }
def SafeTellsWrongFalsely : Prop := safeTellsRow.holds Try.pinned (OpenSpec.ofChange safeTellsWrong)

/-- 'moatlaw4.SafeMore': WHATEVER THE INPUT: true; the input reads as it did. -/
def safeMoreSpec : ChangeSpec := { name := "safeMore", fn := fun _ => fun
  | [d1, d2, d3] => { results := [.lit (.bool true)], args := [d1, d2, d3] }
  | _ => none }
def safeMoreRow : OpenClaim := { program := "ytefhaeaakidaiaa", sum := "b34106742efeb3b0cfb3218220aa3b6f5d45f4eedc2e7ca6136828dde74e18c4", func := "moat/moatlaw4.SafeMore", spec := "safeMore", apart := false }
def SafeMoreSaid : Prop := safeMoreRow.holds Try.pinned (OpenSpec.ofChange safeMoreSpec)

/-- ITS FALSE NEIGHBOUR: 'it returns false'. Refute it at one input. -/
def safeMoreWrong : ChangeSpec := { name := "safeMore", fn := fun _ => fun
  | [d1, d2, d3] => { results := [.lit (.bool false)], args := [d1, d2, d3] }
  | _ => none }
def SafeMoreWrongFalsely : Prop := safeMoreRow.holds Try.pinned (OpenSpec.ofChange safeMoreWrong)

/-- 'moatlaw4.SafeRows': WHATEVER THE INPUT: true; the input reads as it did. -/
def safeRowsSpec : ChangeSpec := { name := "safeRows", fn := fun _ => fun
  | [d1, d2] => { results := [.lit (.bool true)], args := [d1, d2] }
  | _ => none }
def safeRowsRow : OpenClaim := { program := "ytefhaeaakidaiaa", sum := "b34106742efeb3b0cfb3218220aa3b6f5d45f4eedc2e7ca6136828dde74e18c4", func := "moat/moatlaw4.SafeRows", spec := "safeRows", apart := false }
def SafeRowsSaid : Prop := safeRowsRow.holds Try.pinned (OpenSpec.ofChange safeRowsSpec)

/-- ITS FALSE NEIGHBOUR: 'it returns false'. Refute it at one input. -/
def safeRowsWrong : ChangeSpec := { name := "safeRows", fn := fun _ => fun
  | [d1, d2] => { results := [.lit (.bool false)], args := [d1, d2] }
  | _ => none }
def SafeRowsWrongFalsely : Prop := safeRowsRow.holds Try.pinned (OpenSpec.ofChange safeRowsWrong)

/-- 'moatlaw5.CorsTells': WHATEVER THE INPUT: true; the input reads as it did. -/
def corsTellsSpec : ChangeSpec := { name := "corsTells", fn := fun _ => fun
  | [d1, d2, d3, d4] => { results := [.lit (.bool true)], args := [d1, d2, d3, d4] }
  | _ => none }
def corsTellsRow : OpenClaim := { program := "ytefhaeaakidaiaa", sum := "b34106742efeb3b0cfb3218220aa3b6f5d45f4eedc2e7ca6136828dde74e18c4", func := "moat/moatlaw5.CorsTells", spec := "corsTells", unfollowed := true, recurses := true, apart := false }
def CorsTellsSaid : Prop := corsTellsRow.holds Try.pinned (OpenSpec.ofChange corsTellsSpec)

/-- ITS FALSE NEIGHBOUR: 'it returns false'. Refute it at one input. -/
def corsTellsWrong : ChangeSpec := { name := "corsTells", fn := fun _ => fun
  | [d1, d2, d3, d4] => { results := [.lit (.bool false)], args := [d1, d2, d3, d4] }
  | _ => none }
def CorsTellsWrongFalsely : Prop := corsTellsRow.holds Try.pinned (OpenSpec.ofChange corsTellsWrong)

/-- 'moatlaw5.CorsLess': WHATEVER THE INPUT: true; the input reads as it did. -/
def corsLessSpec : ChangeSpec := { name := "corsLess", fn := fun _ => fun
  | [d1, d2] => { results := [.lit (.bool true)], args := [d1, d2] }
  | _ => none }
def corsLessRow : OpenClaim := { program := "ytefhaeaakidaiaa", sum := "b34106742efeb3b0cfb3218220aa3b6f5d45f4eedc2e7ca6136828dde74e18c4", func := "moat/moatlaw5.CorsLess", spec := "corsLess", unfollowed := true, recurses := true, apart := false }
def CorsLessSaid : Prop := corsLessRow.holds Try.pinned (OpenSpec.ofChange corsLessSpec)

/-- ITS FALSE NEIGHBOUR: 'it returns false'. Refute it at one input. -/
def corsLessWrong : ChangeSpec := { name := "corsLess", fn := fun _ => fun
  | [d1, d2] => { results := [.lit (.bool false)], args := [d1, d2] }
  | _ => none }
def CorsLessWrongFalsely : Prop := corsLessRow.holds Try.pinned (OpenSpec.ofChange corsLessWrong)

/-- 'moatlaw5.CorsHeads': WHATEVER THE INPUT: true; the input reads as it did. -/
def corsHeadsSpec : ChangeSpec := { name := "corsHeads", fn := fun _ => fun
  | [d1, d2, d3, d4] => { results := [.lit (.bool true)], args := [d1, d2, d3, d4] }
  | _ => none }
def corsHeadsRow : OpenClaim := { program := "ytefhaeaakidaiaa", sum := "b34106742efeb3b0cfb3218220aa3b6f5d45f4eedc2e7ca6136828dde74e18c4", func := "moat/moatlaw5.CorsHeads", spec := "corsHeads", unfollowed := true, recurses := true, apart := false }
def CorsHeadsSaid : Prop := corsHeadsRow.holds Try.pinned (OpenSpec.ofChange corsHeadsSpec)

/-- ITS FALSE NEIGHBOUR: 'it returns false'. Refute it at one input. -/
def corsHeadsWrong : ChangeSpec := { name := "corsHeads", fn := fun _ => fun
  | [d1, d2, d3, d4] => { results := [.lit (.bool false)], args := [d1, d2, d3, d4] }
  | _ => none }
def CorsHeadsWrongFalsely : Prop := corsHeadsRow.holds Try.pinned (OpenSpec.ofChange corsHeadsWrong)

/-- 'moatlaw5.CorsTable': WHATEVER THE INPUT: true; the input reads as it did. -/
def corsTableSpec : ChangeSpec := { name := "corsTable", fn := fun _ => fun
  | [d1, d2, d3, d4] => { results := [.lit (.bool true)], args := [d1, d2, d3, d4] }
  | _ => none }
def corsTableRow : OpenClaim := { program := "ytefhaeaakidaiaa", sum := "b34106742efeb3b0cfb3218220aa3b6f5d45f4eedc2e7ca6136828dde74e18c4", func := "moat/moatlaw5.CorsTable", spec := "corsTable", unfollowed := true, recurses := true, apart := false }
def CorsTableSaid : Prop := corsTableRow.holds Try.pinned (OpenSpec.ofChange corsTableSpec)

/-- ITS FALSE NEIGHBOUR: 'it returns false'. Refute it at one input. -/
def corsTableWrong : ChangeSpec := { name := "corsTable", fn := fun _ => fun
  | [d1, d2, d3, d4] => { results := [.lit (.bool false)], args := [d1, d2, d3, d4] }
  | _ => none }
def CorsTableWrongFalsely : Prop := corsTableRow.holds Try.pinned (OpenSpec.ofChange corsTableWrong)

/- THE SECOND FORM. 'bulk': how many values and letters a reading holds, each counted each time it is reached (what is shared counts as often as it is met; a slice's spare places count too). A statement '..UptoSaid' is the law's where the arguments, and the package variables that the reading takes, are together of bulk at most 1048576: NARROWER than '..Said'. Prove '..Said' where nothing that the law and all that it calls make is longer than what came in: it says more and counts as full. Else prove '..UptoSaid'. A law counts once. -/
mutual
def uptoBulk {H : Type} : DataW H → Nat
  | .lit (.string bytes) => bytes.length + 1
  | .lit _ => 1
  | .nil => 1
  | .ptr d => uptoBulk d + 1
  | .slice elems spare => uptoBulkAll elems + uptoBulkAll spare + 1
  | .agg parts => uptoBulkAll parts + 1
  | .iface _ d => uptoBulk d + 1
  | .map entries => uptoBulkEntries entries + 1
  | .held _ => 1
def uptoBulkAll {H : Type} : List (DataW H) → Nat
  | [] => 0
  | d :: r => uptoBulk d + uptoBulkAll r
def uptoBulkEntries {H : Type} : List (Lit × DataW H) → Nat
  | [] => 0
  | x :: r => uptoBulkEntry x + uptoBulkEntries r
def uptoBulkEntry {H : Type} : Lit × DataW H → Nat
  | (.string bytes, d) => bytes.length + uptoBulk d + 1
  | (_, d) => uptoBulk d + 1
 end
def uptoSmall : (H : Type) → List (DataW H) → Bool := fun _ ds => decide (uptoBulkAll ds ≤ 1048576)
def OpenSpec.upto (s : _root_.Go.ChangeSpec) : _root_.Go.OpenSpec := { _root_.Go.OpenSpec.ofChange s with cond := some uptoSmall }

/-- 'moatlaw4.SafeTells', WHERE WHAT IT READS IS OF BULK AT MOST 1048576: true; the input reads as it did. -/
def safeTellsUptoRow : OpenClaim := { program := "ytefhaeaakidaiaa", sum := "b34106742efeb3b0cfb3218220aa3b6f5d45f4eedc2e7ca6136828dde74e18c4", func := "moat/moatlaw4.SafeTells", spec := "safeTells", apart := false, narrowed := true }
def SafeTellsUptoSaid : Prop := safeTellsUptoRow.holds Try.pinned (OpenSpec.upto safeTellsSpec)

/-- 'moatlaw4.SafeMore', WHERE WHAT IT READS IS OF BULK AT MOST 1048576: true; the input reads as it did. -/
def safeMoreUptoRow : OpenClaim := { program := "ytefhaeaakidaiaa", sum := "b34106742efeb3b0cfb3218220aa3b6f5d45f4eedc2e7ca6136828dde74e18c4", func := "moat/moatlaw4.SafeMore", spec := "safeMore", apart := false, narrowed := true }
def SafeMoreUptoSaid : Prop := safeMoreUptoRow.holds Try.pinned (OpenSpec.upto safeMoreSpec)

/-- 'moatlaw4.SafeRows', WHERE WHAT IT READS IS OF BULK AT MOST 1048576: true; the input reads as it did. -/
def safeRowsUptoRow : OpenClaim := { program := "ytefhaeaakidaiaa", sum := "b34106742efeb3b0cfb3218220aa3b6f5d45f4eedc2e7ca6136828dde74e18c4", func := "moat/moatlaw4.SafeRows", spec := "safeRows", apart := false, narrowed := true }
def SafeRowsUptoSaid : Prop := safeRowsUptoRow.holds Try.pinned (OpenSpec.upto safeRowsSpec)

/-- 'moatlaw5.CorsTells', WHERE WHAT IT READS IS OF BULK AT MOST 1048576: true; the input reads as it did. -/
def corsTellsUptoRow : OpenClaim := { program := "ytefhaeaakidaiaa", sum := "b34106742efeb3b0cfb3218220aa3b6f5d45f4eedc2e7ca6136828dde74e18c4", func := "moat/moatlaw5.CorsTells", spec := "corsTells", unfollowed := true, recurses := true, apart := false, narrowed := true }
def CorsTellsUptoSaid : Prop := corsTellsUptoRow.holds Try.pinned (OpenSpec.upto corsTellsSpec)

/-- 'moatlaw5.CorsLess', WHERE WHAT IT READS IS OF BULK AT MOST 1048576: true; the input reads as it did. -/
def corsLessUptoRow : OpenClaim := { program := "ytefhaeaakidaiaa", sum := "b34106742efeb3b0cfb3218220aa3b6f5d45f4eedc2e7ca6136828dde74e18c4", func := "moat/moatlaw5.CorsLess", spec := "corsLess", unfollowed := true, recurses := true, apart := false, narrowed := true }
def CorsLessUptoSaid : Prop := corsLessUptoRow.holds Try.pinned (OpenSpec.upto corsLessSpec)

/-- 'moatlaw5.CorsHeads', WHERE WHAT IT READS IS OF BULK AT MOST 1048576: true; the input reads as it did. -/
def corsHeadsUptoRow : OpenClaim := { program := "ytefhaeaakidaiaa", sum := "b34106742efeb3b0cfb3218220aa3b6f5d45f4eedc2e7ca6136828dde74e18c4", func := "moat/moatlaw5.CorsHeads", spec := "corsHeads", unfollowed := true, recurses := true, apart := false, narrowed := true }
def CorsHeadsUptoSaid : Prop := corsHeadsUptoRow.holds Try.pinned (OpenSpec.upto corsHeadsSpec)

/-- 'moatlaw5.CorsTable', WHERE WHAT IT READS IS OF BULK AT MOST 1048576: true; the input reads as it did. -/
def corsTableUptoRow : OpenClaim := { program := "ytefhaeaakidaiaa", sum := "b34106742efeb3b0cfb3218220aa3b6f5d45f4eedc2e7ca6136828dde74e18c4", func := "moat/moatlaw5.CorsTable", spec := "corsTable", unfollowed := true, recurses := true, apart := false, narrowed := true }
def CorsTableUptoSaid : Prop := corsTableUptoRow.holds Try.pinned (OpenSpec.upto corsTableSpec)

end Rows
end Go.Proofs.Ytefhaeaakidaiaa
