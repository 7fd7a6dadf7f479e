/-
  No cell of these rows narrows 'for every input' (looked for: loops, veiled, ifaces, maps, wideKeys, modest, calm, conditions, laid).
  DERIVED. THE GIVEN ROWS OF THIS SEAT. 6 by the template 'for every input the law returns true; each argument reads behind the call as it read before'; 0 by the template 'total and deterministic' (their statements: YtknkkfdkcemolaaTotals.lean).
  GIVEN WITH THE SEED: the statements are not yours to turn. If you find one false, say at which input.
  Laid BY PROGRAM, IN A SANDBOX (cutbox-rows.mjs): the forced cells as the released guide's own fill.sh prints them over the translation 09b03d267dca0b5c… (all of the seat's roots in one cut). By AI agents, Wed Nov 11 2026. No macro, syntax, notation, axiom, sorry.
-/
import Derived.Test.YtknkkfdkcemolaaChecked
import GoSem.Claim
import GoSem.ClaimJoined
import GoSem.ClaimMapViews
import Derived.JoinedTies
import Derived.KernelRfl
namespace Go.Proofs.Ytknkkfdkcemolaa
/- THE CELL 'sum', in the pinned program and in every row, IS THE sha256 OF THE DUMP (.gsa) THAT YtknkkfdkcemolaaProg.lean LOADS. Nothing in Lean hashes anything: it is a label: what it is worth is what the hold of that sum in a sandbox is worth. -/
noncomputable def Try.pinned : Pinned := { name := "ytknkkfdkcemolaa", sum := "09b03d267dca0b5c2a483fe661d9fbae803e904df9b63a428521714c67a3e90b", checked := Try.checked }
namespace Rows
def none {H : Type} : Left H := { results := [], args := [] }

/-- 'moatlaw10.SynTells': WHATEVER THE INPUT: true; the input reads as it did. -/
def synTellsSpec : ChangeSpec := { name := "synTells", fn := fun _ => fun
  | [d] => { results := [.lit (.bool true)], args := [d] }
  | _ => none }
def synTellsRow : OpenClaim := { program := "ytknkkfdkcemolaa", sum := "09b03d267dca0b5c2a483fe661d9fbae803e904df9b63a428521714c67a3e90b", func := "moat/moatlaw10.SynTells", spec := "synTells", inPlace := ["internal/bytealg.IndexByteString", "internal/bytealg.IndexString", "internal/abi.NoEscape", "internal/bytealg.MakeNoZero"], unfollowed := true, recurses := true, named := ["internal/bytealg.MaxLen"], apart := false }
def SynTellsSaid : Prop := synTellsRow.holds Try.pinned (OpenSpec.ofChange synTellsSpec)

/-- ITS FALSE NEIGHBOUR: 'it returns false'. Refute it at one input. -/
def synTellsWrong : ChangeSpec := { name := "synTells", fn := fun _ => fun
  | [d] => { results := [.lit (.bool false)], args := [d] }
  | _ => none }
def SynTellsWrongFalsely : Prop := synTellsRow.holds Try.pinned (OpenSpec.ofChange synTellsWrong)

/-- 'moatlaw10.SynCut': WHATEVER THE INPUT: true; the input reads as it did. -/
def synCutSpec : ChangeSpec := { name := "synCut", fn := fun _ => fun
  | [d1, d2] => { results := [.lit (.bool true)], args := [d1, d2] }
  | _ => none }
def synCutRow : OpenClaim := { program := "ytknkkfdkcemolaa", sum := "09b03d267dca0b5c2a483fe661d9fbae803e904df9b63a428521714c67a3e90b", func := "moat/moatlaw10.SynCut", spec := "synCut", inPlace := ["internal/bytealg.IndexByteString", "internal/bytealg.IndexString", "internal/abi.NoEscape", "internal/bytealg.MakeNoZero"], unfollowed := true, recurses := true, named := ["internal/bytealg.MaxLen"], apart := false }
def SynCutSaid : Prop := synCutRow.holds Try.pinned (OpenSpec.ofChange synCutSpec)

/-- ITS FALSE NEIGHBOUR: 'it returns false'. Refute it at one input. -/
def synCutWrong : ChangeSpec := { name := "synCut", fn := fun _ => fun
  | [d1, d2] => { results := [.lit (.bool false)], args := [d1, d2] }
  | _ => none }
def SynCutWrongFalsely : Prop := synCutRow.holds Try.pinned (OpenSpec.ofChange synCutWrong)

/-- 'moatlaw10.SynDeep': WHATEVER THE INPUT: true; the input reads as it did. -/
def synDeepSpec : ChangeSpec := { name := "synDeep", fn := fun _ => fun
  | [d1, d2] => { results := [.lit (.bool true)], args := [d1, d2] }
  | _ => none }
def synDeepRow : OpenClaim := { program := "ytknkkfdkcemolaa", sum := "09b03d267dca0b5c2a483fe661d9fbae803e904df9b63a428521714c67a3e90b", func := "moat/moatlaw10.SynDeep", spec := "synDeep", inPlace := ["internal/bytealg.IndexByteString", "internal/bytealg.IndexString", "internal/abi.NoEscape", "internal/bytealg.MakeNoZero"], unfollowed := true, recurses := true, named := ["internal/bytealg.MaxLen"], apart := false }
def SynDeepSaid : Prop := synDeepRow.holds Try.pinned (OpenSpec.ofChange synDeepSpec)

/-- ITS FALSE NEIGHBOUR: 'it returns false'. Refute it at one input. -/
def synDeepWrong : ChangeSpec := { name := "synDeep", fn := fun _ => fun
  | [d1, d2] => { results := [.lit (.bool false)], args := [d1, d2] }
  | _ => none }
def SynDeepWrongFalsely : Prop := synDeepRow.holds Try.pinned (OpenSpec.ofChange synDeepWrong)

/-- 'moatlaw10.SynBinds': WHATEVER THE INPUT: true; the input reads as it did. -/
def synBindsSpec : ChangeSpec := { name := "synBinds", fn := fun _ => fun
  | [d1, d2] => { results := [.lit (.bool true)], args := [d1, d2] }
  | _ => none }
def synBindsRow : OpenClaim := { program := "ytknkkfdkcemolaa", sum := "09b03d267dca0b5c2a483fe661d9fbae803e904df9b63a428521714c67a3e90b", func := "moat/moatlaw10.SynBinds", spec := "synBinds", inPlace := ["internal/bytealg.IndexByteString", "internal/bytealg.IndexString", "internal/abi.NoEscape", "internal/bytealg.MakeNoZero"], unfollowed := true, recurses := true, named := ["internal/bytealg.MaxLen"], apart := false }
def SynBindsSaid : Prop := synBindsRow.holds Try.pinned (OpenSpec.ofChange synBindsSpec)

/-- ITS FALSE NEIGHBOUR: 'it returns false'. Refute it at one input. -/
def synBindsWrong : ChangeSpec := { name := "synBinds", fn := fun _ => fun
  | [d1, d2] => { results := [.lit (.bool false)], args := [d1, d2] }
  | _ => none }
def SynBindsWrongFalsely : Prop := synBindsRow.holds Try.pinned (OpenSpec.ofChange synBindsWrong)

/-- 'moatlaw10.SynJoins': WHATEVER THE INPUT: true; the input reads as it did. -/
def synJoinsSpec : ChangeSpec := { name := "synJoins", fn := fun _ => fun
  | [d1, d2] => { results := [.lit (.bool true)], args := [d1, d2] }
  | _ => none }
def synJoinsRow : OpenClaim := { program := "ytknkkfdkcemolaa", sum := "09b03d267dca0b5c2a483fe661d9fbae803e904df9b63a428521714c67a3e90b", func := "moat/moatlaw10.SynJoins", spec := "synJoins", inPlace := ["internal/bytealg.IndexByteString", "internal/bytealg.IndexString", "internal/abi.NoEscape", "internal/bytealg.MakeNoZero"], unfollowed := true, recurses := true, named := ["internal/bytealg.MaxLen"], apart := false }
def SynJoinsSaid : Prop := synJoinsRow.holds Try.pinned (OpenSpec.ofChange synJoinsSpec)

/-- ITS FALSE NEIGHBOUR: 'it returns false'. Refute it at one input. -/
def synJoinsWrong : ChangeSpec := { name := "synJoins", fn := fun _ => fun
  | [d1, d2] => { results := [.lit (.bool false)], args := [d1, d2] }
  | _ => none }
def SynJoinsWrongFalsely : Prop := synJoinsRow.holds Try.pinned (OpenSpec.ofChange synJoinsWrong)

/-- 'moatlaw10.SynAttrs': WHATEVER THE INPUT: true; the input reads as it did. -/
def synAttrsSpec : ChangeSpec := { name := "synAttrs", fn := fun _ => fun
  | [d1, d2] => { results := [.lit (.bool true)], args := [d1, d2] }
  | _ => none }
def synAttrsRow : OpenClaim := { program := "ytknkkfdkcemolaa", sum := "09b03d267dca0b5c2a483fe661d9fbae803e904df9b63a428521714c67a3e90b", func := "moat/moatlaw10.SynAttrs", spec := "synAttrs", inPlace := ["internal/bytealg.IndexByteString", "internal/bytealg.IndexString", "internal/abi.NoEscape", "internal/bytealg.MakeNoZero"], unfollowed := true, recurses := true, named := ["internal/bytealg.MaxLen"], apart := false }
def SynAttrsSaid : Prop := synAttrsRow.holds Try.pinned (OpenSpec.ofChange synAttrsSpec)

/-- ITS FALSE NEIGHBOUR: 'it returns false'. Refute it at one input. -/
def synAttrsWrong : ChangeSpec := { name := "synAttrs", fn := fun _ => fun
  | [d1, d2] => { results := [.lit (.bool false)], args := [d1, d2] }
  | _ => none }
def SynAttrsWrongFalsely : Prop := synAttrsRow.holds Try.pinned (OpenSpec.ofChange synAttrsWrong)

/- THE SECOND FORM. 'bulk': how many values and letters a reading holds, each counted each time it is reached (what is shared counts as often as it is met; a slice's spare places count too). A statement '..UptoSaid' is the law's where the arguments, and the package variables that the reading takes, are together of bulk at most 1048576: NARROWER than '..Said'. Prove '..Said' where nothing that the law and all that it calls make is longer than what came in: it says more and counts as full. Else prove '..UptoSaid'. A law counts once. -/
mutual
def uptoBulk {H : Type} : DataW H → Nat
  | .lit (.string bytes) => bytes.length + 1
  | .lit _ => 1
  | .nil => 1
  | .ptr d => uptoBulk d + 1
  | .slice elems spare => uptoBulkAll elems + uptoBulkAll spare + 1
  | .agg parts => uptoBulkAll parts + 1
  | .iface _ d => uptoBulk d + 1
  | .map entries => uptoBulkEntries entries + 1
  | .held _ => 1
def uptoBulkAll {H : Type} : List (DataW H) → Nat
  | [] => 0
  | d :: r => uptoBulk d + uptoBulkAll r
def uptoBulkEntries {H : Type} : List (Lit × DataW H) → Nat
  | [] => 0
  | x :: r => uptoBulkEntry x + uptoBulkEntries r
def uptoBulkEntry {H : Type} : Lit × DataW H → Nat
  | (.string bytes, d) => bytes.length + uptoBulk d + 1
  | (_, d) => uptoBulk d + 1
 end
def uptoSmall : (H : Type) → List (DataW H) → Bool := fun _ ds => decide (uptoBulkAll ds ≤ 1048576)
def OpenSpec.upto (s : _root_.Go.ChangeSpec) : _root_.Go.OpenSpec := { _root_.Go.OpenSpec.ofChange s with cond := some uptoSmall }

/-- 'moatlaw10.SynTells', WHERE WHAT IT READS IS OF BULK AT MOST 1048576: true; the input reads as it did. -/
def synTellsUptoRow : OpenClaim := { program := "ytknkkfdkcemolaa", sum := "09b03d267dca0b5c2a483fe661d9fbae803e904df9b63a428521714c67a3e90b", func := "moat/moatlaw10.SynTells", spec := "synTells", inPlace := ["internal/bytealg.IndexByteString", "internal/bytealg.IndexString", "internal/abi.NoEscape", "internal/bytealg.MakeNoZero"], unfollowed := true, recurses := true, named := ["internal/bytealg.MaxLen"], apart := false, narrowed := true }
def SynTellsUptoSaid : Prop := synTellsUptoRow.holds Try.pinned (OpenSpec.upto synTellsSpec)

/-- 'moatlaw10.SynCut', WHERE WHAT IT READS IS OF BULK AT MOST 1048576: true; the input reads as it did. -/
def synCutUptoRow : OpenClaim := { program := "ytknkkfdkcemolaa", sum := "09b03d267dca0b5c2a483fe661d9fbae803e904df9b63a428521714c67a3e90b", func := "moat/moatlaw10.SynCut", spec := "synCut", inPlace := ["internal/bytealg.IndexByteString", "internal/bytealg.IndexString", "internal/abi.NoEscape", "internal/bytealg.MakeNoZero"], unfollowed := true, recurses := true, named := ["internal/bytealg.MaxLen"], apart := false, narrowed := true }
def SynCutUptoSaid : Prop := synCutUptoRow.holds Try.pinned (OpenSpec.upto synCutSpec)

/-- 'moatlaw10.SynDeep', WHERE WHAT IT READS IS OF BULK AT MOST 1048576: true; the input reads as it did. -/
def synDeepUptoRow : OpenClaim := { program := "ytknkkfdkcemolaa", sum := "09b03d267dca0b5c2a483fe661d9fbae803e904df9b63a428521714c67a3e90b", func := "moat/moatlaw10.SynDeep", spec := "synDeep", inPlace := ["internal/bytealg.IndexByteString", "internal/bytealg.IndexString", "internal/abi.NoEscape", "internal/bytealg.MakeNoZero"], unfollowed := true, recurses := true, named := ["internal/bytealg.MaxLen"], apart := false, narrowed := true }
def SynDeepUptoSaid : Prop := synDeepUptoRow.holds Try.pinned (OpenSpec.upto synDeepSpec)

/-- 'moatlaw10.SynBinds', WHERE WHAT IT READS IS OF BULK AT MOST 1048576: true; the input reads as it did. -/
def synBindsUptoRow : OpenClaim := { program := "ytknkkfdkcemolaa", sum := "09b03d267dca0b5c2a483fe661d9fbae803e904df9b63a428521714c67a3e90b", func := "moat/moatlaw10.SynBinds", spec := "synBinds", inPlace := ["internal/bytealg.IndexByteString", "internal/bytealg.IndexString", "internal/abi.NoEscape", "internal/bytealg.MakeNoZero"], unfollowed := true, recurses := true, named := ["internal/bytealg.MaxLen"], apart := false, narrowed := true }
def SynBindsUptoSaid : Prop := synBindsUptoRow.holds Try.pinned (OpenSpec.upto synBindsSpec)

/-- 'moatlaw10.SynJoins', WHERE WHAT IT READS IS OF BULK AT MOST 1048576: true; the input reads as it did. -/
def synJoinsUptoRow : OpenClaim := { program := "ytknkkfdkcemolaa", sum := "09b03d267dca0b5c2a483fe661d9fbae803e904df9b63a428521714c67a3e90b", func := "moat/moatlaw10.SynJoins", spec := "synJoins", inPlace := ["internal/bytealg.IndexByteString", "internal/bytealg.IndexString", "internal/abi.NoEscape", "internal/bytealg.MakeNoZero"], unfollowed := true, recurses := true, named := ["internal/bytealg.MaxLen"], apart := false, narrowed := true }
def SynJoinsUptoSaid : Prop := synJoinsUptoRow.holds Try.pinned (OpenSpec.upto synJoinsSpec)

/-- 'moatlaw10.SynAttrs', WHERE WHAT IT READS IS OF BULK AT MOST 1048576: true; the input reads as it did. -/
def synAttrsUptoRow : OpenClaim := { program := "ytknkkfdkcemolaa", sum := "09b03d267dca0b5c2a483fe661d9fbae803e904df9b63a428521714c67a3e90b", func := "moat/moatlaw10.SynAttrs", spec := "synAttrs", inPlace := ["internal/bytealg.IndexByteString", "internal/bytealg.IndexString", "internal/abi.NoEscape", "internal/bytealg.MakeNoZero"], unfollowed := true, recurses := true, named := ["internal/bytealg.MaxLen"], apart := false, narrowed := true }
def SynAttrsUptoSaid : Prop := synAttrsUptoRow.holds Try.pinned (OpenSpec.upto synAttrsSpec)

end Rows
end Go.Proofs.Ytknkkfdkcemolaa
