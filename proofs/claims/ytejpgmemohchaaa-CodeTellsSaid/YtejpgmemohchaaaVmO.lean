/- What is known of the types of a program: computed from it. -/
import Derived.Test.YtejpgmemohchaaaVmN
namespace Go.Proofs.Ytejpgmemohchaaa.Vm
open Go

def kOf : TypeDesc → K
  | .bool => .bool
  | .int k => .int k
  | .string => .str
  | .struct fields => if fields.toList.all (fun f => f.name != "_") then .agg (fields.toList.map fun f => (f.offset, f.type)) else .other
  | .array n e => .arr n e
  | .slice e => .slice e
  | .pointer e => .ptr e
  | .map k e => .map k e
  | .interface _ => .iface
  | .func _ _ _ => .func
  | _ => .other
theorem kOf_fits (d : TypeDesc) : (kOf d).fits d := by
  cases d <;> try trivial
  case struct fields =>
    simp only [kOf]
    split
    · rename_i h
      refine ⟨fields, rfl, rfl, fun f hf => ?_⟩
      have := List.all_eq_true.1 h f hf
      simpa using this
    · trivial
  case interface ms => exact ⟨ms, rfl⟩
  case func a b v => exact ⟨a, b, v, rfl⟩
def isAggV : Value → Bool
  | .agg _ => true
  | _ => false
def tiOf (P : Program) (t : TypeId) : TI := match P.info? t, P.underlying t with
  | some i, some d => match i.zero with
    | some z => if (z.cells.toList.all fun v => zm v (constD v)) && z.cells.size == i.size && isAg d == isAggV z then
        { k := kOf d, size := i.size, bytes := i.bytes, zero := z.cells.toList.map constD, eq := !P.stoodInHeld t && !P.eqGuardType P.depth t }
      else default
    | none => default
  | _, _ => default
theorem tiOf_ok (P : Program) (t : TypeId) : TiOk P t (tiOf P t) := by
  unfold tiOf
  split
  · rename_i i d hi hd
    split
    · rename_i z hz
      split
      · rename_i h
        simp only [Bool.and_eq_true, List.all_eq_true, beq_iff_eq] at h
        obtain ⟨⟨h1, h2⟩, h3⟩ := h
        have key : ∃ i' z' d', P.info? t = some i' ∧ i'.size = i.size ∧ i'.bytes = i.bytes ∧ i'.zero = some z' ∧ z'.cells.size = (z.cells.toList.map constD).length ∧ (z.cells.toList.map constD).length = i.size ∧
            (∀ (j : Nat) (x : D), (z.cells.toList.map constD)[j]? = some x → zm (z'.cells.getD j undef) x = true) ∧ P.underlying t = some d' ∧ (kOf d).fits d' ∧
            (isAg d' = true ↔ ∃ a, z' = .agg a) ∧ ((!P.stoodInHeld t && !P.eqGuardType P.depth t) = true → P.stoodInHeld t = false ∧ P.eqGuardType P.depth t = false) := by
          refine ⟨i, z, d, hi, rfl, rfl, hz, by simp, by simp [h2], fun j x hx => ?_, hd, kOf_fits d, ?_, fun h => by simpa using h⟩
          · rw [List.getElem?_map] at hx
            obtain ⟨v, hv, rfl⟩ := Option.map_eq_some_iff.1 hx
            have hm := h1 v (List.mem_of_getElem? hv)
            rw [Array.getElem?_toList] at hv
            have : z.cells.getD j undef = v := by rw [Array.getD_eq_getD_getElem?, hv]; rfl
            rw [this]
            exact hm
          · rw [h3]
            cases z <;> simp [isAggV]
        unfold TiOk
        split
        · trivial
        · exact key
      · trivial
    · trivial
  · trivial

/-- The language of a program of which no package-level variable is told. -/
def langOf (P : Program) : Lang := ⟨P, tiOf P, fun _ => .undef⟩
theorem langOf_ok {P : Program} (h : P.follows .mixedOrders = true) : (langOf P).Ok := ⟨tiOf_ok P, h⟩
theorem langOf_fine (P : Program) : Fine (langOf P) := fun _ => .undef
end Go.Proofs.Ytejpgmemohchaaa.Vm
