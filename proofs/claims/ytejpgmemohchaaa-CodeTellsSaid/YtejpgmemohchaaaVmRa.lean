/- Regions inside a round of a range over a function: what holds of an operation in a plain frame holds in a round's. -/
import Derived.Test.YtejpgmemohchaaaVmLs
import Derived.TacticsIn
import Derived.OrdersIn
import Derived.RangeFuncIn
import Derived.RangeFuncRecord
set_option linter.unusedSimpArgs false
set_option linter.unusedVariables false
namespace Go.Proofs.Ytejpgmemohchaaa.Vm
open Go
/-- A fence that lets all in: of a frame, or of a round. -/
def WideF (F : Fence) : Prop := F = Fence.wide ∨ ∃ l, F = Fence.wide.inRound l
theorem WideF.fn {F : Fence} (h : WideF F) (f : FuncId) : F.fn f := by rcases h with rfl | ⟨l, rfl⟩ <;> trivial
theorem WideF.depth {F : Fence} (h : WideF F) : F.depth.isSome = true → 1 ≤ 0 := by rcases h with rfl | ⟨l, rfl⟩ <;> (intro h; cases h)
theorem WideF.room {F : Fence} (h : WideF F) (n : Nat) : F.room n := by rcases h with rfl | ⟨l, rfl⟩ <;> exact room_wide n
section
variable {F : Fence} (hF : WideF F) {n : Nat} {P : Program}
include hF
theorem calls_in {f : FuncId} {args : Array Value} {w : World} {R : Ending → World → Prop} (h : Calls P f args w R) : CallsIn F n P f args w R := by
  rcases hF with rfl | ⟨l, rfl⟩
  · exact callsIn_wide.2 h
  · exact (callsIn_wide (n := n)).2 h
theorem steps_in {m m' : Machine} (h : Steps P m m') : StepsIn (Machine.fenced P F) P m m' := by
  rcases hF with rfl | ⟨l, rfl⟩
  · exact stepsIn_wide.2 h
  · exact stepsIn_wide.2 h
theorem round_in {l : Nat} {f : FuncId} {tmps : Array Value} {as bo : Code} {w : World} {R : Ending → World → Prop} (h : RoundIn Fence.wide 0 P l f tmps as bo w R) : RoundIn F n P l f tmps as bo w R := by
  rcases hF with rfl | ⟨l', rfl⟩
  · exact ⟨trivial, fun c cs _ => h.2 c cs (room_wide _)⟩
  · exact ⟨trivial, fun c cs _ => h.2 c cs (room_wide _)⟩
theorem depth_in {k : Nat} : F.depth.isSome = true → 1 ≤ k := fun h => absurd (hF.depth h) (by omega)
theorem oper_in {o : Oper} {a : Act} {w : World} {next : Act → World → Prop} {Q : Exit → Act → World → Prop} (hnd : ∀ c, o.op ≠ .defer c) (h : o.wp P a w next Q) : o.wpIn F n P a w next Q := by
  refine ⟨fun f _ => hF.fn f, ?_⟩
  have hs : o.semAt F.round a.eval = execOp a.eval o := by
    unfold Oper.semAt
    split
    · rename_i l c h1 h2; exact absurd h2 (hnd c)
    · rfl
  rw [hs]
  unfold Oper.wp at h
  cases hr : (execOp a.eval o).run P w with
  | ok nx w' =>
    rw [hr] at h
    cases nx with
    | value v => exact h
    | skip => exact h
    | defer d => exact h
    | enter f args => exact ⟨depth_in hF, calls_in hF h⟩
    | row row args => exact ⟨depth_in hF, fun c cs _ => let ⟨v, w'', r, s⟩ := h c cs; ⟨v, w'', r, steps_in hF s⟩⟩
    | _ => exact h.elim
  | halt e w' =>
    rw [hr] at h
    cases e with
    | panic v => exact h
    | _ => exact h.elim
omit hF in
theorem oper_mono {o : Oper} {a : Act} {w : World} {next next' : Act → World → Prop} {Q : Exit → Act → World → Prop} (hk : ∀ a w, next a w → next' a w) (h : o.wp P a w next Q) : o.wp P a w next' Q := Oper.wp_mono hk h
variable {ops : Array Oper} {Q : Exit → Act → World → Prop} (hout : ¬ LetsOut Q) (hnd : ∀ o, o ∈ ops.toList → ∀ c, o.op ≠ .defer c)
include hout hnd
theorem list_in : ∀ (l : List Oper) (a : Act) (w : World), (∀ o, o ∈ l → o ∈ ops.toList) → wpList P ops Q l a w → wpListIn F n P ops Q l a w
  | [], a, w, _, h => h
  | o :: r, a, w, hl, h => by
    unfold wpList at h
    unfold wpListIn
    split at h
    · rename_i hw
      rw [if_pos hw]
      rcases h with h | h
      · exact oper_in hF (hnd o (hl o (List.mem_cons_self ..))) (oper_mono (fun a w h => list_in r a w (fun o ho => hl o (List.mem_cons_of_mem _ ho)) h) h)
      · exact absurd h.2 hout
    · rename_i hw
      rw [if_neg hw]
      exact ⟨fun f _ => hF.fn f, list_in r _ w (fun o ho => hl o (List.mem_cons_of_mem _ ho)) h⟩
theorem any_in : ∀ (k : Nat) (listed : Array Bool) (a : Act) (w : World), wpAny P .any ops Q k listed a w → wpAnyIn F n P .any ops Q k listed a w
  | 0, listed, a, w, h => h
  | k + 1, listed, a, w, h => by
    refine ⟨h.1, fun i hi => ?_⟩
    have hh := h.2 i hi
    unfold wpOp at hh
    unfold wpOpIn
    cases ho : ops[i]? with
    | none => rw [ho] at hh; exact any_in k _ a w hh
    | some o =>
      rw [ho] at hh
      dsimp only at hh ⊢
      have hmem : o ∈ ops.toList := by
        rw [← Array.getElem?_toList] at ho
        exact List.mem_of_getElem? ho
      split at hh
      · rename_i hw
        rw [if_pos hw]
        rcases hh with hh | hh
        · exact oper_in hF (hnd o hmem) (oper_mono (fun a w h => any_in k _ a w h) hh)
        · exact absurd hh.2 hout
      · rename_i hw
        rw [if_neg hw]
        exact ⟨fun f _ => hF.fn f, any_in k _ _ w hh⟩
end
end Go.Proofs.Ytejpgmemohchaaa.Vm
