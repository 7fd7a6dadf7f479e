/- A law that answers true, whatever comes in and whatever number the library's variable holds. -/
import Derived.Test.YtknkkfdkcemolaaVmU
import Derived.Test.YtknkkfdkcemolaaVmT
namespace Go.Proofs.Ytknkkfdkcemolaa.Vm
open Go
theorem gl_m {m : Int} {W : World} (h : W.cell? ⟨0, 0, none⟩ = some (.int .i64 m)) : GlOk (L m) (c0 W) := by
  intro g
  show Rep (c0 W) (.pointer (some ⟨g, 0, none⟩)) (if g = 0 then .box [.int .i64 m] else .undef)
  by_cases hg : g = 0
  · subst hg
    rw [if_pos rfl]
    refine .box 0 0 [.int .i64 m] (fun _ => .int .i64 m) ?_ (fun o d ho => ?_) (fun o ho => ?_) (fun o d ho => ?_)
    · show 0 < W.heap.size
      unfold World.cell? at h
      cases hh : W.heap[0]? with
      | none => simp [hh] at h
      | some x => exact (Array.getElem?_eq_some_iff.1 hh).1
    · cases o with
      | zero => exact h
      | succ o => simp at ho
    · rfl
    · cases o with
      | zero => obtain rfl : D.int .i64 m = d := by simpa using ho
                exact .int _ _
      | succ o => simp at ho
  · rw [if_neg hg]
    exact .undef _
theorem law_callsM {m : Int} {g : FuncId} {args : List D} {W : World} {vs : List Value} (hm : W.cell? ⟨0, 0, none⟩ = some (.int .i64 m)) (h : Ans (L m) g args (.bool true)) (hr : RepsL (c0 W) vs args) :
    Calls Try.prog g vs.toArray W fun e W' => e = .returned (.bool true) ∧ RowKit.Below W.heap.size W W' := by
  have h' := ans_calls h
  refine (h'.2 (c0 W) vs.toArray (c0_inv W) rfl (gl_m hm) (by simpa using hr.len) hr.get).mono fun e w' ⟨r, c', ⟨_, q⟩, q2, q3, q4, q5⟩ => ?_
  subst q q2
  refine ⟨?_, q4.os, q4.tape, q4.output, q4.size, fun k hk => q4.frame k hk (fun ⟨r, b, h1, _⟩ => by simp [c0] at h1)⟩
  cases e with
  | returned v => cases (show Rep c' v (.bool true) from q5); rfl
  | panicked => exact q5.elim
  | outgrown => exact q5.elim
end Go.Proofs.Ytknkkfdkcemolaa.Vm
