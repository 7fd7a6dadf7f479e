/- In a drawn region: a call that is lent what it works on. -/
import Derived.Test.YtknkkfdkcemolaaVmX
set_option linter.unusedSimpArgs false
namespace Go.Proofs.Ytknkkfdkcemolaa.Vm
open Go
section
variable {L : Lang} {Q : DPost}
variable {H : Heap} {ops : Array Oper} {f0 : Fr} {n1 : Nat} {ds1 ds2 ds : List Nat} {seen seen' : List (Option Nat × D)} {tied : List Nat} {hist : List (Nat × Heap)} {r : List Oper} {dst : Option Nat} {op : Op} {ty : TypeId} {pos : String} {after : Array Edge} {guard : Option (Nat × Bool)}
theorem a_lend (fine : Fine L) {g : FuncId} {args args' : List D} {v : D} (hds : (if seen.length < n1 then ds1 else ds2) = ds) (hg : ∀ u, guardD ops (wkF seen after.toList (mixF f0 u ds)) ⟨dst, op, ty, pos, after, guard⟩ = some true) (hc : ∀ u, callOf L (wkF seen after.toList (mixF f0 u ds)) op = some (g, args))
    (h : Ans L g args' v) (hl : SnapL (fun _ => True) H args args') (hd : Scalar v) (hb : (hist.all fun p => bef ops seen.length p.1) = true) (hs : seen ++ [(dst, v)] = seen')
    {tied' : List Nat} (ht : tied ++ [seen.length] = tied') (k : planA L ops f0 Q n1 ds1 ds2 seen' tied' hist H r) : planA L ops f0 Q n1 ds1 ds2 seen tied hist H (⟨dst, op, ty, pos, after, guard⟩ :: r) := by
  subst hs ht
  unfold Ans at h
  refine .inr (.inl ⟨v, fun u => ?_, fun p hp => .inl (List.all_eq_true.1 hb p hp), k⟩)
  rw [frm_at hds]
  exact .inr ⟨hg u, .inr ⟨g, args, hc u, .inl ((h.lend fine hl fun r hr => hr ▸ hd).mono fun r H' hr => ⟨hr.2, hr.1⟩)⟩⟩
end
end Go.Proofs.Ytknkkfdkcemolaa.Vm
