/- Guarded operations of which it isn't known whether they are carried out: no two ways, but a value that hangs on the guard. -/
import Derived.Test.YtknkkfdkcemolaaVmX
set_option linter.unusedVariables false
set_option linter.unusedSimpArgs false
namespace Go.Proofs.Ytknkkfdkcemolaa.Vm
open Go
variable {L : Lang} {f : Fr} {H : Heap} {Q : DPost}

@[simp] theorem flat_func (fn : Fn) (a b : List D) : Flat (.func fn a b) ↔ (∀ d, d ∈ a → Flat d) ∧ ∀ d, d ∈ b → Flat d := ⟨fun h => by cases h; exact ⟨by assumption, by assumption⟩, fun h => .func fn a b h.1 h.2⟩
/-- What a guard's value tells. -/
def gOf (x : D) (want : Bool) : Option Bool := match x with
  | .bool b => some (b == want)
  | .tuple [] => some false
  | _ => none
@[simp] theorem gOf_bool (b want : Bool) : gOf (.bool b) want = some (b == want) := rfl
@[simp] theorem gOf_un (want : Bool) : gOf (.tuple []) want = some false := rfl
@[simp] theorem gOf_cond (c b want : Bool) : gOf (bif c then .bool b else .tuple []) want = some (c && (b == want)) := by cases c <;> rfl
@[simp] theorem gOf_cond' (c b want : Bool) : gOf (bif c then .tuple [] else .bool b) want = some (!c && (b == want)) := by cases c <;> rfl
theorem g_none {ops : Array Oper} {o : Oper} (h : o.guard = none) : guardD ops f o = some true := by simp [guardD, h]
theorem g_sym {ops : Array Oper} {o : Oper} {j t : Nat} {want b : Bool} {x : D} (ho : o.guard = some (j, want)) (hj : (ops[j]?).bind (·.dst) = some t) (hf : f t = x) (hx : gOf x want = some b) : guardD ops f o = some b := by
  subst hf
  simp only [guardD, ho, hj]
  unfold gOf at hx
  split at hx
  · rename_i h; rw [h]; exact hx
  · rename_i h; rw [h]; exact hx
  · cases hx
theorem o_maybe {ops : Array Oper} {dst : Option Nat} {op : Op} {ty : TypeId} {pos : String} {after : Array Edge} {guard : Option (Nat × Bool)} {r : List Oper} {b : Bool} {v : D} (hg : guardD ops f ⟨dst, op, ty, pos, after, guard⟩ = some b)
    (h : b = true → valD L f H op = some v) (k : opsD L ops Q r (f.put dst (bif b then v else .tuple [])) H) : opsD L ops Q (⟨dst, op, ty, pos, after, guard⟩ :: r) f H := by
  cases b with
  | true => exact o_val hg (h rfl) k
  | false => exact o_no hg k
theorem o_mpick {ops : Array Oper} {dst : Option Nat} {c x y : Operand} {ty : TypeId} {pos : String} {after : Array Edge} {guard : Option (Nat × Bool)} {r : List Oper} {b p u w : Bool} {xc xx xy : D} (hg : guardD ops f ⟨dst, .pick c x y, ty, pos, after, guard⟩ = some b)
    (hc : b = true → evD L f c = xc) (hc' : xc = .bool p) (hx : b = true → p = true → evD L f x = xx) (hx' : xx = .bool u) (hy : b = true → p = false → evD L f y = xy) (hy' : xy = .bool w) (k : opsD L ops Q r (f.put dst (bif b then .bool (bif p then u else w) else .tuple [])) H) :
    opsD L ops Q (⟨dst, .pick c x y, ty, pos, after, guard⟩ :: r) f H := by
  subst hc' hx' hy'
  cases b with
  | false => exact o_no hg k
  | true =>
    refine o_val hg ?_ k
    simp only [valD, pickD, hc rfl]
    cases p with
    | true =>
      rw [hx rfl rfl]
      split
      · rename_i e1 e2; cases e1; rfl
      · rfl
    | false =>
      rw [hy rfl rfl]
      split
      · rename_i e1 e2; cases e2; rfl
      · rfl
theorem o_mfn (fine : Fine L) {ops : Array Oper} {dst : Option Nat} {op : Op} {ty : TypeId} {pos : String} {after : Array Edge} {guard : Option (Nat × Bool)} {r : List Oper} {g : FuncId} {args : List D} {d : D} {b : Bool} (hg : guardD ops f ⟨dst, op, ty, pos, after, guard⟩ = some b)
    (hc : b = true → callOf L f op = some (g, args)) (h : b = true → Ans L g args d) (hf : b = true → ∀ a, a ∈ args → Flat a) (k : opsD L ops Q r (f.put dst (bif b then d else .tuple [])) H) : opsD L ops Q (⟨dst, op, ty, pos, after, guard⟩ :: r) f H := by
  cases b with
  | false => exact o_no hg k
  | true => exact o_fn fine hg (hc rfl) (h rfl) (hf rfl) k
theorem o_mlend (fine : Fine L) {ops : Array Oper} {dst : Option Nat} {op : Op} {ty : TypeId} {pos : String} {after : Array Edge} {guard : Option (Nat × Bool)} {r : List Oper} {g : FuncId} {args args' : List D} {d : D} {b : Bool} (hg : guardD ops f ⟨dst, op, ty, pos, after, guard⟩ = some b)
    (hc : b = true → callOf L f op = some (g, args)) (h : b = true → Ans L g args' d) (hs : b = true → SnapL (fun _ => True) H args args') (hd : Scalar d) (k : opsD L ops Q r (f.put dst (bif b then d else .tuple [])) H) : opsD L ops Q (⟨dst, op, ty, pos, after, guard⟩ :: r) f H := by
  cases b with
  | false => exact o_no hg k
  | true => exact o_lend fine hg (hc rfl) (h rfl) (hs rfl) hd k
/-- Of two ways that end alike: the condition alone hangs on. -/
theorem w_both {c : Operand} {a b : Code} {t : Bool} {x : D} (hx : evD L f c = x) (hc : x = .bool t) (h : ∀ t', t = t' → wpD L (bif t' then a else b) f H Q) : wpD L (.cond c a b) f H Q := by
  refine w_cond hx hc (fun ht => ?_) (fun ht => ?_)
  · exact h true ht
  · exact h false ht
/-- A drawn region whose assignments do not wait for what stands ahead: nothing that it sets is read but by what waits for it. -/
theorem w_drawN {id : Nat} {ops : Array Oper} {n1 : Nat} {ds : List Nat} (hn : ops.size = n1) (hc : planOk ops n1 = true) (hd : dstsOf ops.toList = ds) (h : planA L ops f Q n1 ds ds [] [] [] H ops.toList) : wpD L (.region id ops true) f H Q := by
  subst hn hd
  refine any_planA hc ?_
  rw [List.take_of_length_le (by simp)]
  exact h
/-- Two texts, one behind the other. -/
theorem o_cat {ops : Array Oper} {dst : Option Nat} {t yt : TypeId} {x y : Operand} {ty : TypeId} {pos : String} {after : Array Edge} {guard : Option (Nat × Bool)} {r : List Oper} {a b c : List UInt8} {u v : D} (hg : guardD ops f ⟨dst, .binOp .add t x y yt, ty, pos, after, guard⟩ = some true)
    (hu : evD L f x = u) (hx : u = .str a) (hv : evD L f y = v) (hy : v = .str b) (hw : a.length + b.length ≤ 9223372036854775807) (hc : a ++ b = c) (k : opsD L ops Q r (f.put dst (.str c)) H) : opsD L ops Q (⟨dst, .binOp .add t x y yt, ty, pos, after, guard⟩ :: r) f H := by
  subst hc
  refine o_val hg ?_ k
  have hw' : (a.length + b.length : Nat) ≤ 9223372036854775807 := hw
  simp only [valD, binOpD, hu, hv, hx, hy, binD, hw', if_true]
end Go.Proofs.Ytknkkfdkcemolaa.Vm
