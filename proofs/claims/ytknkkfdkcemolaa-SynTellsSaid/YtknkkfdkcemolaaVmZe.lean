/- Contracts of the library, lifted: a function that answers one value and leaves the world as it was. -/
import Derived.Test.YtknkkfdkcemolaaVmX
namespace Go.Proofs.Ytknkkfdkcemolaa.Vm
open Go
theorem ext_ans {L : Lang} {g : FuncId} {args : List D} {d : D} (he : Enters L.P g)
    (h : ∀ (c : Cx) (vs : Array Value), Inv c → GlOk L c → vs.size = args.length → (∀ (i : Nat) (d : D), args[i]? = some d → Rep c (vs.getD i undef) d) → ∃ v, (∀ c', Rep c' v d) ∧ Calls L.P g vs c.w fun e w' => e = .returned v ∧ w' = c.w) : Ans L g args d := by
  unfold Ans
  refine ⟨he, fun c vs inv hc hg hsz hargs => ?_⟩
  obtain ⟨v, h1, h2⟩ := h c vs inv hg hsz hargs
  refine h2.mono ?_
  rintro e w' ⟨rfl, rfl⟩
  exact ⟨.ret d, c, ⟨hc, rfl⟩, rfl, inv, .refl, h1 c⟩
theorem ext_below {L : Lang} {g : FuncId} {args : List D} {d : D} (he : Enters L.P g)
    (h : ∀ (c : Cx) (vs : Array Value), Inv c → GlOk L c → vs.size = args.length → (∀ (i : Nat) (d : D), args[i]? = some d → Rep c (vs.getD i undef) d) → ∃ v, (∀ c', Rep c' v d) ∧ Calls L.P g vs c.w fun e w' => e = .returned v ∧ RowKit.Below c.w.heap.size c.w w') : Ans L g args d := by
  unfold Ans
  refine ⟨he, fun c vs inv hc hg hsz hargs => ?_⟩
  obtain ⟨v, h1, h2⟩ := h c vs inv hg hsz hargs
  refine h2.mono ?_
  rintro e w' ⟨rfl, hb⟩
  have hno : ∀ b, ¬ Own c b := fun b ⟨r, k, h3, _⟩ => by simp [hc] at h3
  have le : Le c { c with w := w' } := by
    refine ⟨hb.os, hb.tape, hb.output, hb.size, Nat.le_refl _, fun b h => h, fun b h => hb.block b (inv.imlt b h), fun b h => .inl h, fun b h => .inl h, fun b h _ => hb.block b h, fun _ _ => Nat.le_refl _, fun r g sz ro xs hr => by simp [hc] at hr, fun r g ro es hr => by simp [hc] at hr⟩
  exact ⟨.ret d, { c with w := w' }, ⟨hc, rfl⟩, rfl, ⟨fun b h => Nat.lt_of_lt_of_le (inv.imlt b h) hb.size, fun r k hk => by simp [hc] at hk, fun r r' k k' b hk => by simp [hc] at hk⟩, le, h1 _⟩
theorem rep_str {c : Cx} {v : Value} {l : List UInt8} (h : Rep c v (.str l)) : ∃ s : ByteArray, v = .string s ∧ s.data.toList = l := by
  cases h with
  | str s _ hs => exact ⟨s, rfl, hs⟩
theorem rep_int {c : Cx} {v : Value} {k : IntKind} {n : Int} (h : Rep c v (.int k n)) : v = .int k n := by
  cases h
  rfl
theorem args_one {vs : Array Value} (h : vs.size = 1) : vs = #[vs.getD 0 undef] := by
  obtain ⟨l⟩ := vs
  match l, h with
  | [x], _ => rfl
theorem args_two {vs : Array Value} (h : vs.size = 2) : vs = #[vs.getD 0 undef, vs.getD 1 undef] := by
  obtain ⟨l⟩ := vs
  match l, h with
  | [x, y], _ => rfl
theorem args_three {vs : Array Value} (h : vs.size = 3) : vs = #[vs.getD 0 undef, vs.getD 1 undef, vs.getD 2 undef] := by
  obtain ⟨l⟩ := vs
  match l, h with
  | [x, y, z], _ => rfl
/-- A variable of the library that holds a number. -/
theorem gl_int {L : Lang} {c : Cx} (h : GlOk L c) {g : Nat} {k : IntKind} {m : Int} (hg : L.G g = .box [.int k m]) : c.w.cell? ⟨g, 0, none⟩ = some (.int k m) := by
  have h1 := h g
  rw [hg] at h1
  cases h1 with
  | box b off _ f hi hc h1 hr =>
    have h2 := hc 0 _ rfl
    have h3 := hr 0 _ rfl
    rw [rep_int h3] at h2
    exact h2
end Go.Proofs.Ytknkkfdkcemolaa.Vm
