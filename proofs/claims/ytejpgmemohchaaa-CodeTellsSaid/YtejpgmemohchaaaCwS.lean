/- A state as an argument. -/
import Derived.Test.YtejpgmemohchaaaCwR
import Derived.Test.YtejpgmemohchaaaCwJ
set_option linter.unusedSimpArgs false
namespace Go.Proofs.Ytejpgmemohchaaa.Vm
open Go Go.RowKit

section
variable {H : Type} {enc : TypeId × Value → H} {W : World}
def rqArg (i : Nat) : List D → Prop := match i with
  | 0 | 1 | 2 | 6 => fun ds => ∃ n, ds = [.int .i64 n] ∧ (Lit.int .i64 n).wf = true
  | 3 | 4 | 5 => fun ds => ∃ b, ds = [.bool b]
  | _ => fun ds => ∃ xs, ds = [.isl (Try.prog.cellsOf 3) xs] ∧ (∀ x, x ∈ xs → ∃ n, x = [.int .i64 n] ∧ (Lit.int .i64 n).wf = true) ∧ xs.length ≤ maxLen
theorem opens_rq : Opens enc Try.prog W 41 fun ds => ds.length = 8 ∧ ∀ (i : Nat) (d : D), ds[i]? = some d → rqArg i [d] := by
  refine opens_flat Try.underlying41 (by kernel_rfl) (fun i f hf => ?_) (fun i f hf => ?_)
  · have hi := (Array.getElem?_eq_some_iff.1 hf).1
    match i, hi, hf with
    | 0, _, hf => obtain rfl := Option.some.inj hf; exact ⟨rfl, by kernel_rfl⟩
    | 1, _, hf => obtain rfl := Option.some.inj hf; exact ⟨rfl, by kernel_rfl⟩
    | 2, _, hf => obtain rfl := Option.some.inj hf; exact ⟨rfl, by kernel_rfl⟩
    | 3, _, hf => obtain rfl := Option.some.inj hf; exact ⟨rfl, by kernel_rfl⟩
    | 4, _, hf => obtain rfl := Option.some.inj hf; exact ⟨rfl, by kernel_rfl⟩
    | 5, _, hf => obtain rfl := Option.some.inj hf; exact ⟨rfl, by kernel_rfl⟩
    | 6, _, hf => obtain rfl := Option.some.inj hf; exact ⟨rfl, by kernel_rfl⟩
    | 7, _, hf => obtain rfl := Option.some.inj hf; exact ⟨rfl, by kernel_rfl⟩
    | n + 8, hi, _ => exact absurd hi (by simp)
  · have hi := (Array.getElem?_eq_some_iff.1 hf).1
    match i, hi, hf with
    | 0, _, hf => obtain rfl := Option.some.inj hf; exact opens_int Try.underlying3
    | 1, _, hf => obtain rfl := Option.some.inj hf; exact opens_int Try.underlying3
    | 2, _, hf => obtain rfl := Option.some.inj hf; exact opens_int Try.underlying3
    | 3, _, hf => obtain rfl := Option.some.inj hf; exact opens_bool Try.underlying4
    | 4, _, hf => obtain rfl := Option.some.inj hf; exact opens_bool Try.underlying4
    | 5, _, hf => obtain rfl := Option.some.inj hf; exact opens_bool Try.underlying4
    | 6, _, hf => obtain rfl := Option.some.inj hf; exact opens_int Try.underlying3
    | 7, _, hf => obtain rfl := Option.some.inj hf; exact opens_slice Try.underlying24 (opens_int Try.underlying3) (of_decide_eq_true (by kernel_rfl))
    | n + 8, hi, _ => exact absurd hi (by simp)
theorem ints_of {xs : List (List D)} (h : ∀ x, x ∈ xs → ∃ n, x = [.int .i64 n] ∧ (Lit.int .i64 n).wf = true) : ∃ l : List Int, xs = l.map encI ∧ ∀ n, n ∈ l → I64 n :=
  maps (f := encI) fun x hx => (h x hx).imp fun _ hn => ⟨hn.1, i64_wf hn.2⟩
theorem bools_of {xs : List (List D)} (h : ∀ x, x ∈ xs → ∃ b, x = [.bool b]) : ∃ l : List Bool, xs = l.map encT :=
  (maps (f := encT) (Q := fun _ => True) fun x hx => (h x hx).imp fun _ hn => ⟨hn, trivial⟩).imp fun _ hl => hl.1
theorem one_cell : Try.prog.cellsOf 3 = 1 ∧ Try.prog.cellsOf 4 = 1 ∧ Try.prog.cellsOf 41 = 8 := ⟨by kernel_rfl, by kernel_rfl, by kernel_rfl⟩
theorem rq_of {ds : List D} (h : ds.length = 8 ∧ ∀ (i : Nat) (d : D), ds[i]? = some d → rqArg i [d]) : ∃ r : Rq, ds = rqC r ∧ r.Wf := by
  obtain ⟨hl, hr⟩ := h
  match ds, hl with
  | [d0, d1, d2, d3, d4, d5, d6, d7], _ =>
    obtain ⟨a0, h0, w0⟩ := hr 0 _ rfl
    obtain rfl := (List.cons.inj h0).1
    obtain ⟨a1, h1, w1⟩ := hr 1 _ rfl
    obtain rfl := (List.cons.inj h1).1
    obtain ⟨a2, h2, w2⟩ := hr 2 _ rfl
    obtain rfl := (List.cons.inj h2).1
    obtain ⟨a3, h3⟩ := hr 3 _ rfl
    obtain rfl := (List.cons.inj h3).1
    obtain ⟨a4, h4⟩ := hr 4 _ rfl
    obtain rfl := (List.cons.inj h4).1
    obtain ⟨a5, h5⟩ := hr 5 _ rfl
    obtain rfl := (List.cons.inj h5).1
    obtain ⟨a6, h6, w6⟩ := hr 6 _ rfl
    obtain rfl := (List.cons.inj h6).1
    obtain ⟨x7, h7, y7, _⟩ := hr 7 _ rfl
    obtain rfl := (List.cons.inj h7).1
    obtain ⟨a7, rfl, z7⟩ := ints_of y7
    rw [one_cell.1]
    exact ⟨⟨a0, a1, a2, a3, a4, a5, a6, a7⟩, rfl, ⟨i64_wf w0, i64_wf w1, i64_wf w2, i64_wf w6, z7⟩⟩
def stArg (i : Nat) : List D → Prop := match i with
  | 0 => fun ds => ∃ n, ds = [.int .i64 n] ∧ (Lit.int .i64 n).wf = true
  | 1 => fun ds => ∃ b, ds = [.bool b]
  | 2 | 3 => fun ds => ∃ xs, ds = [.isl (Try.prog.cellsOf 3) xs] ∧ (∀ x, x ∈ xs → ∃ n, x = [.int .i64 n] ∧ (Lit.int .i64 n).wf = true) ∧ xs.length ≤ maxLen
  | 4 | 5 | 6 => fun ds => ∃ xs, ds = [.isl (Try.prog.cellsOf 4) xs] ∧ (∀ x, x ∈ xs → ∃ b, x = [.bool b]) ∧ xs.length ≤ maxLen
  | _ => fun ds => ∃ xs, ds = [.isl (Try.prog.cellsOf 41) xs] ∧ (∀ x, x ∈ xs → x.length = 8 ∧ ∀ (i : Nat) (d : D), x[i]? = some d → rqArg i [d]) ∧ xs.length ≤ maxLen
theorem opens_st : Opens enc Try.prog W 28 fun ds => ds.length = 8 ∧ ∀ (i : Nat) (d : D), ds[i]? = some d → stArg i [d] := by
  refine opens_flat Try.underlying28 (by kernel_rfl) (fun i f hf => ?_) (fun i f hf => ?_)
  · have hi := (Array.getElem?_eq_some_iff.1 hf).1
    match i, hi, hf with
    | 0, _, hf => obtain rfl := Option.some.inj hf; exact ⟨rfl, by kernel_rfl⟩
    | 1, _, hf => obtain rfl := Option.some.inj hf; exact ⟨rfl, by kernel_rfl⟩
    | 2, _, hf => obtain rfl := Option.some.inj hf; exact ⟨rfl, by kernel_rfl⟩
    | 3, _, hf => obtain rfl := Option.some.inj hf; exact ⟨rfl, by kernel_rfl⟩
    | 4, _, hf => obtain rfl := Option.some.inj hf; exact ⟨rfl, by kernel_rfl⟩
    | 5, _, hf => obtain rfl := Option.some.inj hf; exact ⟨rfl, by kernel_rfl⟩
    | 6, _, hf => obtain rfl := Option.some.inj hf; exact ⟨rfl, by kernel_rfl⟩
    | 7, _, hf => obtain rfl := Option.some.inj hf; exact ⟨rfl, by kernel_rfl⟩
    | n + 8, hi, _ => exact absurd hi (by simp)
  · have hi := (Array.getElem?_eq_some_iff.1 hf).1
    match i, hi, hf with
    | 0, _, hf => obtain rfl := Option.some.inj hf; exact opens_int Try.underlying3
    | 1, _, hf => obtain rfl := Option.some.inj hf; exact opens_bool Try.underlying4
    | 2, _, hf => obtain rfl := Option.some.inj hf; exact opens_slice Try.underlying24 (opens_int Try.underlying3) (of_decide_eq_true (by kernel_rfl))
    | 3, _, hf => obtain rfl := Option.some.inj hf; exact opens_slice Try.underlying24 (opens_int Try.underlying3) (of_decide_eq_true (by kernel_rfl))
    | 4, _, hf => obtain rfl := Option.some.inj hf; exact opens_slice Try.underlying25 (opens_bool Try.underlying4) (of_decide_eq_true (by kernel_rfl))
    | 5, _, hf => obtain rfl := Option.some.inj hf; exact opens_slice Try.underlying25 (opens_bool Try.underlying4) (of_decide_eq_true (by kernel_rfl))
    | 6, _, hf => obtain rfl := Option.some.inj hf; exact opens_slice Try.underlying25 (opens_bool Try.underlying4) (of_decide_eq_true (by kernel_rfl))
    | 7, _, hf => obtain rfl := Option.some.inj hf; exact opens_slice Try.underlying26 opens_rq (of_decide_eq_true (by kernel_rfl))
    | n + 8, hi, _ => exact absurd hi (by simp)
theorem arg_st {cs : Array Value} {d : DataW H} {ps : List MemPlace} (hd : DataW.Trod enc Try.prog W 0 (fun _ => true) true 28 (.agg cs) d ps) : ∃ s : St, s.Wf ∧ Rep (c0 W) (.agg cs) (stD s) := by
  obtain ⟨ds, ⟨hl, hr⟩, hrep⟩ := arg_agg opens_st hd
  match ds, hl with
  | [d0, d1, d2, d3, d4, d5, d6, d7], _ =>
    obtain ⟨a0, h0, w0⟩ := hr 0 _ rfl
    obtain rfl := (List.cons.inj h0).1
    obtain ⟨a1, h1⟩ := hr 1 _ rfl
    obtain rfl := (List.cons.inj h1).1
    obtain ⟨x2, h2, y2, _⟩ := hr 2 _ rfl
    obtain rfl := (List.cons.inj h2).1
    obtain ⟨a2, rfl, z2⟩ := ints_of y2
    obtain ⟨x3, h3, y3, _⟩ := hr 3 _ rfl
    obtain rfl := (List.cons.inj h3).1
    obtain ⟨a3, rfl, z3⟩ := ints_of y3
    obtain ⟨x4, h4, y4, _⟩ := hr 4 _ rfl
    obtain rfl := (List.cons.inj h4).1
    obtain ⟨a4, rfl⟩ := bools_of y4
    obtain ⟨x5, h5, y5, _⟩ := hr 5 _ rfl
    obtain rfl := (List.cons.inj h5).1
    obtain ⟨a5, rfl⟩ := bools_of y5
    obtain ⟨x6, h6, y6, _⟩ := hr 6 _ rfl
    obtain rfl := (List.cons.inj h6).1
    obtain ⟨a6, rfl⟩ := bools_of y6
    obtain ⟨x7, h7, y7, _⟩ := hr 7 _ rfl
    obtain rfl := (List.cons.inj h7).1
    obtain ⟨a7, rfl, z7⟩ := maps (f := rqC) fun x hx => rq_of (y7 x hx)
    rw [one_cell.1, one_cell.2.1, one_cell.2.2] at hrep
    exact ⟨⟨a0, a1, a2, a3, a4, a5, a6, a7⟩, ⟨i64_wf w0, z2, z3, z7⟩, hrep⟩
end
end Go.Proofs.Ytejpgmemohchaaa.Vm
