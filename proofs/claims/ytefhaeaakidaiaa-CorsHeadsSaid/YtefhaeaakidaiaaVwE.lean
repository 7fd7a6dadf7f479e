/- Walks: the laws of cors. -/
import Derived.Test.YtefhaeaakidaiaaVwD
import Derived.Test.YtefhaeaakidaiaaVmU
set_option linter.unusedSimpArgs false
set_option maxRecDepth 100000
set_option maxHeartbeats 2000000
namespace Go.Proofs.Ytefhaeaakidaiaa.Vm
open Go
attribute [local irreducible] wpD opsD thenD blockD planD
attribute [local simp] List.take_of_length_le List.drop_of_length_le

theorem Ep.ok_of {e : Ep} (h : greatE e = false) : e.Ok := by
  simp only [greatE, Bool.or_eq_false_iff, decide_eq_false_iff_not] at h
  obtain ⟨⟨⟨⟨_, h2⟩, h3⟩, h4⟩, h5⟩ := h
  have g3 := great_not h3
  have g4 := great_not h4
  have g5 := great_not h5
  exact ⟨by omega, by omega, by omega, by omega, fun x hx => Nat.lt_of_le_of_lt (g4.2 x hx) (by decide), fun x hx => Nat.lt_of_le_of_lt (g3.2 x hx) (by decide)⟩
theorem CorsTells_ok (e : Ep) (b : Int) (c heads : Bool) : Ans L 6 [epD e, .int .i64 b, .bool c, .bool heads] (.bool true) := by
  refine fn_of_body L_ok (fn := Try.f6) rfl rfl rfl rfl (by kernel_rfl) ?_
  repeat' (first
    | apply w_seq
    | apply w_region
    | apply o_end
    | apply t_normal
    | (apply o_add; (focus (first | rfl | (apply g_in; rfl; rfl; (focus (simp [*]; done))))); (focus (simp [*]; rfl)); rfl; (focus (simp [*]; rfl)); rfl; (focus (apply wrap_i64 <;> omega)))
    | (apply o_sub; (focus (first | rfl | (apply g_in; rfl; rfl; (focus (simp [*]; done))))); (focus (simp [*]; rfl)); rfl; (focus (simp [*]; rfl)); rfl; (focus (apply wrap_i64 <;> omega)))
    | (apply o_val; (focus (first | rfl | (apply g_in; rfl; rfl; (focus (simp [*]; done))))); (focus (simp [*]; rfl)))
    | (apply o_fuse; (focus (first | rfl | (apply g_in; rfl; rfl; (focus (simp [*]; done))))); rfl; (focus (simp [*]; first | rfl | exact ⟨rfl, rfl⟩)); (focus (first | rfl | (apply g_in; rfl; rfl; (focus (simp [*]; done))))); rfl; (focus (simp [*]; first | rfl | exact ⟨rfl, rfl⟩ | exact ⟨rfl, rfl, rfl⟩)); (focus (intro d hd; apply Under.flat; revert hd; revert d; simp; done)))
    | (apply o_var; (focus (first | rfl | (apply g_in; rfl; rfl; (focus (simp [*]; done))))); (focus (simp [*]; exact ⟨rfl, rfl⟩)); (focus (simp; done)); (focus (first | exact Snap.flat (by simp) | exact Snap.ref_flat (by simp) rfl rfl rfl (by simp) (by simp) | exact Snap.slice_flat (by simp) rfl (by simp; rfl) (by simp) (by simp) | exact Snap.slice_flat (by simp) (by simp; exact ⟨rfl, rfl, rfl⟩) (by simp; rfl) (by simp) (by simp))))
    | (apply o_fn fine; (focus (first | rfl | (apply g_in; rfl; rfl; (focus (simp [*]; done))))); (focus (simp [*]; exact ⟨rfl, rfl⟩)); (focus (exact great_ok e)); (focus (simp [*]; done)))
    | (apply o_fn fine; (focus (first | rfl | (apply g_in; rfl; rfl; (focus (simp [*]; done))))); (focus (simp [*]; exact ⟨rfl, rfl⟩)); (focus (exact awake5_ok)); (focus (simp [*]; done)))
    | (apply f_retf; (focus (simp [*]; rfl)); (focus (simp; done)); (focus (simp [*]; done)))
    | (apply o_mem; (focus (first | rfl | (apply g_in; rfl; rfl; (focus (simp [*]; done))))); rfl; (focus (simp [*]; exact ⟨rfl, rfl⟩)))
    | apply w_skip
    | apply w_block
    | apply b_normal
    | apply w_ret
    | apply t_ret
    | apply b_ret
    | apply w_exit
    | apply t_exit
    | apply b_here
    | (apply b_on; (focus decide))
    | (apply w_true; (focus (simp [*]; done)))
    | (apply w_false; (focus (simp [*]; done)))
    | ((apply w_cond; (focus (simp [*]; rfl)); rfl) <;> (intro hc; have hc' := hc; try simp at hc'))
    | (apply o_no; (focus (first | (apply g_out; rfl; rfl; (focus (simp [*]; done))) | (apply g_un; rfl; rfl; (focus (simp [*]; done))))))
    | ((apply o_if; rfl; rfl; (focus (simp [*]; rfl)); rfl) <;> (intro hg; (fail_if_success (guard_hyp hg : true = true)); (fail_if_success (guard_hyp hg : false = false)); have hg' := hg; try simp at hg'))
    | (apply w_drawA; rfl; (focus kernel_rfl); (focus (simp; rfl)); (focus (simp; rfl)))
    | (apply a_end; (focus (simp; rfl)))
    | (apply a_val; (focus (simp; rfl)); (focus (intro u; first | rfl | (apply g_in; rfl; rfl; (focus (simp [*]; done))))); (focus (intro H' u; simp [*]; rfl)); (focus (simp only [List.nil_append, List.cons_append]; rfl)))
    | (apply a_fn fine; (focus (simp; rfl)); (focus (intro u; first | rfl | (apply g_in; rfl; rfl; (focus (simp [*]; done))))); (focus (intro u; simp [*]; exact ⟨rfl, rfl⟩)); (focus (exact great_ok e)); (focus (simp [*]; done)); (focus (simp only [List.nil_append, List.cons_append]; rfl)))
    | (apply a_fn fine; (focus (simp; rfl)); (focus (intro u; first | rfl | (apply g_in; rfl; rfl; (focus (simp [*]; done))))); (focus (intro u; simp [*]; exact ⟨rfl, rfl⟩)); (focus (exact awake5_ok)); (focus (simp [*]; done)); (focus (simp only [List.nil_append, List.cons_append]; rfl)))
    | (apply a_tie; (focus (simp; rfl)); (focus (intro u; first | rfl | (apply g_in; rfl; rfl; (focus (simp [*]; done))))); (focus (intro u; simp [*]; rfl)); (focus (first | rfl | kernel_rfl)); (focus (simp only [List.nil_append, List.cons_append]; rfl)); (focus (simp; rfl)))
    | (apply a_no; (focus (simp; rfl)); (focus (intro u; first | (apply g_out; rfl; rfl; (focus (simp [*]; done))) | (apply g_un; rfl; rfl; (focus (simp [*]; done))))); (focus (simp only [List.nil_append, List.cons_append]; rfl)))
    | ((apply a_if; (focus (simp; rfl)); rfl; rfl; (focus (intro u; simp [*]; rfl)); rfl) <;> (intro hg; (fail_if_success (guard_hyp hg : true = true)); (fail_if_success (guard_hyp hg : false = false)); have hg' := hg; try simp at hg'))
    | (apply a_frz; (focus (simp; rfl)); (focus (intro u; first | rfl | (apply g_in; rfl; rfl; (focus (simp [*]; done))))); (focus (intro u; rfl)); (focus (intro H' u; simp [*]; refine ⟨_, _, ⟨rfl, rfl⟩, ?_, ?_⟩; (focus (simp; done)); (focus (first | exact Snap.flat (by simp) | exact Snap.ref_flat (by simp) rfl rfl rfl (by simp) (by simp) | exact Snap.slice_flat (by simp) rfl (by simp; rfl) (by simp) (by simp) | exact Snap.slice_flat (by simp) (by simp; exact ⟨rfl, rfl, rfl⟩) (by simp; rfl) (by simp) (by simp))))); (focus (simp only [List.nil_append, List.cons_append]; rfl)))
    | (apply a_mem; (focus (simp; rfl)); (focus (intro u; first | rfl | (apply g_in; rfl; rfl; (focus (simp [*]; done))))); (focus (intro u; rfl)); (focus (intro u; simp [*]; exact ⟨rfl, rfl⟩)); (focus (first | rfl | kernel_rfl)); (focus (simp only [List.nil_append, List.cons_append]; rfl)); (focus (simp; rfl))))
  have ok := Ep.ok_of (by assumption)
  have a1 := Lets_ok e b c ok.cors
  have a2 := RefLets_ok e b c ok.cors
  have a3 := Ahead_ok e b c heads ok
  have a4 := RefAhead_ok e b heads ok
  have a5 := May_ok e b c heads ok
  have a6 := RefMay_ok e b c heads ok
  repeat' (first
    | apply w_seq
    | apply w_region
    | apply o_end
    | apply t_normal
    | (apply o_add; (focus (first | rfl | (apply g_in; rfl; rfl; (focus (simp [*]; done))))); (focus (simp [*]; rfl)); rfl; (focus (simp [*]; rfl)); rfl; (focus (apply wrap_i64 <;> omega)))
    | (apply o_sub; (focus (first | rfl | (apply g_in; rfl; rfl; (focus (simp [*]; done))))); (focus (simp [*]; rfl)); rfl; (focus (simp [*]; rfl)); rfl; (focus (apply wrap_i64 <;> omega)))
    | (apply o_val; (focus (first | rfl | (apply g_in; rfl; rfl; (focus (simp [*]; done))))); (focus (simp [*]; rfl)))
    | (apply o_fuse; (focus (first | rfl | (apply g_in; rfl; rfl; (focus (simp [*]; done))))); rfl; (focus (simp [*]; first | rfl | exact ⟨rfl, rfl⟩)); (focus (first | rfl | (apply g_in; rfl; rfl; (focus (simp [*]; done))))); rfl; (focus (simp [*]; first | rfl | exact ⟨rfl, rfl⟩ | exact ⟨rfl, rfl, rfl⟩)); (focus (intro d hd; apply Under.flat; revert hd; revert d; simp; done)))
    | (apply o_var; (focus (first | rfl | (apply g_in; rfl; rfl; (focus (simp [*]; done))))); (focus (simp [*]; exact ⟨rfl, rfl⟩)); (focus (simp; done)); (focus (first | exact Snap.flat (by simp) | exact Snap.ref_flat (by simp) rfl rfl rfl (by simp) (by simp) | exact Snap.slice_flat (by simp) rfl (by simp; rfl) (by simp) (by simp) | exact Snap.slice_flat (by simp) (by simp; exact ⟨rfl, rfl, rfl⟩) (by simp; rfl) (by simp) (by simp))))
    | (apply o_fn fine; (focus (first | rfl | (apply g_in; rfl; rfl; (focus (simp [*]; done))))); (focus (simp [*]; exact ⟨rfl, rfl⟩)); (focus (exact a1)); (focus (simp [*]; done)))
    | (apply o_fn fine; (focus (first | rfl | (apply g_in; rfl; rfl; (focus (simp [*]; done))))); (focus (simp [*]; exact ⟨rfl, rfl⟩)); (focus (exact a2)); (focus (simp [*]; done)))
    | (apply o_fn fine; (focus (first | rfl | (apply g_in; rfl; rfl; (focus (simp [*]; done))))); (focus (simp [*]; exact ⟨rfl, rfl⟩)); (focus (exact a3)); (focus (simp [*]; done)))
    | (apply o_fn fine; (focus (first | rfl | (apply g_in; rfl; rfl; (focus (simp [*]; done))))); (focus (simp [*]; exact ⟨rfl, rfl⟩)); (focus (exact a4)); (focus (simp [*]; done)))
    | (apply o_fn fine; (focus (first | rfl | (apply g_in; rfl; rfl; (focus (simp [*]; done))))); (focus (simp [*]; exact ⟨rfl, rfl⟩)); (focus (exact a5)); (focus (simp [*]; done)))
    | (apply o_fn fine; (focus (first | rfl | (apply g_in; rfl; rfl; (focus (simp [*]; done))))); (focus (simp [*]; exact ⟨rfl, rfl⟩)); (focus (exact a6)); (focus (simp [*]; done)))
    | (apply o_fn fine; (focus (first | rfl | (apply g_in; rfl; rfl; (focus (simp [*]; done))))); (focus (simp [*]; exact ⟨rfl, rfl⟩)); (focus (exact awake5_ok)); (focus (simp [*]; done)))
    | (apply f_retf; (focus (simp [*]; rfl)); (focus (simp; done)); (focus (simp [*]; done)))
    | (apply o_mem; (focus (first | rfl | (apply g_in; rfl; rfl; (focus (simp [*]; done))))); rfl; (focus (simp [*]; exact ⟨rfl, rfl⟩)))
    | apply w_skip
    | apply w_block
    | apply b_normal
    | apply w_ret
    | apply t_ret
    | apply b_ret
    | apply w_exit
    | apply t_exit
    | apply b_here
    | (apply b_on; (focus decide))
    | (apply w_true; (focus (simp [*]; done)))
    | (apply w_false; (focus (simp [*]; done)))
    | ((apply w_cond; (focus (simp [*]; rfl)); rfl) <;> (intro hc; have hc' := hc; try simp at hc'))
    | (apply o_no; (focus (first | (apply g_out; rfl; rfl; (focus (simp [*]; done))) | (apply g_un; rfl; rfl; (focus (simp [*]; done))))))
    | ((apply o_if; rfl; rfl; (focus (simp [*]; rfl)); rfl) <;> (intro hg; (fail_if_success (guard_hyp hg : true = true)); (fail_if_success (guard_hyp hg : false = false)); have hg' := hg; try simp at hg'))
    | (apply w_drawA; rfl; (focus kernel_rfl); (focus (simp; rfl)); (focus (simp; rfl)))
    | (apply a_end; (focus (simp; rfl)))
    | (apply a_val; (focus (simp; rfl)); (focus (intro u; first | rfl | (apply g_in; rfl; rfl; (focus (simp [*]; done))))); (focus (intro H' u; simp [*]; rfl)); (focus (simp only [List.nil_append, List.cons_append]; rfl)))
    | (apply a_fn fine; (focus (simp; rfl)); (focus (intro u; first | rfl | (apply g_in; rfl; rfl; (focus (simp [*]; done))))); (focus (intro u; simp [*]; exact ⟨rfl, rfl⟩)); (focus (exact a1)); (focus (simp [*]; done)); (focus (simp only [List.nil_append, List.cons_append]; rfl)))
    | (apply a_fn fine; (focus (simp; rfl)); (focus (intro u; first | rfl | (apply g_in; rfl; rfl; (focus (simp [*]; done))))); (focus (intro u; simp [*]; exact ⟨rfl, rfl⟩)); (focus (exact a2)); (focus (simp [*]; done)); (focus (simp only [List.nil_append, List.cons_append]; rfl)))
    | (apply a_fn fine; (focus (simp; rfl)); (focus (intro u; first | rfl | (apply g_in; rfl; rfl; (focus (simp [*]; done))))); (focus (intro u; simp [*]; exact ⟨rfl, rfl⟩)); (focus (exact a3)); (focus (simp [*]; done)); (focus (simp only [List.nil_append, List.cons_append]; rfl)))
    | (apply a_fn fine; (focus (simp; rfl)); (focus (intro u; first | rfl | (apply g_in; rfl; rfl; (focus (simp [*]; done))))); (focus (intro u; simp [*]; exact ⟨rfl, rfl⟩)); (focus (exact a4)); (focus (simp [*]; done)); (focus (simp only [List.nil_append, List.cons_append]; rfl)))
    | (apply a_fn fine; (focus (simp; rfl)); (focus (intro u; first | rfl | (apply g_in; rfl; rfl; (focus (simp [*]; done))))); (focus (intro u; simp [*]; exact ⟨rfl, rfl⟩)); (focus (exact a5)); (focus (simp [*]; done)); (focus (simp only [List.nil_append, List.cons_append]; rfl)))
    | (apply a_fn fine; (focus (simp; rfl)); (focus (intro u; first | rfl | (apply g_in; rfl; rfl; (focus (simp [*]; done))))); (focus (intro u; simp [*]; exact ⟨rfl, rfl⟩)); (focus (exact a6)); (focus (simp [*]; done)); (focus (simp only [List.nil_append, List.cons_append]; rfl)))
    | (apply a_fn fine; (focus (simp; rfl)); (focus (intro u; first | rfl | (apply g_in; rfl; rfl; (focus (simp [*]; done))))); (focus (intro u; simp [*]; exact ⟨rfl, rfl⟩)); (focus (exact awake5_ok)); (focus (simp [*]; done)); (focus (simp only [List.nil_append, List.cons_append]; rfl)))
    | (apply a_tie; (focus (simp; rfl)); (focus (intro u; first | rfl | (apply g_in; rfl; rfl; (focus (simp [*]; done))))); (focus (intro u; simp [*]; rfl)); (focus (first | rfl | kernel_rfl)); (focus (simp only [List.nil_append, List.cons_append]; rfl)); (focus (simp; rfl)))
    | (apply a_no; (focus (simp; rfl)); (focus (intro u; first | (apply g_out; rfl; rfl; (focus (simp [*]; done))) | (apply g_un; rfl; rfl; (focus (simp [*]; done))))); (focus (simp only [List.nil_append, List.cons_append]; rfl)))
    | ((apply a_if; (focus (simp; rfl)); rfl; rfl; (focus (intro u; simp [*]; rfl)); rfl) <;> (intro hg; (fail_if_success (guard_hyp hg : true = true)); (fail_if_success (guard_hyp hg : false = false)); have hg' := hg; try simp at hg'))
    | (apply a_frz; (focus (simp; rfl)); (focus (intro u; first | rfl | (apply g_in; rfl; rfl; (focus (simp [*]; done))))); (focus (intro u; rfl)); (focus (intro H' u; simp [*]; refine ⟨_, _, ⟨rfl, rfl⟩, ?_, ?_⟩; (focus (simp; done)); (focus (first | exact Snap.flat (by simp) | exact Snap.ref_flat (by simp) rfl rfl rfl (by simp) (by simp) | exact Snap.slice_flat (by simp) rfl (by simp; rfl) (by simp) (by simp) | exact Snap.slice_flat (by simp) (by simp; exact ⟨rfl, rfl, rfl⟩) (by simp; rfl) (by simp) (by simp))))); (focus (simp only [List.nil_append, List.cons_append]; rfl)))
    | (apply a_mem; (focus (simp; rfl)); (focus (intro u; first | rfl | (apply g_in; rfl; rfl; (focus (simp [*]; done))))); (focus (intro u; rfl)); (focus (intro u; simp [*]; exact ⟨rfl, rfl⟩)); (focus (first | rfl | kernel_rfl)); (focus (simp only [List.nil_append, List.cons_append]; rfl)); (focus (simp; rfl))))

def Rstr (ds : List D) : Prop := ∃ l, ds = [.str l] ∧ l.length ≤ maxLen
def Rint (ds : List D) : Prop := ∃ n, ds = [.int .i64 n] ∧ (Lit.int .i64 n).wf = true
def Rbool (ds : List D) : Prop := ∃ b, ds = [.bool b]
def Rstrs (ds : List D) : Prop := ∃ xs, ds = [.isl (Try.prog.cellsOf 9) xs] ∧ (∀ x, x ∈ xs → ∃ l, x = [.str l] ∧ l.length ≤ maxLen) ∧ xs.length ≤ maxLen
def Rints (ds : List D) : Prop := ∃ xs, ds = [.isl (Try.prog.cellsOf 3) xs] ∧ (∀ x, x ∈ xs → ∃ n, x = [.int .i64 n] ∧ (Lit.int .i64 n).wf = true) ∧ xs.length ≤ maxLen
def epR : Nat → List D → Prop
  | 0 => Rstr
  | 1 => Rint
  | 2 => Rstr
  | 3 => Rstr
  | 4 => Rbool
  | 5 => Rbool
  | 6 => Rints
  | 7 => Rints
  | 8 => Rstrs
  | 9 => Rbool
  | 10 => Rints
  | 11 => Rints
  | 12 => Rbool
  | 13 => Rbool
  | 14 => Rint
  | 15 => Rbool
  | 16 => Rbool
  | 17 => Rints
  | 18 => Rstrs
  | 19 => Rstrs
  | 20 => Rstr
  | _ => fun _ => True
section
variable {H : Type} {enc : TypeId × Value → H} {W : World}
theorem opens_ep : Opens enc Try.prog W 33 fun ds => ds.length = 21 ∧ ∀ (i : Nat) (d : D), ds[i]? = some d → epR i [d] := by
  refine opens_flat Try.underlying33 (by kernel_rfl) (fun i f hf => ?_) (fun i f hf => ?_)
  · have hi := (Array.getElem?_eq_some_iff.1 hf).1
    match i, hi, hf with
    | 0, _, hf => obtain rfl := Option.some.inj hf; exact ⟨rfl, by kernel_rfl⟩
    | 1, _, hf => obtain rfl := Option.some.inj hf; exact ⟨rfl, by kernel_rfl⟩
    | 2, _, hf => obtain rfl := Option.some.inj hf; exact ⟨rfl, by kernel_rfl⟩
    | 3, _, hf => obtain rfl := Option.some.inj hf; exact ⟨rfl, by kernel_rfl⟩
    | 4, _, hf => obtain rfl := Option.some.inj hf; exact ⟨rfl, by kernel_rfl⟩
    | 5, _, hf => obtain rfl := Option.some.inj hf; exact ⟨rfl, by kernel_rfl⟩
    | 6, _, hf => obtain rfl := Option.some.inj hf; exact ⟨rfl, by kernel_rfl⟩
    | 7, _, hf => obtain rfl := Option.some.inj hf; exact ⟨rfl, by kernel_rfl⟩
    | 8, _, hf => obtain rfl := Option.some.inj hf; exact ⟨rfl, by kernel_rfl⟩
    | 9, _, hf => obtain rfl := Option.some.inj hf; exact ⟨rfl, by kernel_rfl⟩
    | 10, _, hf => obtain rfl := Option.some.inj hf; exact ⟨rfl, by kernel_rfl⟩
    | 11, _, hf => obtain rfl := Option.some.inj hf; exact ⟨rfl, by kernel_rfl⟩
    | 12, _, hf => obtain rfl := Option.some.inj hf; exact ⟨rfl, by kernel_rfl⟩
    | 13, _, hf => obtain rfl := Option.some.inj hf; exact ⟨rfl, by kernel_rfl⟩
    | 14, _, hf => obtain rfl := Option.some.inj hf; exact ⟨rfl, by kernel_rfl⟩
    | 15, _, hf => obtain rfl := Option.some.inj hf; exact ⟨rfl, by kernel_rfl⟩
    | 16, _, hf => obtain rfl := Option.some.inj hf; exact ⟨rfl, by kernel_rfl⟩
    | 17, _, hf => obtain rfl := Option.some.inj hf; exact ⟨rfl, by kernel_rfl⟩
    | 18, _, hf => obtain rfl := Option.some.inj hf; exact ⟨rfl, by kernel_rfl⟩
    | 19, _, hf => obtain rfl := Option.some.inj hf; exact ⟨rfl, by kernel_rfl⟩
    | 20, _, hf => obtain rfl := Option.some.inj hf; exact ⟨rfl, by kernel_rfl⟩
    | n + 21, hi, _ => exact absurd hi (by simp)
  · have hi := (Array.getElem?_eq_some_iff.1 hf).1
    match i, hi, hf with
    | 0, _, hf => obtain rfl := Option.some.inj hf; exact opens_str Try.underlying9
    | 1, _, hf => obtain rfl := Option.some.inj hf; exact opens_int Try.underlying3
    | 2, _, hf => obtain rfl := Option.some.inj hf; exact opens_str Try.underlying9
    | 3, _, hf => obtain rfl := Option.some.inj hf; exact opens_str Try.underlying9
    | 4, _, hf => obtain rfl := Option.some.inj hf; exact opens_bool Try.underlying4
    | 5, _, hf => obtain rfl := Option.some.inj hf; exact opens_bool Try.underlying4
    | 6, _, hf => obtain rfl := Option.some.inj hf; exact opens_slice Try.underlying29 (opens_int Try.underlying3) (of_decide_eq_true (by kernel_rfl))
    | 7, _, hf => obtain rfl := Option.some.inj hf; exact opens_slice Try.underlying29 (opens_int Try.underlying3) (of_decide_eq_true (by kernel_rfl))
    | 8, _, hf => obtain rfl := Option.some.inj hf; exact opens_slice Try.underlying22 (opens_str Try.underlying9) (of_decide_eq_true (by kernel_rfl))
    | 9, _, hf => obtain rfl := Option.some.inj hf; exact opens_bool Try.underlying4
    | 10, _, hf => obtain rfl := Option.some.inj hf; exact opens_slice Try.underlying29 (opens_int Try.underlying3) (of_decide_eq_true (by kernel_rfl))
    | 11, _, hf => obtain rfl := Option.some.inj hf; exact opens_slice Try.underlying29 (opens_int Try.underlying3) (of_decide_eq_true (by kernel_rfl))
    | 12, _, hf => obtain rfl := Option.some.inj hf; exact opens_bool Try.underlying4
    | 13, _, hf => obtain rfl := Option.some.inj hf; exact opens_bool Try.underlying4
    | 14, _, hf => obtain rfl := Option.some.inj hf; exact opens_int Try.underlying3
    | 15, _, hf => obtain rfl := Option.some.inj hf; exact opens_bool Try.underlying4
    | 16, _, hf => obtain rfl := Option.some.inj hf; exact opens_bool Try.underlying4
    | 17, _, hf => obtain rfl := Option.some.inj hf; exact opens_slice Try.underlying29 (opens_int Try.underlying3) (of_decide_eq_true (by kernel_rfl))
    | 18, _, hf => obtain rfl := Option.some.inj hf; exact opens_slice Try.underlying22 (opens_str Try.underlying9) (of_decide_eq_true (by kernel_rfl))
    | 19, _, hf => obtain rfl := Option.some.inj hf; exact opens_slice Try.underlying22 (opens_str Try.underlying9) (of_decide_eq_true (by kernel_rfl))
    | 20, _, hf => obtain rfl := Option.some.inj hf; exact opens_str Try.underlying9
    | n + 21, hi, _ => exact absurd hi (by simp)
theorem arg_ep {cs : Array Value} {d : DataW H} {ps : List MemPlace} (hd : DataW.Trod enc Try.prog W 0 (fun _ => true) true 33 (.agg cs) d ps) : ∃ e : Ep, Rep (c0 W) (.agg cs) (epD e) := by
  obtain ⟨ds, ⟨hl, hr⟩, hrep⟩ := arg_agg opens_ep hd
  match ds, hl with
  | [d0, d1, d2, d3, d4, d5, d6, d7, d8, d9, d10, d11, d12, d13, d14, d15, d16, d17, d18, d19, d20], _ =>
    obtain ⟨a0, h0, _⟩ := hr 0 _ rfl
    obtain rfl := (List.cons.inj h0).1
    obtain ⟨a1, h1, _⟩ := hr 1 _ rfl
    obtain rfl := (List.cons.inj h1).1
    obtain ⟨a2, h2, _⟩ := hr 2 _ rfl
    obtain rfl := (List.cons.inj h2).1
    obtain ⟨a3, h3, _⟩ := hr 3 _ rfl
    obtain rfl := (List.cons.inj h3).1
    obtain ⟨a4, h4⟩ := hr 4 _ rfl
    obtain rfl := (List.cons.inj h4).1
    obtain ⟨a5, h5⟩ := hr 5 _ rfl
    obtain rfl := (List.cons.inj h5).1
    obtain ⟨x6, h6, y6, _⟩ := hr 6 _ rfl
    obtain rfl := (List.cons.inj h6).1
    obtain ⟨a6, rfl, _⟩ := maps (f := encI) y6
    obtain ⟨x7, h7, y7, _⟩ := hr 7 _ rfl
    obtain rfl := (List.cons.inj h7).1
    obtain ⟨a7, rfl, _⟩ := maps (f := encI) y7
    obtain ⟨x8, h8, y8, _⟩ := hr 8 _ rfl
    obtain rfl := (List.cons.inj h8).1
    obtain ⟨a8, rfl, _⟩ := maps (f := encS) y8
    obtain ⟨a9, h9⟩ := hr 9 _ rfl
    obtain rfl := (List.cons.inj h9).1
    obtain ⟨x10, h10, y10, _⟩ := hr 10 _ rfl
    obtain rfl := (List.cons.inj h10).1
    obtain ⟨a10, rfl, _⟩ := maps (f := encI) y10
    obtain ⟨x11, h11, y11, _⟩ := hr 11 _ rfl
    obtain rfl := (List.cons.inj h11).1
    obtain ⟨a11, rfl, _⟩ := maps (f := encI) y11
    obtain ⟨a12, h12⟩ := hr 12 _ rfl
    obtain rfl := (List.cons.inj h12).1
    obtain ⟨a13, h13⟩ := hr 13 _ rfl
    obtain rfl := (List.cons.inj h13).1
    obtain ⟨a14, h14, _⟩ := hr 14 _ rfl
    obtain rfl := (List.cons.inj h14).1
    obtain ⟨a15, h15⟩ := hr 15 _ rfl
    obtain rfl := (List.cons.inj h15).1
    obtain ⟨a16, h16⟩ := hr 16 _ rfl
    obtain rfl := (List.cons.inj h16).1
    obtain ⟨x17, h17, y17, _⟩ := hr 17 _ rfl
    obtain rfl := (List.cons.inj h17).1
    obtain ⟨a17, rfl, _⟩ := maps (f := encI) y17
    obtain ⟨x18, h18, y18, _⟩ := hr 18 _ rfl
    obtain rfl := (List.cons.inj h18).1
    obtain ⟨a18, rfl, _⟩ := maps (f := encS) y18
    obtain ⟨x19, h19, y19, _⟩ := hr 19 _ rfl
    obtain rfl := (List.cons.inj h19).1
    obtain ⟨a19, rfl, _⟩ := maps (f := encS) y19
    obtain ⟨a20, h20, _⟩ := hr 20 _ rfl
    obtain rfl := (List.cons.inj h20).1
    rw [show Try.prog.cellsOf 9 = 1 from by kernel_rfl, show Try.prog.cellsOf 3 = 1 from by kernel_rfl] at hrep
    exact ⟨⟨a0, a1, a2, a3, a4, a5, a6, a7, a8, a9, a10, a11, a12, a13, a14, a15, a16, a17, a18, a19, a20⟩, hrep⟩
end
end Go.Proofs.Ytefhaeaakidaiaa.Vm
