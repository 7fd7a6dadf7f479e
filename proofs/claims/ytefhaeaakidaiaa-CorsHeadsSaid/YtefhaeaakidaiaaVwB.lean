/- Walks: the laws of safe. -/
import Derived.Test.YtefhaeaakidaiaaVwA
set_option linter.unusedSimpArgs false
set_option maxRecDepth 100000
set_option maxHeartbeats 2000000
namespace Go.Proofs.Ytefhaeaakidaiaa.Vm
open Go
attribute [local irreducible] wpD opsD thenD blockD planD
attribute [local simp] List.take_of_length_le List.drop_of_length_le

theorem RefHead_as (s : List UInt8) (hs : s.length < 1000000000000) : Ans L 13 [.str s] (.bool (isHead s)) := head_same s ▸ RefHead_ok s hs
theorem RefSafe_as (s : List UInt8) : Ans L 15 [.str s] (.bool (isMethod s)) := safe_same s ▸ RefSafe_ok s
theorem RefKnown_as (s : List UInt8) : Ans L 17 [.str s] (.bool (isKnown s)) := known_same s ▸ RefKnown_ok s

theorem SafeTells_ok (m : List UInt8) (hs : List (List UInt8)) : Ans L 3 [.str m, textsL hs] (.bool true) := by
  refine fn_of_body L_ok (fn := Try.f3) rfl rfl rfl rfl (by kernel_rfl) ?_
  repeat' (first
    | apply w_seq
    | apply w_region
    | apply o_end
    | apply t_normal
    | (apply o_add; (focus (first | rfl | (apply g_in; rfl; rfl; (focus (simp [*]; done))))); (focus (simp [*]; rfl)); rfl; (focus (simp [*]; rfl)); rfl; (focus (apply wrap_i64 <;> omega)))
    | (apply o_sub; (focus (first | rfl | (apply g_in; rfl; rfl; (focus (simp [*]; done))))); (focus (simp [*]; rfl)); rfl; (focus (simp [*]; rfl)); rfl; (focus (apply wrap_i64 <;> omega)))
    | (apply o_val; (focus (first | rfl | (apply g_in; rfl; rfl; (focus (simp [*]; done))))); (focus (simp [*]; rfl)))
    | (apply o_fuse; (focus (first | rfl | (apply g_in; rfl; rfl; (focus (simp [*]; done))))); rfl; (focus (simp [*]; first | rfl | exact ⟨rfl, rfl⟩)); (focus (first | rfl | (apply g_in; rfl; rfl; (focus (simp [*]; done))))); rfl; (focus (simp [*]; first | rfl | exact ⟨rfl, rfl⟩ | exact ⟨rfl, rfl, rfl⟩)); (focus (intro d hd; apply Under.flat; revert hd; revert d; simp; done)))
    | (apply o_fn fine; (focus (first | rfl | (apply g_in; rfl; rfl; (focus (simp [*]; done))))); (focus (simp [*]; exact ⟨rfl, rfl⟩)); (focus (exact Great_ok hs 8 60 (by decide))); (focus (simp [*]; done)))
    | (apply o_fn fine; (focus (first | rfl | (apply g_in; rfl; rfl; (focus (simp [*]; done))))); (focus (simp [*]; exact ⟨rfl, rfl⟩)); (focus (exact awake4_ok)); (focus (simp [*]; done)))
    | (apply f_retf; (focus (simp [*]; rfl)); (focus (simp; done)); (focus (simp [*]; done)))
    | (apply o_mem; (focus (first | rfl | (apply g_in; rfl; rfl; (focus (simp [*]; done))))); rfl; (focus (simp [*]; exact ⟨rfl, rfl⟩)))
    | apply w_skip
    | apply w_block
    | apply b_normal
    | apply w_ret
    | apply t_ret
    | apply b_ret
    | apply w_exit
    | apply t_exit
    | apply b_here
    | (apply b_on; (focus decide))
    | (apply w_true; (focus (simp [*]; done)))
    | (apply w_false; (focus (simp [*]; done)))
    | ((apply w_cond; (focus (simp [*]; rfl)); rfl) <;> (intro hc; have hc' := hc; try simp at hc'))
    | (apply o_no; (focus (first | (apply g_out; rfl; rfl; (focus (simp [*]; done))) | (apply g_un; rfl; rfl; (focus (simp [*]; done))))))
    | ((apply o_if; rfl; rfl; (focus (simp [*]; rfl)); rfl) <;> (intro hg; (fail_if_success (guard_hyp hg : true = true)); (fail_if_success (guard_hyp hg : false = false)); have hg' := hg; try simp at hg'))
    | (apply w_drawA; rfl; (focus kernel_rfl); (focus (simp; rfl)); (focus (simp; rfl)))
    | (apply a_end; (focus (simp; rfl)))
    | (apply a_val; (focus (simp; rfl)); (focus (intro u; first | rfl | (apply g_in; rfl; rfl; (focus (simp [*]; done))))); (focus (intro H' u; simp [*]; rfl)); (focus (simp only [List.nil_append, List.cons_append]; rfl)))
    | (apply a_fn fine; (focus (simp; rfl)); (focus (intro u; first | rfl | (apply g_in; rfl; rfl; (focus (simp [*]; done))))); (focus (intro u; simp [*]; exact ⟨rfl, rfl⟩)); (focus (exact Great_ok hs 8 60 (by decide))); (focus (simp [*]; done)); (focus (simp only [List.nil_append, List.cons_append]; rfl)))
    | (apply a_fn fine; (focus (simp; rfl)); (focus (intro u; first | rfl | (apply g_in; rfl; rfl; (focus (simp [*]; done))))); (focus (intro u; simp [*]; exact ⟨rfl, rfl⟩)); (focus (exact awake4_ok)); (focus (simp [*]; done)); (focus (simp only [List.nil_append, List.cons_append]; rfl)))
    | (apply a_tie; (focus (simp; rfl)); (focus (intro u; first | rfl | (apply g_in; rfl; rfl; (focus (simp [*]; done))))); (focus (intro u; simp [*]; rfl)); (focus (first | rfl | kernel_rfl)); (focus (simp only [List.nil_append, List.cons_append]; rfl)); (focus (simp; rfl)))
    | (apply a_no; (focus (simp; rfl)); (focus (intro u; first | (apply g_out; rfl; rfl; (focus (simp [*]; done))) | (apply g_un; rfl; rfl; (focus (simp [*]; done))))); (focus (simp only [List.nil_append, List.cons_append]; rfl)))
    | ((apply a_if; (focus (simp; rfl)); rfl; rfl; (focus (intro u; simp [*]; rfl)); rfl) <;> (intro hg; (fail_if_success (guard_hyp hg : true = true)); (fail_if_success (guard_hyp hg : false = false)); have hg' := hg; try simp at hg'))
    | (apply a_frz; (focus (simp; rfl)); (focus (intro u; first | rfl | (apply g_in; rfl; rfl; (focus (simp [*]; done))))); (focus (intro u; rfl)); (focus (intro H' u; simp [*]; refine ⟨_, _, ⟨rfl, rfl⟩, ?_, ?_⟩; (focus (simp; done)); (focus (first | exact Snap.flat (by simp) | exact Snap.ref_flat (by simp) rfl rfl rfl (by simp) (by simp) | exact Snap.slice_flat (by simp) rfl (by simp; rfl) (by simp) (by simp) | exact Snap.slice_flat (by simp) (by simp; exact ⟨rfl, rfl, rfl⟩) (by simp; rfl) (by simp) (by simp))))); (focus (simp only [List.nil_append, List.cons_append]; rfl)))
    | (apply a_mem; (focus (simp; rfl)); (focus (intro u; first | rfl | (apply g_in; rfl; rfl; (focus (simp [*]; done))))); (focus (intro u; rfl)); (focus (intro u; simp [*]; exact ⟨rfl, rfl⟩)); (focus (first | rfl | kernel_rfl)); (focus (simp only [List.nil_append, List.cons_append]; rfl)); (focus (simp; rfl))))
  obtain ⟨hn, hl⟩ := great_not (by assumption)
  refine w_loop (fun n f H => ∃ (i : Nat), i ≤ hs.length ∧ n = hs.length - i ∧ H = [] ∧ f 0 = .str m ∧ f 1 = textsL hs ∧ f 5 = .int .i64 i) hs.length ⟨0, by simp⟩ ?_
  rintro n f H ⟨i, hi, rfl, rfl, h0, h1, h5⟩
  have hl' : ∀ x, x ∈ hs → x.length < 1000000000000 := fun x hx => Nat.lt_of_le_of_lt (hl x hx) (by decide)
  repeat' (first
    | apply w_seq
    | apply w_region
    | apply o_end
    | apply t_normal
    | (apply o_add; (focus (first | rfl | (apply g_in; rfl; rfl; (focus (simp [*]; done))))); (focus (simp [*]; rfl)); rfl; (focus (simp [*]; rfl)); rfl; (focus (apply wrap_i64 <;> omega)))
    | (apply o_sub; (focus (first | rfl | (apply g_in; rfl; rfl; (focus (simp [*]; done))))); (focus (simp [*]; rfl)); rfl; (focus (simp [*]; rfl)); rfl; (focus (apply wrap_i64 <;> omega)))
    | (apply o_val; (focus (first | rfl | (apply g_in; rfl; rfl; (focus (simp [*]; done))))); (focus (simp [*]; rfl)))
    | (apply o_fuse; (focus (first | rfl | (apply g_in; rfl; rfl; (focus (simp [*]; done))))); rfl; (focus (simp [*]; first | rfl | exact ⟨rfl, rfl⟩)); (focus (first | rfl | (apply g_in; rfl; rfl; (focus (simp [*]; done))))); rfl; (focus (simp [*]; first | rfl | exact ⟨rfl, rfl⟩ | exact ⟨rfl, rfl, rfl⟩)); (focus (intro d hd; apply Under.flat; revert hd; revert d; simp; done)))
    | (apply o_fn fine; (focus (first | rfl | (apply g_in; rfl; rfl; (focus (simp [*]; done))))); (focus (simp [*]; exact ⟨rfl, rfl⟩)); (focus (exact Head_ok _ (hl' _ (List.getElem_mem _)))); (focus (simp [*]; done)))
    | (apply o_fn fine; (focus (first | rfl | (apply g_in; rfl; rfl; (focus (simp [*]; done))))); (focus (simp [*]; exact ⟨rfl, rfl⟩)); (focus (exact RefHead_as _ (hl' _ (List.getElem_mem _)))); (focus (simp [*]; done)))
    | (apply o_fn fine; (focus (first | rfl | (apply g_in; rfl; rfl; (focus (simp [*]; done))))); (focus (simp [*]; exact ⟨rfl, rfl⟩)); (focus (exact Method_ok _)); (focus (simp [*]; done)))
    | (apply o_fn fine; (focus (first | rfl | (apply g_in; rfl; rfl; (focus (simp [*]; done))))); (focus (simp [*]; exact ⟨rfl, rfl⟩)); (focus (exact RefSafe_as _)); (focus (simp [*]; done)))
    | (apply o_fn fine; (focus (first | rfl | (apply g_in; rfl; rfl; (focus (simp [*]; done))))); (focus (simp [*]; exact ⟨rfl, rfl⟩)); (focus (exact Known_ok _)); (focus (simp [*]; done)))
    | (apply o_fn fine; (focus (first | rfl | (apply g_in; rfl; rfl; (focus (simp [*]; done))))); (focus (simp [*]; exact ⟨rfl, rfl⟩)); (focus (exact RefKnown_as _)); (focus (simp [*]; done)))
    | (apply f_retf; (focus (simp [*]; rfl)); (focus (simp; done)); (focus (simp [*]; done)))
    | (apply o_mem; (focus (first | rfl | (apply g_in; rfl; rfl; (focus (simp [*]; done))))); rfl; (focus (simp [*]; exact ⟨rfl, rfl⟩)))
    | apply w_skip
    | apply w_block
    | apply b_normal
    | apply w_ret
    | apply t_ret
    | apply b_ret
    | apply w_exit
    | apply t_exit
    | apply b_here
    | (apply b_on; (focus decide))
    | (apply w_true; (focus (simp [*]; done)))
    | (apply w_false; (focus (simp [*]; done)))
    | ((apply w_cond; (focus (simp [*]; rfl)); rfl) <;> (intro hc; have hc' := hc; try simp at hc'))
    | (apply o_no; (focus (first | (apply g_out; rfl; rfl; (focus (simp [*]; done))) | (apply g_un; rfl; rfl; (focus (simp [*]; done))))))
    | ((apply o_if; rfl; rfl; (focus (simp [*]; rfl)); rfl) <;> (intro hg; (fail_if_success (guard_hyp hg : true = true)); (fail_if_success (guard_hyp hg : false = false)); have hg' := hg; try simp at hg'))
    | (apply w_drawA; rfl; (focus kernel_rfl); (focus (simp; rfl)); (focus (simp; rfl)))
    | (apply a_end; (focus (simp; rfl)))
    | (apply a_val; (focus (simp; rfl)); (focus (intro u; first | rfl | (apply g_in; rfl; rfl; (focus (simp [*]; done))))); (focus (intro H' u; simp [*]; rfl)); (focus (simp only [List.nil_append, List.cons_append]; rfl)))
    | (apply a_fn fine; (focus (simp; rfl)); (focus (intro u; first | rfl | (apply g_in; rfl; rfl; (focus (simp [*]; done))))); (focus (intro u; simp [*]; exact ⟨rfl, rfl⟩)); (focus (exact Head_ok _ (hl' _ (List.getElem_mem _)))); (focus (simp [*]; done)); (focus (simp only [List.nil_append, List.cons_append]; rfl)))
    | (apply a_fn fine; (focus (simp; rfl)); (focus (intro u; first | rfl | (apply g_in; rfl; rfl; (focus (simp [*]; done))))); (focus (intro u; simp [*]; exact ⟨rfl, rfl⟩)); (focus (exact RefHead_as _ (hl' _ (List.getElem_mem _)))); (focus (simp [*]; done)); (focus (simp only [List.nil_append, List.cons_append]; rfl)))
    | (apply a_fn fine; (focus (simp; rfl)); (focus (intro u; first | rfl | (apply g_in; rfl; rfl; (focus (simp [*]; done))))); (focus (intro u; simp [*]; exact ⟨rfl, rfl⟩)); (focus (exact Method_ok _)); (focus (simp [*]; done)); (focus (simp only [List.nil_append, List.cons_append]; rfl)))
    | (apply a_fn fine; (focus (simp; rfl)); (focus (intro u; first | rfl | (apply g_in; rfl; rfl; (focus (simp [*]; done))))); (focus (intro u; simp [*]; exact ⟨rfl, rfl⟩)); (focus (exact RefSafe_as _)); (focus (simp [*]; done)); (focus (simp only [List.nil_append, List.cons_append]; rfl)))
    | (apply a_fn fine; (focus (simp; rfl)); (focus (intro u; first | rfl | (apply g_in; rfl; rfl; (focus (simp [*]; done))))); (focus (intro u; simp [*]; exact ⟨rfl, rfl⟩)); (focus (exact Known_ok _)); (focus (simp [*]; done)); (focus (simp only [List.nil_append, List.cons_append]; rfl)))
    | (apply a_fn fine; (focus (simp; rfl)); (focus (intro u; first | rfl | (apply g_in; rfl; rfl; (focus (simp [*]; done))))); (focus (intro u; simp [*]; exact ⟨rfl, rfl⟩)); (focus (exact RefKnown_as _)); (focus (simp [*]; done)); (focus (simp only [List.nil_append, List.cons_append]; rfl)))
    | (apply a_tie; (focus (simp; rfl)); (focus (intro u; first | rfl | (apply g_in; rfl; rfl; (focus (simp [*]; done))))); (focus (intro u; simp [*]; rfl)); (focus (first | rfl | kernel_rfl)); (focus (simp only [List.nil_append, List.cons_append]; rfl)); (focus (simp; rfl)))
    | (apply a_no; (focus (simp; rfl)); (focus (intro u; first | (apply g_out; rfl; rfl; (focus (simp [*]; done))) | (apply g_un; rfl; rfl; (focus (simp [*]; done))))); (focus (simp only [List.nil_append, List.cons_append]; rfl)))
    | ((apply a_if; (focus (simp; rfl)); rfl; rfl; (focus (intro u; simp [*]; rfl)); rfl) <;> (intro hg; (fail_if_success (guard_hyp hg : true = true)); (fail_if_success (guard_hyp hg : false = false)); have hg' := hg; try simp at hg'))
    | (apply a_frz; (focus (simp; rfl)); (focus (intro u; first | rfl | (apply g_in; rfl; rfl; (focus (simp [*]; done))))); (focus (intro u; rfl)); (focus (intro H' u; simp [*]; refine ⟨_, _, ⟨rfl, rfl⟩, ?_, ?_⟩; (focus (simp; done)); (focus (first | exact Snap.flat (by simp) | exact Snap.ref_flat (by simp) rfl rfl rfl (by simp) (by simp) | exact Snap.slice_flat (by simp) rfl (by simp; rfl) (by simp) (by simp) | exact Snap.slice_flat (by simp) (by simp; exact ⟨rfl, rfl, rfl⟩) (by simp; rfl) (by simp) (by simp))))); (focus (simp only [List.nil_append, List.cons_append]; rfl)))
    | (apply a_mem; (focus (simp; rfl)); (focus (intro u; first | rfl | (apply g_in; rfl; rfl; (focus (simp [*]; done))))); (focus (intro u; rfl)); (focus (intro u; simp [*]; exact ⟨rfl, rfl⟩)); (focus (first | rfl | kernel_rfl)); (focus (simp only [List.nil_append, List.cons_append]; rfl)); (focus (simp; rfl))))
  · exact ⟨hs.length - (i + 1), by omega, i + 1, by omega, rfl, rfl, by simp [*]⟩
  by_cases hne : hs = []
  · subst hne
    repeat' (first
      | apply w_seq
      | apply w_region
      | apply o_end
      | apply t_normal
      | (apply o_add; (focus (first | rfl | (apply g_in; rfl; rfl; (focus (simp [*]; done))))); (focus (simp [*]; rfl)); rfl; (focus (simp [*]; rfl)); rfl; (focus (apply wrap_i64 <;> omega)))
      | (apply o_sub; (focus (first | rfl | (apply g_in; rfl; rfl; (focus (simp [*]; done))))); (focus (simp [*]; rfl)); rfl; (focus (simp [*]; rfl)); rfl; (focus (apply wrap_i64 <;> omega)))
      | (apply o_val; (focus (first | rfl | (apply g_in; rfl; rfl; (focus (simp [*]; done))))); (focus (simp [*]; rfl)))
      | (apply o_fuse; (focus (first | rfl | (apply g_in; rfl; rfl; (focus (simp [*]; done))))); rfl; (focus (simp [*]; first | rfl | exact ⟨rfl, rfl⟩)); (focus (first | rfl | (apply g_in; rfl; rfl; (focus (simp [*]; done))))); rfl; (focus (simp [*]; first | rfl | exact ⟨rfl, rfl⟩ | exact ⟨rfl, rfl, rfl⟩)); (focus (intro d hd; apply Under.flat; revert hd; revert d; simp; done)))
      | (apply o_frz; (focus (first | rfl | (apply g_in; rfl; rfl; (focus (simp [*]; done))))); rfl; (focus (simp [*]; exact ⟨rfl, rfl⟩)); (focus (simp; done)); (focus (exact Snap.nil (sz := 1))))
      | (apply o_fn fine; (focus (first | rfl | (apply g_in; rfl; rfl; (focus (simp [*]; done))))); (focus (simp [*]; exact ⟨rfl, rfl⟩)); (focus (exact Simple_ok m [] (by decide) (by simp))); (focus (simp [*]; done)))
      | (apply o_fn fine; (focus (first | rfl | (apply g_in; rfl; rfl; (focus (simp [*]; done))))); (focus (simp [*]; exact ⟨rfl, rfl⟩)); (focus (exact RefSimple_ok m [] (by decide) (by simp))); (focus (simp [*]; done)))
      | (apply o_fn fine; (focus (first | rfl | (apply g_in; rfl; rfl; (focus (simp [*]; done))))); (focus (simp [*]; exact ⟨rfl, rfl⟩)); (focus (exact awake4_ok)); (focus (simp [*]; done)))
      | (apply f_retf; (focus (simp [*]; rfl)); (focus (simp; done)); (focus (simp [*]; done)))
      | (apply o_mem; (focus (first | rfl | (apply g_in; rfl; rfl; (focus (simp [*]; done))))); rfl; (focus (simp [*]; exact ⟨rfl, rfl⟩)))
      | apply w_skip
      | apply w_block
      | apply b_normal
      | apply w_ret
      | apply t_ret
      | apply b_ret
      | apply w_exit
      | apply t_exit
      | apply b_here
      | (apply b_on; (focus decide))
      | (apply w_true; (focus (simp [*]; done)))
      | (apply w_false; (focus (simp [*]; done)))
      | ((apply w_cond; (focus (simp [*]; rfl)); rfl) <;> (intro hc; have hc' := hc; try simp at hc'))
      | (apply o_no; (focus (first | (apply g_out; rfl; rfl; (focus (simp [*]; done))) | (apply g_un; rfl; rfl; (focus (simp [*]; done))))))
      | ((apply o_if; rfl; rfl; (focus (simp [*]; rfl)); rfl) <;> (intro hg; (fail_if_success (guard_hyp hg : true = true)); (fail_if_success (guard_hyp hg : false = false)); have hg' := hg; try simp at hg'))
      | (apply w_drawA; rfl; (focus kernel_rfl); (focus (simp; rfl)); (focus (simp; rfl)))
      | (apply a_end; (focus (simp; rfl)))
      | (apply a_val; (focus (simp; rfl)); (focus (intro u; first | rfl | (apply g_in; rfl; rfl; (focus (simp [*]; done))))); (focus (intro H' u; simp [*]; rfl)); (focus (simp only [List.nil_append, List.cons_append]; rfl)))
      | (apply a_fn fine; (focus (simp; rfl)); (focus (intro u; first | rfl | (apply g_in; rfl; rfl; (focus (simp [*]; done))))); (focus (intro u; simp [*]; exact ⟨rfl, rfl⟩)); (focus (exact Simple_ok m [] (by decide) (by simp))); (focus (simp [*]; done)); (focus (simp only [List.nil_append, List.cons_append]; rfl)))
      | (apply a_fn fine; (focus (simp; rfl)); (focus (intro u; first | rfl | (apply g_in; rfl; rfl; (focus (simp [*]; done))))); (focus (intro u; simp [*]; exact ⟨rfl, rfl⟩)); (focus (exact RefSimple_ok m [] (by decide) (by simp))); (focus (simp [*]; done)); (focus (simp only [List.nil_append, List.cons_append]; rfl)))
      | (apply a_fn fine; (focus (simp; rfl)); (focus (intro u; first | rfl | (apply g_in; rfl; rfl; (focus (simp [*]; done))))); (focus (intro u; simp [*]; exact ⟨rfl, rfl⟩)); (focus (exact awake4_ok)); (focus (simp [*]; done)); (focus (simp only [List.nil_append, List.cons_append]; rfl)))
      | (apply a_tie; (focus (simp; rfl)); (focus (intro u; first | rfl | (apply g_in; rfl; rfl; (focus (simp [*]; done))))); (focus (intro u; simp [*]; rfl)); (focus (first | rfl | kernel_rfl)); (focus (simp only [List.nil_append, List.cons_append]; rfl)); (focus (simp; rfl)))
      | (apply a_no; (focus (simp; rfl)); (focus (intro u; first | (apply g_out; rfl; rfl; (focus (simp [*]; done))) | (apply g_un; rfl; rfl; (focus (simp [*]; done))))); (focus (simp only [List.nil_append, List.cons_append]; rfl)))
      | ((apply a_if; (focus (simp; rfl)); rfl; rfl; (focus (intro u; simp [*]; rfl)); rfl) <;> (intro hg; (fail_if_success (guard_hyp hg : true = true)); (fail_if_success (guard_hyp hg : false = false)); have hg' := hg; try simp at hg'))
      | (apply a_frz; (focus (simp; rfl)); (focus (intro u; first | rfl | (apply g_in; rfl; rfl; (focus (simp [*]; done))))); (focus (intro u; rfl)); (focus (intro H' u; simp [*]; refine ⟨_, _, ⟨rfl, rfl⟩, ?_, ?_⟩; (focus (simp; done)); (focus (first | exact Snap.flat (by simp) | exact Snap.ref_flat (by simp) rfl rfl rfl (by simp) (by simp) | exact Snap.slice_flat (by simp) rfl (by simp; rfl) (by simp) (by simp) | exact Snap.slice_flat (by simp) (by simp; exact ⟨rfl, rfl, rfl⟩) (by simp; rfl) (by simp) (by simp))))); (focus (simp only [List.nil_append, List.cons_append]; rfl)))
      | (apply a_mem; (focus (simp; rfl)); (focus (intro u; first | rfl | (apply g_in; rfl; rfl; (focus (simp [*]; done))))); (focus (intro u; rfl)); (focus (intro u; simp [*]; exact ⟨rfl, rfl⟩)); (focus (first | rfl | kernel_rfl)); (focus (simp only [List.nil_append, List.cons_append]; rfl)); (focus (simp; rfl))))
  · have b1 : hs.length * 16 ≤ 140737488355328 := by omega
    have b2 : hs.length ≤ 140737488355328 := by omega
    repeat' (first
      | apply w_seq
      | apply w_region
      | apply o_end
      | apply t_normal
      | (apply o_add; (focus (first | rfl | (apply g_in; rfl; rfl; (focus (simp [*]; done))))); (focus (simp [*]; rfl)); rfl; (focus (simp [*]; rfl)); rfl; (focus (apply wrap_i64 <;> omega)))
      | (apply o_sub; (focus (first | rfl | (apply g_in; rfl; rfl; (focus (simp [*]; done))))); (focus (simp [*]; rfl)); rfl; (focus (simp [*]; rfl)); rfl; (focus (apply wrap_i64 <;> omega)))
      | (apply o_val; (focus (first | rfl | (apply g_in; rfl; rfl; (focus (simp [*]; done))))); (focus (simp [*]; rfl)))
      | (apply o_fuse; (focus (first | rfl | (apply g_in; rfl; rfl; (focus (simp [*]; done))))); rfl; (focus (simp [*]; first | rfl | exact ⟨rfl, rfl⟩)); (focus (first | rfl | (apply g_in; rfl; rfl; (focus (simp [*]; done))))); rfl; (focus (simp [*]; first | rfl | exact ⟨rfl, rfl⟩ | exact ⟨rfl, rfl, rfl⟩)); (focus (intro d hd; apply Under.flat; revert hd; revert d; simp; done)))
      | (apply o_frz; (focus (first | rfl | (apply g_in; rfl; rfl; (focus (simp [*]; done))))); rfl; (focus (simp [*]; exact ⟨rfl, rfl⟩)); (focus (simp; done)); (focus (first | exact Snap.flat (by simp) | exact Snap.ref_flat (by simp) rfl rfl rfl (by simp) (by simp) | exact Snap.slice_flat (by simp) rfl (by simp; rfl) (by simp) (by simp) | exact Snap.slice_flat (by simp) (by simp; exact ⟨rfl, rfl, rfl⟩) (by simp; rfl) (by simp) (by simp))))
      | (apply o_fn fine; (focus (first | rfl | (apply g_in; rfl; rfl; (focus (simp [*]; done))))); (focus (simp [*]; exact ⟨rfl, rfl⟩)); (focus (exact Simple_ok m hs (by omega) hl')); (focus (simp [*]; done)))
      | (apply o_fn fine; (focus (first | rfl | (apply g_in; rfl; rfl; (focus (simp [*]; done))))); (focus (simp [*]; exact ⟨rfl, rfl⟩)); (focus (exact RefSimple_ok m hs (by omega) hl')); (focus (simp [*]; done)))
      | (apply o_fn fine; (focus (first | rfl | (apply g_in; rfl; rfl; (focus (simp [*]; done))))); (focus (simp [*]; exact ⟨rfl, rfl⟩)); (focus (exact awake4_ok)); (focus (simp [*]; done)))
      | (apply f_retf; (focus (simp [*]; rfl)); (focus (simp; done)); (focus (simp [*]; done)))
      | (apply o_mem; (focus (first | rfl | (apply g_in; rfl; rfl; (focus (simp [*]; done))))); rfl; (focus (simp [*]; exact ⟨rfl, rfl⟩)))
      | apply w_skip
      | apply w_block
      | apply b_normal
      | apply w_ret
      | apply t_ret
      | apply b_ret
      | apply w_exit
      | apply t_exit
      | apply b_here
      | (apply b_on; (focus decide))
      | (apply w_true; (focus (simp [*]; done)))
      | (apply w_false; (focus (simp [*]; done)))
      | ((apply w_cond; (focus (simp [*]; rfl)); rfl) <;> (intro hc; have hc' := hc; try simp at hc'))
      | (apply o_no; (focus (first | (apply g_out; rfl; rfl; (focus (simp [*]; done))) | (apply g_un; rfl; rfl; (focus (simp [*]; done))))))
      | ((apply o_if; rfl; rfl; (focus (simp [*]; rfl)); rfl) <;> (intro hg; (fail_if_success (guard_hyp hg : true = true)); (fail_if_success (guard_hyp hg : false = false)); have hg' := hg; try simp at hg'))
      | (apply w_drawA; rfl; (focus kernel_rfl); (focus (simp; rfl)); (focus (simp; rfl)))
      | (apply a_end; (focus (simp; rfl)))
      | (apply a_val; (focus (simp; rfl)); (focus (intro u; first | rfl | (apply g_in; rfl; rfl; (focus (simp [*]; done))))); (focus (intro H' u; simp [*]; rfl)); (focus (simp only [List.nil_append, List.cons_append]; rfl)))
      | (apply a_fn fine; (focus (simp; rfl)); (focus (intro u; first | rfl | (apply g_in; rfl; rfl; (focus (simp [*]; done))))); (focus (intro u; simp [*]; exact ⟨rfl, rfl⟩)); (focus (exact Simple_ok m hs (by omega) hl')); (focus (simp [*]; done)); (focus (simp only [List.nil_append, List.cons_append]; rfl)))
      | (apply a_fn fine; (focus (simp; rfl)); (focus (intro u; first | rfl | (apply g_in; rfl; rfl; (focus (simp [*]; done))))); (focus (intro u; simp [*]; exact ⟨rfl, rfl⟩)); (focus (exact RefSimple_ok m hs (by omega) hl')); (focus (simp [*]; done)); (focus (simp only [List.nil_append, List.cons_append]; rfl)))
      | (apply a_fn fine; (focus (simp; rfl)); (focus (intro u; first | rfl | (apply g_in; rfl; rfl; (focus (simp [*]; done))))); (focus (intro u; simp [*]; exact ⟨rfl, rfl⟩)); (focus (exact awake4_ok)); (focus (simp [*]; done)); (focus (simp only [List.nil_append, List.cons_append]; rfl)))
      | (apply a_tie; (focus (simp; rfl)); (focus (intro u; first | rfl | (apply g_in; rfl; rfl; (focus (simp [*]; done))))); (focus (intro u; simp [*]; rfl)); (focus (first | rfl | kernel_rfl)); (focus (simp only [List.nil_append, List.cons_append]; rfl)); (focus (simp; rfl)))
      | (apply a_no; (focus (simp; rfl)); (focus (intro u; first | (apply g_out; rfl; rfl; (focus (simp [*]; done))) | (apply g_un; rfl; rfl; (focus (simp [*]; done))))); (focus (simp only [List.nil_append, List.cons_append]; rfl)))
      | ((apply a_if; (focus (simp; rfl)); rfl; rfl; (focus (intro u; simp [*]; rfl)); rfl) <;> (intro hg; (fail_if_success (guard_hyp hg : true = true)); (fail_if_success (guard_hyp hg : false = false)); have hg' := hg; try simp at hg'))
      | (apply a_frz; (focus (simp; rfl)); (focus (intro u; first | rfl | (apply g_in; rfl; rfl; (focus (simp [*]; done))))); (focus (intro u; rfl)); (focus (intro H' u; simp [*]; refine ⟨_, _, ⟨rfl, rfl⟩, ?_, ?_⟩; (focus (simp; done)); (focus (first | exact Snap.flat (by simp) | exact Snap.ref_flat (by simp) rfl rfl rfl (by simp) (by simp) | exact Snap.slice_flat (by simp) rfl (by simp; rfl) (by simp) (by simp) | exact Snap.slice_flat (by simp) (by simp; exact ⟨rfl, rfl, rfl⟩) (by simp; rfl) (by simp) (by simp))))); (focus (simp only [List.nil_append, List.cons_append]; rfl)))
      | (apply a_mem; (focus (simp; rfl)); (focus (intro u; first | rfl | (apply g_in; rfl; rfl; (focus (simp [*]; done))))); (focus (intro u; rfl)); (focus (intro u; simp [*]; exact ⟨rfl, rfl⟩)); (focus (first | rfl | kernel_rfl)); (focus (simp only [List.nil_append, List.cons_append]; rfl)); (focus (simp; rfl))))

def lowN (x : Int) (n : Nat) : Nat := ((x % 18446744073709551616) % n).toNat
theorem lowN_lt (x : Int) {n : Nat} (hn : 0 < n) : lowN x n < n := by
  have h1 := Int.emod_lt_of_pos (x % 18446744073709551616) (show (0 : Int) < n by omega)
  have h2 := Int.emod_nonneg (x % 18446744073709551616) (show (n : Int) ≠ 0 by omega)
  unfold lowN
  omega
theorem Low_ok (x : Int) (n : Nat) (h0 : 0 < n) (h1 : n < 1000000000000) : Ans L 20 [.int .i64 x, .int .i64 n] (.int .i64 (lowN x n)) := by
  refine fn_of_body L_ok (fn := Try.f20) rfl rfl rfl rfl (by kernel_rfl) ?_
  have e1 : IntKind.u64.wrap n = n := by rw [wrap_u64]; omega
  have e2 : IntKind.u64.wrap x = x % 18446744073709551616 := wrap_u64
  have e3 : ¬ n = 0 := by omega
  have h2 := Int.emod_lt_of_pos (x % 18446744073709551616) (show (0 : Int) < n by omega)
  have h3 := Int.emod_nonneg (x % 18446744073709551616) (show (n : Int) ≠ 0 by omega)
  have e4 : (x % 18446744073709551616).tmod n = lowN x n := by
    rw [Int.tmod_eq_emod_of_nonneg (by omega)]
    unfold lowN
    omega
  have e5 : IntKind.i64.wrap (lowN x n) = lowN x n := by
    have := lowN_lt x h0
    exact wrap_i64 (by omega) (by omega)
  repeat' (first
    | apply w_seq
    | apply w_region
    | apply o_end
    | apply t_normal
    | (apply o_add; (focus (first | rfl | (apply g_in; rfl; rfl; (focus (simp [*]; done))))); (focus (simp [*]; rfl)); rfl; (focus (simp [*]; rfl)); rfl; (focus (apply wrap_i64 <;> omega)))
    | (apply o_sub; (focus (first | rfl | (apply g_in; rfl; rfl; (focus (simp [*]; done))))); (focus (simp [*]; rfl)); rfl; (focus (simp [*]; rfl)); rfl; (focus (apply wrap_i64 <;> omega)))
    | (apply o_val; (focus (first | rfl | (apply g_in; rfl; rfl; (focus (simp [*]; done))))); (focus (simp [*]; rfl)))
    | (apply o_fuse; (focus (first | rfl | (apply g_in; rfl; rfl; (focus (simp [*]; done))))); rfl; (focus (simp [*]; first | rfl | exact ⟨rfl, rfl⟩)); (focus (first | rfl | (apply g_in; rfl; rfl; (focus (simp [*]; done))))); rfl; (focus (simp [*]; first | rfl | exact ⟨rfl, rfl⟩ | exact ⟨rfl, rfl, rfl⟩)); (focus (intro d hd; apply Under.flat; revert hd; revert d; simp; done)))
    | (apply f_retf; (focus (simp [*]; rfl)); (focus (simp; done)); (focus (simp [*]; done)))
    | (apply o_mem; (focus (first | rfl | (apply g_in; rfl; rfl; (focus (simp [*]; done))))); rfl; (focus (simp [*]; exact ⟨rfl, rfl⟩)))
    | apply w_skip
    | apply w_block
    | apply b_normal
    | apply w_ret
    | apply t_ret
    | apply b_ret
    | apply w_exit
    | apply t_exit
    | apply b_here
    | (apply b_on; (focus decide))
    | (apply w_true; (focus (simp [*]; done)))
    | (apply w_false; (focus (simp [*]; done)))
    | ((apply w_cond; (focus (simp [*]; rfl)); rfl) <;> (intro hc; have hc' := hc; try simp at hc'))
    | (apply o_no; (focus (first | (apply g_out; rfl; rfl; (focus (simp [*]; done))) | (apply g_un; rfl; rfl; (focus (simp [*]; done))))))
    | ((apply o_if; rfl; rfl; (focus (simp [*]; rfl)); rfl) <;> (intro hg; (fail_if_success (guard_hyp hg : true = true)); (fail_if_success (guard_hyp hg : false = false)); have hg' := hg; try simp at hg'))
    | (apply w_drawA; rfl; (focus kernel_rfl); (focus (simp; rfl)); (focus (simp; rfl)))
    | (apply a_end; (focus (simp; rfl)))
    | (apply a_val; (focus (simp; rfl)); (focus (intro u; first | rfl | (apply g_in; rfl; rfl; (focus (simp [*]; done))))); (focus (intro H' u; simp [*]; rfl)); (focus (simp only [List.nil_append, List.cons_append]; rfl)))
    | (apply a_tie; (focus (simp; rfl)); (focus (intro u; first | rfl | (apply g_in; rfl; rfl; (focus (simp [*]; done))))); (focus (intro u; simp [*]; rfl)); (focus (first | rfl | kernel_rfl)); (focus (simp only [List.nil_append, List.cons_append]; rfl)); (focus (simp; rfl)))
    | (apply a_no; (focus (simp; rfl)); (focus (intro u; first | (apply g_out; rfl; rfl; (focus (simp [*]; done))) | (apply g_un; rfl; rfl; (focus (simp [*]; done))))); (focus (simp only [List.nil_append, List.cons_append]; rfl)))
    | ((apply a_if; (focus (simp; rfl)); rfl; rfl; (focus (intro u; simp [*]; rfl)); rfl) <;> (intro hg; (fail_if_success (guard_hyp hg : true = true)); (fail_if_success (guard_hyp hg : false = false)); have hg' := hg; try simp at hg'))
    | (apply a_frz; (focus (simp; rfl)); (focus (intro u; first | rfl | (apply g_in; rfl; rfl; (focus (simp [*]; done))))); (focus (intro u; rfl)); (focus (intro H' u; simp [*]; refine ⟨_, _, ⟨rfl, rfl⟩, ?_, ?_⟩; (focus (simp; done)); (focus (first | exact Snap.flat (by simp) | exact Snap.ref_flat (by simp) rfl rfl rfl (by simp) (by simp) | exact Snap.slice_flat (by simp) rfl (by simp; rfl) (by simp) (by simp) | exact Snap.slice_flat (by simp) (by simp; exact ⟨rfl, rfl, rfl⟩) (by simp; rfl) (by simp) (by simp))))); (focus (simp only [List.nil_append, List.cons_append]; rfl)))
    | (apply a_mem; (focus (simp; rfl)); (focus (intro u; first | rfl | (apply g_in; rfl; rfl; (focus (simp [*]; done))))); (focus (intro u; rfl)); (focus (intro u; simp [*]; exact ⟨rfl, rfl⟩)); (focus (first | rfl | kernel_rfl)); (focus (simp only [List.nil_append, List.cons_append]; rfl)); (focus (simp; rfl))))

def headsL : List (List UInt8) := [[97, 99, 99, 101, 112, 116], [65, 99, 99, 101, 112, 116, 45, 76, 97, 110, 103, 117, 97, 103, 101], [67, 79, 78, 84, 69, 78, 84, 45, 76, 65, 78, 71, 85, 65, 71, 69], [82, 97, 110, 103, 101], [99, 111, 110, 116, 101, 110, 116, 45, 116, 121, 112, 101], [120, 45, 116, 111, 107, 101, 110], [97, 99, 99, 101, 112, 116, 115], [65, 117, 116, 104, 111, 114, 105, 122, 97, 116, 105, 111, 110]]
def hdAt (k : Nat) : List UInt8 := headsL.getD k []
theorem hdAt_head (k : Nat) (hk : k < 8) : isHead (hdAt k) = decide ((k : Int) < 4) := by
  have : ∀ k, k < 8 → isHead (hdAt k) = decide ((k : Int) < 4) := by decide
  exact this k hk
theorem hdAt_len (k : Nat) (hk : k < 8) : (hdAt k).length < 1000000000000 := by
  have : ∀ k, k < 8 → (hdAt k).length < 1000000000000 := by decide
  exact this k hk
theorem heads_get (k : Nat) (hk : k < headsL.length) : headsL[k]'hk = hdAt k := by
  simp [hdAt, List.getD_eq_getElem?_getD, hk]
theorem simple_hd (ks : List Nat) (h : ∀ k, k ∈ ks → k < 8) (nm : List UInt8) : isSimple nm (ks.map hdAt) = (ks.all (fun k => decide ((k : Int) < 4)) && isMethod nm) := by
  have : (ks.map hdAt).all isHead = ks.all (fun k => decide ((k : Int) < 4)) := by
    induction ks with
    | nil => rfl
    | cons k ks ih =>
      rw [List.map_cons, List.all_cons, List.all_cons, hdAt_head k (h k (List.mem_cons_self ..)), ih fun x hx => h x (List.mem_cons_of_mem _ hx)]
  rw [isSimple, this]

end Go.Proofs.Ytefhaeaakidaiaa.Vm
