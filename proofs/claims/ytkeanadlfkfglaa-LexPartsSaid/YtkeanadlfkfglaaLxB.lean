/- Walks: the predicates of lex, runs, gaps. -/
import Derived.Test.YtkeanadlfkfglaaLxA
import Derived.Test.YtkeanadlfkfglaaVmTy
import Derived.Test.YtkeanadlfkfglaaVmX
import Derived.Test.YtkeanadlfkfglaaVmZc
import Derived.Test.YtkeanadlfkfglaaVmZd
set_option linter.unusedSimpArgs false
set_option linter.unusedVariables false
set_option maxRecDepth 100000
set_option maxHeartbeats 4000000
namespace Go.Proofs.Ytkeanadlfkfglaa.Vm
open Go
variable {m : Int}
attribute [local irreducible] wpD opsD thenD blockD planD planA
attribute [local simp] List.take_of_length_le List.drop_of_length_le

theorem notNl_ok (c : UInt8) : Ans (L m) 21 [.int .u8 c.toNat] (.bool (notNl c)) := by
  refine fn_of_body L_ok (fn := Try.f21) rfl rfl rfl rfl (by kernel_rfl) ?_
  repeat' (first
    | apply w_seq
    | apply w_region
    | apply o_end
    | apply t_normal
    | (apply o_add; (focus (first | rfl | (apply g_in; rfl; rfl; (focus (simp [*]; done))))); (focus (simp [*]; rfl)); rfl; (focus (simp [*]; rfl)); rfl; (focus (apply wrap_i64 <;> omega)))
    | (apply o_sub; (focus (first | rfl | (apply g_in; rfl; rfl; (focus (simp [*]; done))))); (focus (simp [*]; rfl)); rfl; (focus (simp [*]; rfl)); rfl; (focus (apply wrap_i64 <;> omega)))
    | (apply o_mpick; (focus (first | (apply g_none; rfl) | (apply g_sym; rfl; rfl; (focus (simp [*]; rfl)); (focus (simp only [gOf_bool, gOf_cond, gOf_cond', gOf_un, beq_true, beq_false, Bool.and_true]; rfl))))); (focus (intro hb; (try simp only [Bool.not_or, Bool.not_and, Bool.not_not, Bool.and_eq_true, Bool.not_eq_true', Bool.not_eq_false', Bool.not_eq_true, Bool.not_eq_false] at hb); simp [*]; rfl)); rfl; (focus (intro hb hp; (try simp only [Bool.not_or, Bool.not_and, Bool.not_not, Bool.and_eq_true, Bool.not_eq_true', Bool.not_eq_false', Bool.not_eq_true, Bool.not_eq_false] at hb); (try simp only [Bool.not_or, Bool.not_and, Bool.not_not, Bool.and_eq_true, Bool.not_eq_true', Bool.not_eq_false', Bool.not_eq_true, Bool.not_eq_false] at hp); simp [*]; rfl)); rfl; (focus (intro hb hp; (try simp only [Bool.not_or, Bool.not_and, Bool.not_not, Bool.and_eq_true, Bool.not_eq_true', Bool.not_eq_false', Bool.not_eq_true, Bool.not_eq_false] at hb); (try simp only [Bool.not_or, Bool.not_and, Bool.not_not, Bool.and_eq_true, Bool.not_eq_true', Bool.not_eq_false', Bool.not_eq_true, Bool.not_eq_false] at hp); simp [*]; rfl)); rfl)
    | (apply o_val; (focus (first | rfl | (apply g_in; rfl; rfl; (focus (simp [*]; done))))); (focus (simp [*]; rfl)))
    | (apply o_fuse; (focus (first | rfl | (apply g_in; rfl; rfl; (focus (simp [*]; done))))); rfl; (focus (simp [*]; first | rfl | exact ⟨rfl, rfl⟩)); (focus (first | rfl | (apply g_in; rfl; rfl; (focus (simp [*]; done))))); rfl; (focus (simp [*]; first | rfl | exact ⟨rfl, rfl⟩ | exact ⟨rfl, rfl, rfl⟩)); (focus (intro d hd; apply Under.flat; revert hd; revert d; simp; done)))
    | (apply f_retf; (focus (simp [*]; rfl)); (focus (simp; done)); (focus (simp [notNl, isB, bne, *]; done)))
    | (apply o_mem; (focus (first | rfl | (apply g_in; rfl; rfl; (focus (simp [*]; done))))); rfl; (focus (simp [*]; exact ⟨rfl, rfl⟩)))
    | apply w_skip
    | apply w_block
    | apply b_normal
    | apply w_ret
    | apply t_ret
    | apply b_ret
    | apply w_exit
    | apply t_exit
    | apply b_here
    | (apply b_on; (focus decide))
    | (apply w_true; (focus (simp [*]; done)))
    | (apply w_false; (focus (simp [*]; done)))
    | ((apply w_cond; (focus (simp [*]; rfl)); rfl) <;> (intro hc; have hc' := hc; try simp at hc'))
    | (apply o_no; (focus (first | (apply g_out; rfl; rfl; (focus (simp [*]; done))) | (apply g_un; rfl; rfl; (focus (simp [*]; done))))))
    | (apply o_maybe; (focus (first | (apply g_none; rfl) | (apply g_sym; rfl; rfl; (focus (simp [*]; rfl)); (focus (simp only [gOf_bool, gOf_cond, gOf_cond', gOf_un, beq_true, beq_false, Bool.and_true]; rfl))))); (focus (intro hb; (try simp only [Bool.not_or, Bool.not_and, Bool.not_not, Bool.and_eq_true, Bool.not_eq_true', Bool.not_eq_false', Bool.not_eq_true, Bool.not_eq_false] at hb); simp [*]; rfl)))
    | ((apply o_if; rfl; rfl; (focus (simp [*]; rfl)); rfl) <;> (intro hg; (fail_if_success (guard_hyp hg : true = true)); (fail_if_success (guard_hyp hg : false = false)); have hg' := hg; try simp at hg'))
    | (apply w_drawA; rfl; (focus kernel_rfl); (focus (simp; rfl)); (focus (simp; rfl)))
    | (apply a_end; (focus (simp; rfl)))
    | (apply a_val; (focus (simp; rfl)); (focus (intro u; first | rfl | (apply g_in; rfl; rfl; (focus (simp [*]; done))))); (focus (intro H' u; simp [*]; rfl)); (focus (simp only [List.nil_append, List.cons_append]; rfl)))
    | (apply a_tie; (focus (simp; rfl)); (focus (intro u; first | rfl | (apply g_in; rfl; rfl; (focus (simp [*]; done))))); (focus (intro u; simp [*]; rfl)); (focus (first | rfl | kernel_rfl)); (focus (simp only [List.nil_append, List.cons_append]; rfl)); (focus (simp; rfl)))
    | (apply a_no; (focus (simp; rfl)); (focus (intro u; first | (apply g_out; rfl; rfl; (focus (simp [*]; done))) | (apply g_un; rfl; rfl; (focus (simp [*]; done))))); (focus (simp only [List.nil_append, List.cons_append]; rfl)))
    | ((apply a_if; (focus (simp; rfl)); rfl; rfl; (focus (intro u; simp [*]; rfl)); rfl) <;> (intro hg; (fail_if_success (guard_hyp hg : true = true)); (fail_if_success (guard_hyp hg : false = false)); have hg' := hg; try simp at hg'))
    | (apply a_frz; (focus (simp; rfl)); (focus (intro u; first | rfl | (apply g_in; rfl; rfl; (focus (simp [*]; done))))); (focus (intro u; rfl)); (focus (intro H' u; simp [*]; refine ⟨_, _, ⟨rfl, rfl⟩, ?_, ?_⟩; (focus (simp; done)); (focus (first | exact Snap.flat (by simp) | exact Snap.ref_flat (by simp) rfl rfl rfl (by simp) (by simp) | exact Snap.slice_flat (by simp) rfl (by simp; rfl) (by simp) (by simp) | exact Snap.slice_flat (by simp) (by simp; exact ⟨rfl, rfl, rfl⟩) (by simp; rfl) (by simp) (by simp))))); (focus (simp only [List.nil_append, List.cons_append]; rfl)))
    | (apply a_mem; (focus (simp; rfl)); (focus (intro u; first | rfl | (apply g_in; rfl; rfl; (focus (simp [*]; done))))); (focus (intro u; rfl)); (focus (intro u; simp [*]; exact ⟨rfl, rfl⟩)); (focus (first | rfl | kernel_rfl)); (focus (simp only [List.nil_append, List.cons_append]; rfl)); (focus (simp; rfl))))
theorem small_ok (c : UInt8) : Ans (L m) 22 [.int .u8 c.toNat] (.bool (isSmall c)) := by
  refine fn_of_body L_ok (fn := Try.f22) rfl rfl rfl rfl (by kernel_rfl) ?_
  repeat' (first
    | apply w_seq
    | apply w_region
    | apply o_end
    | apply t_normal
    | (apply o_add; (focus (first | rfl | (apply g_in; rfl; rfl; (focus (simp [*]; done))))); (focus (simp [*]; rfl)); rfl; (focus (simp [*]; rfl)); rfl; (focus (apply wrap_i64 <;> omega)))
    | (apply o_sub; (focus (first | rfl | (apply g_in; rfl; rfl; (focus (simp [*]; done))))); (focus (simp [*]; rfl)); rfl; (focus (simp [*]; rfl)); rfl; (focus (apply wrap_i64 <;> omega)))
    | (apply o_mpick; (focus (first | (apply g_none; rfl) | (apply g_sym; rfl; rfl; (focus (simp [*]; rfl)); (focus (simp only [gOf_bool, gOf_cond, gOf_cond', gOf_un, beq_true, beq_false, Bool.and_true]; rfl))))); (focus (intro hb; (try simp only [Bool.not_or, Bool.not_and, Bool.not_not, Bool.and_eq_true, Bool.not_eq_true', Bool.not_eq_false', Bool.not_eq_true, Bool.not_eq_false] at hb); simp [*]; rfl)); rfl; (focus (intro hb hp; (try simp only [Bool.not_or, Bool.not_and, Bool.not_not, Bool.and_eq_true, Bool.not_eq_true', Bool.not_eq_false', Bool.not_eq_true, Bool.not_eq_false] at hb); (try simp only [Bool.not_or, Bool.not_and, Bool.not_not, Bool.and_eq_true, Bool.not_eq_true', Bool.not_eq_false', Bool.not_eq_true, Bool.not_eq_false] at hp); simp [*]; rfl)); rfl; (focus (intro hb hp; (try simp only [Bool.not_or, Bool.not_and, Bool.not_not, Bool.and_eq_true, Bool.not_eq_true', Bool.not_eq_false', Bool.not_eq_true, Bool.not_eq_false] at hb); (try simp only [Bool.not_or, Bool.not_and, Bool.not_not, Bool.and_eq_true, Bool.not_eq_true', Bool.not_eq_false', Bool.not_eq_true, Bool.not_eq_false] at hp); simp [*]; rfl)); rfl)
    | (apply o_val; (focus (first | rfl | (apply g_in; rfl; rfl; (focus (simp [*]; done))))); (focus (simp [*]; rfl)))
    | (apply o_fuse; (focus (first | rfl | (apply g_in; rfl; rfl; (focus (simp [*]; done))))); rfl; (focus (simp [*]; first | rfl | exact ⟨rfl, rfl⟩)); (focus (first | rfl | (apply g_in; rfl; rfl; (focus (simp [*]; done))))); rfl; (focus (simp [*]; first | rfl | exact ⟨rfl, rfl⟩ | exact ⟨rfl, rfl, rfl⟩)); (focus (intro d hd; apply Under.flat; revert hd; revert d; simp; done)))
    | (apply f_retf; (focus (simp [*]; rfl)); (focus (simp; done)); (focus (simp [isSmall, *]; done)))
    | (apply o_mem; (focus (first | rfl | (apply g_in; rfl; rfl; (focus (simp [*]; done))))); rfl; (focus (simp [*]; exact ⟨rfl, rfl⟩)))
    | apply w_skip
    | apply w_block
    | apply b_normal
    | apply w_ret
    | apply t_ret
    | apply b_ret
    | apply w_exit
    | apply t_exit
    | apply b_here
    | (apply b_on; (focus decide))
    | (apply w_true; (focus (simp [*]; done)))
    | (apply w_false; (focus (simp [*]; done)))
    | ((apply w_cond; (focus (simp [*]; rfl)); rfl) <;> (intro hc; have hc' := hc; try simp at hc'))
    | (apply o_no; (focus (first | (apply g_out; rfl; rfl; (focus (simp [*]; done))) | (apply g_un; rfl; rfl; (focus (simp [*]; done))))))
    | (apply o_maybe; (focus (first | (apply g_none; rfl) | (apply g_sym; rfl; rfl; (focus (simp [*]; rfl)); (focus (simp only [gOf_bool, gOf_cond, gOf_cond', gOf_un, beq_true, beq_false, Bool.and_true]; rfl))))); (focus (intro hb; (try simp only [Bool.not_or, Bool.not_and, Bool.not_not, Bool.and_eq_true, Bool.not_eq_true', Bool.not_eq_false', Bool.not_eq_true, Bool.not_eq_false] at hb); simp [*]; rfl)))
    | ((apply o_if; rfl; rfl; (focus (simp [*]; rfl)); rfl) <;> (intro hg; (fail_if_success (guard_hyp hg : true = true)); (fail_if_success (guard_hyp hg : false = false)); have hg' := hg; try simp at hg'))
    | (apply w_drawA; rfl; (focus kernel_rfl); (focus (simp; rfl)); (focus (simp; rfl)))
    | (apply a_end; (focus (simp; rfl)))
    | (apply a_val; (focus (simp; rfl)); (focus (intro u; first | rfl | (apply g_in; rfl; rfl; (focus (simp [*]; done))))); (focus (intro H' u; simp [*]; rfl)); (focus (simp only [List.nil_append, List.cons_append]; rfl)))
    | (apply a_tie; (focus (simp; rfl)); (focus (intro u; first | rfl | (apply g_in; rfl; rfl; (focus (simp [*]; done))))); (focus (intro u; simp [*]; rfl)); (focus (first | rfl | kernel_rfl)); (focus (simp only [List.nil_append, List.cons_append]; rfl)); (focus (simp; rfl)))
    | (apply a_no; (focus (simp; rfl)); (focus (intro u; first | (apply g_out; rfl; rfl; (focus (simp [*]; done))) | (apply g_un; rfl; rfl; (focus (simp [*]; done))))); (focus (simp only [List.nil_append, List.cons_append]; rfl)))
    | ((apply a_if; (focus (simp; rfl)); rfl; rfl; (focus (intro u; simp [*]; rfl)); rfl) <;> (intro hg; (fail_if_success (guard_hyp hg : true = true)); (fail_if_success (guard_hyp hg : false = false)); have hg' := hg; try simp at hg'))
    | (apply a_frz; (focus (simp; rfl)); (focus (intro u; first | rfl | (apply g_in; rfl; rfl; (focus (simp [*]; done))))); (focus (intro u; rfl)); (focus (intro H' u; simp [*]; refine ⟨_, _, ⟨rfl, rfl⟩, ?_, ?_⟩; (focus (simp; done)); (focus (first | exact Snap.flat (by simp) | exact Snap.ref_flat (by simp) rfl rfl rfl (by simp) (by simp) | exact Snap.slice_flat (by simp) rfl (by simp; rfl) (by simp) (by simp) | exact Snap.slice_flat (by simp) (by simp; exact ⟨rfl, rfl, rfl⟩) (by simp; rfl) (by simp) (by simp))))); (focus (simp only [List.nil_append, List.cons_append]; rfl)))
    | (apply a_mem; (focus (simp; rfl)); (focus (intro u; first | rfl | (apply g_in; rfl; rfl; (focus (simp [*]; done))))); (focus (intro u; rfl)); (focus (intro u; simp [*]; exact ⟨rfl, rfl⟩)); (focus (first | rfl | kernel_rfl)); (focus (simp only [List.nil_append, List.cons_append]; rfl)); (focus (simp; rfl))))
theorem capital_ok (c : UInt8) : Ans (L m) 25 [.int .u8 c.toNat] (.bool (isCap c)) := by
  refine fn_of_body L_ok (fn := Try.f25) rfl rfl rfl rfl (by kernel_rfl) ?_
  repeat' (first
    | apply w_seq
    | apply w_region
    | apply o_end
    | apply t_normal
    | (apply o_add; (focus (first | rfl | (apply g_in; rfl; rfl; (focus (simp [*]; done))))); (focus (simp [*]; rfl)); rfl; (focus (simp [*]; rfl)); rfl; (focus (apply wrap_i64 <;> omega)))
    | (apply o_sub; (focus (first | rfl | (apply g_in; rfl; rfl; (focus (simp [*]; done))))); (focus (simp [*]; rfl)); rfl; (focus (simp [*]; rfl)); rfl; (focus (apply wrap_i64 <;> omega)))
    | (apply o_mpick; (focus (first | (apply g_none; rfl) | (apply g_sym; rfl; rfl; (focus (simp [*]; rfl)); (focus (simp only [gOf_bool, gOf_cond, gOf_cond', gOf_un, beq_true, beq_false, Bool.and_true]; rfl))))); (focus (intro hb; (try simp only [Bool.not_or, Bool.not_and, Bool.not_not, Bool.and_eq_true, Bool.not_eq_true', Bool.not_eq_false', Bool.not_eq_true, Bool.not_eq_false] at hb); simp [*]; rfl)); rfl; (focus (intro hb hp; (try simp only [Bool.not_or, Bool.not_and, Bool.not_not, Bool.and_eq_true, Bool.not_eq_true', Bool.not_eq_false', Bool.not_eq_true, Bool.not_eq_false] at hb); (try simp only [Bool.not_or, Bool.not_and, Bool.not_not, Bool.and_eq_true, Bool.not_eq_true', Bool.not_eq_false', Bool.not_eq_true, Bool.not_eq_false] at hp); simp [*]; rfl)); rfl; (focus (intro hb hp; (try simp only [Bool.not_or, Bool.not_and, Bool.not_not, Bool.and_eq_true, Bool.not_eq_true', Bool.not_eq_false', Bool.not_eq_true, Bool.not_eq_false] at hb); (try simp only [Bool.not_or, Bool.not_and, Bool.not_not, Bool.and_eq_true, Bool.not_eq_true', Bool.not_eq_false', Bool.not_eq_true, Bool.not_eq_false] at hp); simp [*]; rfl)); rfl)
    | (apply o_val; (focus (first | rfl | (apply g_in; rfl; rfl; (focus (simp [*]; done))))); (focus (simp [*]; rfl)))
    | (apply o_fuse; (focus (first | rfl | (apply g_in; rfl; rfl; (focus (simp [*]; done))))); rfl; (focus (simp [*]; first | rfl | exact ⟨rfl, rfl⟩)); (focus (first | rfl | (apply g_in; rfl; rfl; (focus (simp [*]; done))))); rfl; (focus (simp [*]; first | rfl | exact ⟨rfl, rfl⟩ | exact ⟨rfl, rfl, rfl⟩)); (focus (intro d hd; apply Under.flat; revert hd; revert d; simp; done)))
    | (apply f_retf; (focus (simp [*]; rfl)); (focus (simp; done)); (focus (simp [isCap, *]; done)))
    | (apply o_mem; (focus (first | rfl | (apply g_in; rfl; rfl; (focus (simp [*]; done))))); rfl; (focus (simp [*]; exact ⟨rfl, rfl⟩)))
    | apply w_skip
    | apply w_block
    | apply b_normal
    | apply w_ret
    | apply t_ret
    | apply b_ret
    | apply w_exit
    | apply t_exit
    | apply b_here
    | (apply b_on; (focus decide))
    | (apply w_true; (focus (simp [*]; done)))
    | (apply w_false; (focus (simp [*]; done)))
    | ((apply w_cond; (focus (simp [*]; rfl)); rfl) <;> (intro hc; have hc' := hc; try simp at hc'))
    | (apply o_no; (focus (first | (apply g_out; rfl; rfl; (focus (simp [*]; done))) | (apply g_un; rfl; rfl; (focus (simp [*]; done))))))
    | (apply o_maybe; (focus (first | (apply g_none; rfl) | (apply g_sym; rfl; rfl; (focus (simp [*]; rfl)); (focus (simp only [gOf_bool, gOf_cond, gOf_cond', gOf_un, beq_true, beq_false, Bool.and_true]; rfl))))); (focus (intro hb; (try simp only [Bool.not_or, Bool.not_and, Bool.not_not, Bool.and_eq_true, Bool.not_eq_true', Bool.not_eq_false', Bool.not_eq_true, Bool.not_eq_false] at hb); simp [*]; rfl)))
    | ((apply o_if; rfl; rfl; (focus (simp [*]; rfl)); rfl) <;> (intro hg; (fail_if_success (guard_hyp hg : true = true)); (fail_if_success (guard_hyp hg : false = false)); have hg' := hg; try simp at hg'))
    | (apply w_drawA; rfl; (focus kernel_rfl); (focus (simp; rfl)); (focus (simp; rfl)))
    | (apply a_end; (focus (simp; rfl)))
    | (apply a_val; (focus (simp; rfl)); (focus (intro u; first | rfl | (apply g_in; rfl; rfl; (focus (simp [*]; done))))); (focus (intro H' u; simp [*]; rfl)); (focus (simp only [List.nil_append, List.cons_append]; rfl)))
    | (apply a_tie; (focus (simp; rfl)); (focus (intro u; first | rfl | (apply g_in; rfl; rfl; (focus (simp [*]; done))))); (focus (intro u; simp [*]; rfl)); (focus (first | rfl | kernel_rfl)); (focus (simp only [List.nil_append, List.cons_append]; rfl)); (focus (simp; rfl)))
    | (apply a_no; (focus (simp; rfl)); (focus (intro u; first | (apply g_out; rfl; rfl; (focus (simp [*]; done))) | (apply g_un; rfl; rfl; (focus (simp [*]; done))))); (focus (simp only [List.nil_append, List.cons_append]; rfl)))
    | ((apply a_if; (focus (simp; rfl)); rfl; rfl; (focus (intro u; simp [*]; rfl)); rfl) <;> (intro hg; (fail_if_success (guard_hyp hg : true = true)); (fail_if_success (guard_hyp hg : false = false)); have hg' := hg; try simp at hg'))
    | (apply a_frz; (focus (simp; rfl)); (focus (intro u; first | rfl | (apply g_in; rfl; rfl; (focus (simp [*]; done))))); (focus (intro u; rfl)); (focus (intro H' u; simp [*]; refine ⟨_, _, ⟨rfl, rfl⟩, ?_, ?_⟩; (focus (simp; done)); (focus (first | exact Snap.flat (by simp) | exact Snap.ref_flat (by simp) rfl rfl rfl (by simp) (by simp) | exact Snap.slice_flat (by simp) rfl (by simp; rfl) (by simp) (by simp) | exact Snap.slice_flat (by simp) (by simp; exact ⟨rfl, rfl, rfl⟩) (by simp; rfl) (by simp) (by simp))))); (focus (simp only [List.nil_append, List.cons_append]; rfl)))
    | (apply a_mem; (focus (simp; rfl)); (focus (intro u; first | rfl | (apply g_in; rfl; rfl; (focus (simp [*]; done))))); (focus (intro u; rfl)); (focus (intro u; simp [*]; exact ⟨rfl, rfl⟩)); (focus (first | rfl | kernel_rfl)); (focus (simp only [List.nil_append, List.cons_append]; rfl)); (focus (simp; rfl))))
theorem inner_ok (c : UInt8) : Ans (L m) 23 [.int .u8 c.toNat] (.bool (isInner c)) := by
  refine fn_of_body L_ok (fn := Try.f23) rfl rfl rfl rfl (by kernel_rfl) ?_
  repeat' (first
    | apply w_seq
    | apply w_region
    | apply o_end
    | apply t_normal
    | (apply o_add; (focus (first | rfl | (apply g_in; rfl; rfl; (focus (simp [*]; done))))); (focus (simp [*]; rfl)); rfl; (focus (simp [*]; rfl)); rfl; (focus (apply wrap_i64 <;> omega)))
    | (apply o_sub; (focus (first | rfl | (apply g_in; rfl; rfl; (focus (simp [*]; done))))); (focus (simp [*]; rfl)); rfl; (focus (simp [*]; rfl)); rfl; (focus (apply wrap_i64 <;> omega)))
    | (apply o_mpick; (focus (first | (apply g_none; rfl) | (apply g_sym; rfl; rfl; (focus (simp [*]; rfl)); (focus (simp only [gOf_bool, gOf_cond, gOf_cond', gOf_un, beq_true, beq_false, Bool.and_true]; rfl))))); (focus (intro hb; (try simp only [Bool.not_or, Bool.not_and, Bool.not_not, Bool.and_eq_true, Bool.not_eq_true', Bool.not_eq_false', Bool.not_eq_true, Bool.not_eq_false] at hb); simp [*]; rfl)); rfl; (focus (intro hb hp; (try simp only [Bool.not_or, Bool.not_and, Bool.not_not, Bool.and_eq_true, Bool.not_eq_true', Bool.not_eq_false', Bool.not_eq_true, Bool.not_eq_false] at hb); (try simp only [Bool.not_or, Bool.not_and, Bool.not_not, Bool.and_eq_true, Bool.not_eq_true', Bool.not_eq_false', Bool.not_eq_true, Bool.not_eq_false] at hp); simp [*]; rfl)); rfl; (focus (intro hb hp; (try simp only [Bool.not_or, Bool.not_and, Bool.not_not, Bool.and_eq_true, Bool.not_eq_true', Bool.not_eq_false', Bool.not_eq_true, Bool.not_eq_false] at hb); (try simp only [Bool.not_or, Bool.not_and, Bool.not_not, Bool.and_eq_true, Bool.not_eq_true', Bool.not_eq_false', Bool.not_eq_true, Bool.not_eq_false] at hp); simp [*]; rfl)); rfl)
    | (apply o_val; (focus (first | rfl | (apply g_in; rfl; rfl; (focus (simp [*]; done))))); (focus (simp [*]; rfl)))
    | (apply o_fuse; (focus (first | rfl | (apply g_in; rfl; rfl; (focus (simp [*]; done))))); rfl; (focus (simp [*]; first | rfl | exact ⟨rfl, rfl⟩)); (focus (first | rfl | (apply g_in; rfl; rfl; (focus (simp [*]; done))))); rfl; (focus (simp [*]; first | rfl | exact ⟨rfl, rfl⟩ | exact ⟨rfl, rfl, rfl⟩)); (focus (intro d hd; apply Under.flat; revert hd; revert d; simp; done)))
    | (apply o_fn fine; (focus (first | rfl | (apply g_in; rfl; rfl; (focus (simp [*]; done))))); (focus (simp [*]; exact ⟨rfl, rfl⟩)); (focus (exact small_ok c)); (focus (simp [*]; done)))
    | (apply f_retf; (focus (simp [*]; rfl)); (focus (simp; done)); (focus (simp [isInner, *]; done)))
    | (apply o_mem; (focus (first | rfl | (apply g_in; rfl; rfl; (focus (simp [*]; done))))); rfl; (focus (simp [*]; exact ⟨rfl, rfl⟩)))
    | apply w_skip
    | apply w_block
    | apply b_normal
    | apply w_ret
    | apply t_ret
    | apply b_ret
    | apply w_exit
    | apply t_exit
    | apply b_here
    | (apply b_on; (focus decide))
    | (apply w_true; (focus (simp [*]; done)))
    | (apply w_false; (focus (simp [*]; done)))
    | ((apply w_cond; (focus (simp [*]; rfl)); rfl) <;> (intro hc; have hc' := hc; try simp at hc'))
    | (apply o_no; (focus (first | (apply g_out; rfl; rfl; (focus (simp [*]; done))) | (apply g_un; rfl; rfl; (focus (simp [*]; done))))))
    | (apply o_maybe; (focus (first | (apply g_none; rfl) | (apply g_sym; rfl; rfl; (focus (simp [*]; rfl)); (focus (simp only [gOf_bool, gOf_cond, gOf_cond', gOf_un, beq_true, beq_false, Bool.and_true]; rfl))))); (focus (intro hb; (try simp only [Bool.not_or, Bool.not_and, Bool.not_not, Bool.and_eq_true, Bool.not_eq_true', Bool.not_eq_false', Bool.not_eq_true, Bool.not_eq_false] at hb); simp [*]; rfl)))
    | (apply o_mfn fine; (focus (first | (apply g_none; rfl) | (apply g_sym; rfl; rfl; (focus (simp [*]; rfl)); (focus (simp only [gOf_bool, gOf_cond, gOf_cond', gOf_un, beq_true, beq_false, Bool.and_true]; rfl))))); (focus (intro hb; (try simp only [Bool.not_or, Bool.not_and, Bool.not_not, Bool.and_eq_true, Bool.not_eq_true', Bool.not_eq_false', Bool.not_eq_true, Bool.not_eq_false] at hb); simp [*]; exact ⟨rfl, rfl⟩)); (focus (intro _; exact small_ok c)); (focus (intro _; simp [*]; done)))
    | ((apply o_if; rfl; rfl; (focus (simp [*]; rfl)); rfl) <;> (intro hg; (fail_if_success (guard_hyp hg : true = true)); (fail_if_success (guard_hyp hg : false = false)); have hg' := hg; try simp at hg'))
    | (apply w_drawA; rfl; (focus kernel_rfl); (focus (simp; rfl)); (focus (simp; rfl)))
    | (apply a_end; (focus (simp; rfl)))
    | (apply a_val; (focus (simp; rfl)); (focus (intro u; first | rfl | (apply g_in; rfl; rfl; (focus (simp [*]; done))))); (focus (intro H' u; simp [*]; rfl)); (focus (simp only [List.nil_append, List.cons_append]; rfl)))
    | (apply a_fn fine; (focus (simp; rfl)); (focus (intro u; first | rfl | (apply g_in; rfl; rfl; (focus (simp [*]; done))))); (focus (intro u; simp [*]; exact ⟨rfl, rfl⟩)); (focus (exact small_ok c)); (focus (simp [*]; done)); (focus (simp only [List.nil_append, List.cons_append]; rfl)))
    | (apply a_tie; (focus (simp; rfl)); (focus (intro u; first | rfl | (apply g_in; rfl; rfl; (focus (simp [*]; done))))); (focus (intro u; simp [*]; rfl)); (focus (first | rfl | kernel_rfl)); (focus (simp only [List.nil_append, List.cons_append]; rfl)); (focus (simp; rfl)))
    | (apply a_no; (focus (simp; rfl)); (focus (intro u; first | (apply g_out; rfl; rfl; (focus (simp [*]; done))) | (apply g_un; rfl; rfl; (focus (simp [*]; done))))); (focus (simp only [List.nil_append, List.cons_append]; rfl)))
    | ((apply a_if; (focus (simp; rfl)); rfl; rfl; (focus (intro u; simp [*]; rfl)); rfl) <;> (intro hg; (fail_if_success (guard_hyp hg : true = true)); (fail_if_success (guard_hyp hg : false = false)); have hg' := hg; try simp at hg'))
    | (apply a_frz; (focus (simp; rfl)); (focus (intro u; first | rfl | (apply g_in; rfl; rfl; (focus (simp [*]; done))))); (focus (intro u; rfl)); (focus (intro H' u; simp [*]; refine ⟨_, _, ⟨rfl, rfl⟩, ?_, ?_⟩; (focus (simp; done)); (focus (first | exact Snap.flat (by simp) | exact Snap.ref_flat (by simp) rfl rfl rfl (by simp) (by simp) | exact Snap.slice_flat (by simp) rfl (by simp; rfl) (by simp) (by simp) | exact Snap.slice_flat (by simp) (by simp; exact ⟨rfl, rfl, rfl⟩) (by simp; rfl) (by simp) (by simp))))); (focus (simp only [List.nil_append, List.cons_append]; rfl)))
    | (apply a_mem; (focus (simp; rfl)); (focus (intro u; first | rfl | (apply g_in; rfl; rfl; (focus (simp [*]; done))))); (focus (intro u; rfl)); (focus (intro u; simp [*]; exact ⟨rfl, rfl⟩)); (focus (first | rfl | kernel_rfl)); (focus (simp only [List.nil_append, List.cons_append]; rfl)); (focus (simp; rfl))))
theorem quoted_ok (c : UInt8) : Ans (L m) 26 [.int .u8 c.toNat] (.bool (isQuoted c)) := by
  refine fn_of_body L_ok (fn := Try.f26) rfl rfl rfl rfl (by kernel_rfl) ?_
  repeat' (first
    | apply w_seq
    | apply w_region
    | apply o_end
    | apply t_normal
    | (apply o_add; (focus (first | rfl | (apply g_in; rfl; rfl; (focus (simp [*]; done))))); (focus (simp [*]; rfl)); rfl; (focus (simp [*]; rfl)); rfl; (focus (apply wrap_i64 <;> omega)))
    | (apply o_sub; (focus (first | rfl | (apply g_in; rfl; rfl; (focus (simp [*]; done))))); (focus (simp [*]; rfl)); rfl; (focus (simp [*]; rfl)); rfl; (focus (apply wrap_i64 <;> omega)))
    | (apply o_mpick; (focus (first | (apply g_none; rfl) | (apply g_sym; rfl; rfl; (focus (simp [*]; rfl)); (focus (simp only [gOf_bool, gOf_cond, gOf_cond', gOf_un, beq_true, beq_false, Bool.and_true]; rfl))))); (focus (intro hb; (try simp only [Bool.not_or, Bool.not_and, Bool.not_not, Bool.and_eq_true, Bool.not_eq_true', Bool.not_eq_false', Bool.not_eq_true, Bool.not_eq_false] at hb); simp [*]; rfl)); rfl; (focus (intro hb hp; (try simp only [Bool.not_or, Bool.not_and, Bool.not_not, Bool.and_eq_true, Bool.not_eq_true', Bool.not_eq_false', Bool.not_eq_true, Bool.not_eq_false] at hb); (try simp only [Bool.not_or, Bool.not_and, Bool.not_not, Bool.and_eq_true, Bool.not_eq_true', Bool.not_eq_false', Bool.not_eq_true, Bool.not_eq_false] at hp); simp [*]; rfl)); rfl; (focus (intro hb hp; (try simp only [Bool.not_or, Bool.not_and, Bool.not_not, Bool.and_eq_true, Bool.not_eq_true', Bool.not_eq_false', Bool.not_eq_true, Bool.not_eq_false] at hb); (try simp only [Bool.not_or, Bool.not_and, Bool.not_not, Bool.and_eq_true, Bool.not_eq_true', Bool.not_eq_false', Bool.not_eq_true, Bool.not_eq_false] at hp); simp [*]; rfl)); rfl)
    | (apply o_val; (focus (first | rfl | (apply g_in; rfl; rfl; (focus (simp [*]; done))))); (focus (simp [*]; rfl)))
    | (apply o_fuse; (focus (first | rfl | (apply g_in; rfl; rfl; (focus (simp [*]; done))))); rfl; (focus (simp [*]; first | rfl | exact ⟨rfl, rfl⟩)); (focus (first | rfl | (apply g_in; rfl; rfl; (focus (simp [*]; done))))); rfl; (focus (simp [*]; first | rfl | exact ⟨rfl, rfl⟩ | exact ⟨rfl, rfl, rfl⟩)); (focus (intro d hd; apply Under.flat; revert hd; revert d; simp; done)))
    | (apply f_retf; (focus (simp [*]; rfl)); (focus (simp; done)); (focus (simp [isQuoted, bne, *]; done)))
    | (apply o_mem; (focus (first | rfl | (apply g_in; rfl; rfl; (focus (simp [*]; done))))); rfl; (focus (simp [*]; exact ⟨rfl, rfl⟩)))
    | apply w_skip
    | apply w_block
    | apply b_normal
    | apply w_ret
    | apply t_ret
    | apply b_ret
    | apply w_exit
    | apply t_exit
    | apply b_here
    | (apply b_on; (focus decide))
    | (apply w_true; (focus (simp [*]; done)))
    | (apply w_false; (focus (simp [*]; done)))
    | ((apply w_cond; (focus (simp [*]; rfl)); rfl) <;> (intro hc; have hc' := hc; try simp at hc'))
    | (apply o_no; (focus (first | (apply g_out; rfl; rfl; (focus (simp [*]; done))) | (apply g_un; rfl; rfl; (focus (simp [*]; done))))))
    | (apply o_maybe; (focus (first | (apply g_none; rfl) | (apply g_sym; rfl; rfl; (focus (simp [*]; rfl)); (focus (simp only [gOf_bool, gOf_cond, gOf_cond', gOf_un, beq_true, beq_false, Bool.and_true]; rfl))))); (focus (intro hb; (try simp only [Bool.not_or, Bool.not_and, Bool.not_not, Bool.and_eq_true, Bool.not_eq_true', Bool.not_eq_false', Bool.not_eq_true, Bool.not_eq_false] at hb); simp [*]; rfl)))
    | ((apply o_if; rfl; rfl; (focus (simp [*]; rfl)); rfl) <;> (intro hg; (fail_if_success (guard_hyp hg : true = true)); (fail_if_success (guard_hyp hg : false = false)); have hg' := hg; try simp at hg'))
    | (apply w_drawA; rfl; (focus kernel_rfl); (focus (simp; rfl)); (focus (simp; rfl)))
    | (apply a_end; (focus (simp; rfl)))
    | (apply a_val; (focus (simp; rfl)); (focus (intro u; first | rfl | (apply g_in; rfl; rfl; (focus (simp [*]; done))))); (focus (intro H' u; simp [*]; rfl)); (focus (simp only [List.nil_append, List.cons_append]; rfl)))
    | (apply a_tie; (focus (simp; rfl)); (focus (intro u; first | rfl | (apply g_in; rfl; rfl; (focus (simp [*]; done))))); (focus (intro u; simp [*]; rfl)); (focus (first | rfl | kernel_rfl)); (focus (simp only [List.nil_append, List.cons_append]; rfl)); (focus (simp; rfl)))
    | (apply a_no; (focus (simp; rfl)); (focus (intro u; first | (apply g_out; rfl; rfl; (focus (simp [*]; done))) | (apply g_un; rfl; rfl; (focus (simp [*]; done))))); (focus (simp only [List.nil_append, List.cons_append]; rfl)))
    | ((apply a_if; (focus (simp; rfl)); rfl; rfl; (focus (intro u; simp [*]; rfl)); rfl) <;> (intro hg; (fail_if_success (guard_hyp hg : true = true)); (fail_if_success (guard_hyp hg : false = false)); have hg' := hg; try simp at hg'))
    | (apply a_frz; (focus (simp; rfl)); (focus (intro u; first | rfl | (apply g_in; rfl; rfl; (focus (simp [*]; done))))); (focus (intro u; rfl)); (focus (intro H' u; simp [*]; refine ⟨_, _, ⟨rfl, rfl⟩, ?_, ?_⟩; (focus (simp; done)); (focus (first | exact Snap.flat (by simp) | exact Snap.ref_flat (by simp) rfl rfl rfl (by simp) (by simp) | exact Snap.slice_flat (by simp) rfl (by simp; rfl) (by simp) (by simp) | exact Snap.slice_flat (by simp) (by simp; exact ⟨rfl, rfl, rfl⟩) (by simp; rfl) (by simp) (by simp))))); (focus (simp only [List.nil_append, List.cons_append]; rfl)))
    | (apply a_mem; (focus (simp; rfl)); (focus (intro u; first | rfl | (apply g_in; rfl; rfl; (focus (simp [*]; done))))); (focus (intro u; rfl)); (focus (intro u; simp [*]; exact ⟨rfl, rfl⟩)); (focus (first | rfl | kernel_rfl)); (focus (simp only [List.nil_append, List.cons_append]; rfl)); (focus (simp; rfl))))
theorem rsmall_ok (c : UInt8) : Ans (L m) 28 [.int .u8 c.toNat] (.bool (isSmall c)) := by
  refine fn_of_body L_ok (fn := Try.f28) rfl rfl rfl rfl (by kernel_rfl) ?_
  repeat' (first
    | apply w_seq
    | apply w_region
    | apply o_end
    | apply t_normal
    | (apply o_add; (focus (first | rfl | (apply g_in; rfl; rfl; (focus (simp [*]; done))))); (focus (simp [*]; rfl)); rfl; (focus (simp [*]; rfl)); rfl; (focus (apply wrap_i64 <;> omega)))
    | (apply o_sub; (focus (first | rfl | (apply g_in; rfl; rfl; (focus (simp [*]; done))))); (focus (simp [*]; rfl)); rfl; (focus (simp [*]; rfl)); rfl; (focus (apply wrap_i64 <;> omega)))
    | (apply o_mpick; (focus (first | (apply g_none; rfl) | (apply g_sym; rfl; rfl; (focus (simp [*]; rfl)); (focus (simp only [gOf_bool, gOf_cond, gOf_cond', gOf_un, beq_true, beq_false, Bool.and_true]; rfl))))); (focus (intro hb; (try simp only [Bool.not_or, Bool.not_and, Bool.not_not, Bool.and_eq_true, Bool.not_eq_true', Bool.not_eq_false', Bool.not_eq_true, Bool.not_eq_false] at hb); simp [*]; rfl)); rfl; (focus (intro hb hp; (try simp only [Bool.not_or, Bool.not_and, Bool.not_not, Bool.and_eq_true, Bool.not_eq_true', Bool.not_eq_false', Bool.not_eq_true, Bool.not_eq_false] at hb); (try simp only [Bool.not_or, Bool.not_and, Bool.not_not, Bool.and_eq_true, Bool.not_eq_true', Bool.not_eq_false', Bool.not_eq_true, Bool.not_eq_false] at hp); simp [*]; rfl)); rfl; (focus (intro hb hp; (try simp only [Bool.not_or, Bool.not_and, Bool.not_not, Bool.and_eq_true, Bool.not_eq_true', Bool.not_eq_false', Bool.not_eq_true, Bool.not_eq_false] at hb); (try simp only [Bool.not_or, Bool.not_and, Bool.not_not, Bool.and_eq_true, Bool.not_eq_true', Bool.not_eq_false', Bool.not_eq_true, Bool.not_eq_false] at hp); simp [*]; rfl)); rfl)
    | (apply o_val; (focus (first | rfl | (apply g_in; rfl; rfl; (focus (simp [*]; done))))); (focus (simp [*]; rfl)))
    | (apply o_fuse; (focus (first | rfl | (apply g_in; rfl; rfl; (focus (simp [*]; done))))); rfl; (focus (simp [*]; first | rfl | exact ⟨rfl, rfl⟩)); (focus (first | rfl | (apply g_in; rfl; rfl; (focus (simp [*]; done))))); rfl; (focus (simp [*]; first | rfl | exact ⟨rfl, rfl⟩ | exact ⟨rfl, rfl, rfl⟩)); (focus (intro d hd; apply Under.flat; revert hd; revert d; simp; done)))
    | (apply f_retf; (focus (simp [*]; rfl)); (focus (simp; done)); (focus (simp [isSmall, *]; done)))
    | (apply o_mem; (focus (first | rfl | (apply g_in; rfl; rfl; (focus (simp [*]; done))))); rfl; (focus (simp [*]; exact ⟨rfl, rfl⟩)))
    | apply w_skip
    | apply w_block
    | apply b_normal
    | apply w_ret
    | apply t_ret
    | apply b_ret
    | apply w_exit
    | apply t_exit
    | apply b_here
    | (apply b_on; (focus decide))
    | (apply w_true; (focus (simp [*]; done)))
    | (apply w_false; (focus (simp [*]; done)))
    | ((apply w_cond; (focus (simp [*]; rfl)); rfl) <;> (intro hc; have hc' := hc; try simp at hc'))
    | (apply o_no; (focus (first | (apply g_out; rfl; rfl; (focus (simp [*]; done))) | (apply g_un; rfl; rfl; (focus (simp [*]; done))))))
    | (apply o_maybe; (focus (first | (apply g_none; rfl) | (apply g_sym; rfl; rfl; (focus (simp [*]; rfl)); (focus (simp only [gOf_bool, gOf_cond, gOf_cond', gOf_un, beq_true, beq_false, Bool.and_true]; rfl))))); (focus (intro hb; (try simp only [Bool.not_or, Bool.not_and, Bool.not_not, Bool.and_eq_true, Bool.not_eq_true', Bool.not_eq_false', Bool.not_eq_true, Bool.not_eq_false] at hb); simp [*]; rfl)))
    | ((apply o_if; rfl; rfl; (focus (simp [*]; rfl)); rfl) <;> (intro hg; (fail_if_success (guard_hyp hg : true = true)); (fail_if_success (guard_hyp hg : false = false)); have hg' := hg; try simp at hg'))
    | (apply w_drawA; rfl; (focus kernel_rfl); (focus (simp; rfl)); (focus (simp; rfl)))
    | (apply a_end; (focus (simp; rfl)))
    | (apply a_val; (focus (simp; rfl)); (focus (intro u; first | rfl | (apply g_in; rfl; rfl; (focus (simp [*]; done))))); (focus (intro H' u; simp [*]; rfl)); (focus (simp only [List.nil_append, List.cons_append]; rfl)))
    | (apply a_tie; (focus (simp; rfl)); (focus (intro u; first | rfl | (apply g_in; rfl; rfl; (focus (simp [*]; done))))); (focus (intro u; simp [*]; rfl)); (focus (first | rfl | kernel_rfl)); (focus (simp only [List.nil_append, List.cons_append]; rfl)); (focus (simp; rfl)))
    | (apply a_no; (focus (simp; rfl)); (focus (intro u; first | (apply g_out; rfl; rfl; (focus (simp [*]; done))) | (apply g_un; rfl; rfl; (focus (simp [*]; done))))); (focus (simp only [List.nil_append, List.cons_append]; rfl)))
    | ((apply a_if; (focus (simp; rfl)); rfl; rfl; (focus (intro u; simp [*]; rfl)); rfl) <;> (intro hg; (fail_if_success (guard_hyp hg : true = true)); (fail_if_success (guard_hyp hg : false = false)); have hg' := hg; try simp at hg'))
    | (apply a_frz; (focus (simp; rfl)); (focus (intro u; first | rfl | (apply g_in; rfl; rfl; (focus (simp [*]; done))))); (focus (intro u; rfl)); (focus (intro H' u; simp [*]; refine ⟨_, _, ⟨rfl, rfl⟩, ?_, ?_⟩; (focus (simp; done)); (focus (first | exact Snap.flat (by simp) | exact Snap.ref_flat (by simp) rfl rfl rfl (by simp) (by simp) | exact Snap.slice_flat (by simp) rfl (by simp; rfl) (by simp) (by simp) | exact Snap.slice_flat (by simp) (by simp; exact ⟨rfl, rfl, rfl⟩) (by simp; rfl) (by simp) (by simp))))); (focus (simp only [List.nil_append, List.cons_append]; rfl)))
    | (apply a_mem; (focus (simp; rfl)); (focus (intro u; first | rfl | (apply g_in; rfl; rfl; (focus (simp [*]; done))))); (focus (intro u; rfl)); (focus (intro u; simp [*]; exact ⟨rfl, rfl⟩)); (focus (first | rfl | kernel_rfl)); (focus (simp only [List.nil_append, List.cons_append]; rfl)); (focus (simp; rfl))))
theorem rcaps_ok (c : UInt8) : Ans (L m) 29 [.int .u8 c.toNat] (.bool (isCap c)) := by
  refine fn_of_body L_ok (fn := Try.f29) rfl rfl rfl rfl (by kernel_rfl) ?_
  repeat' (first
    | apply w_seq
    | apply w_region
    | apply o_end
    | apply t_normal
    | (apply o_add; (focus (first | rfl | (apply g_in; rfl; rfl; (focus (simp [*]; done))))); (focus (simp [*]; rfl)); rfl; (focus (simp [*]; rfl)); rfl; (focus (apply wrap_i64 <;> omega)))
    | (apply o_sub; (focus (first | rfl | (apply g_in; rfl; rfl; (focus (simp [*]; done))))); (focus (simp [*]; rfl)); rfl; (focus (simp [*]; rfl)); rfl; (focus (apply wrap_i64 <;> omega)))
    | (apply o_mpick; (focus (first | (apply g_none; rfl) | (apply g_sym; rfl; rfl; (focus (simp [*]; rfl)); (focus (simp only [gOf_bool, gOf_cond, gOf_cond', gOf_un, beq_true, beq_false, Bool.and_true]; rfl))))); (focus (intro hb; (try simp only [Bool.not_or, Bool.not_and, Bool.not_not, Bool.and_eq_true, Bool.not_eq_true', Bool.not_eq_false', Bool.not_eq_true, Bool.not_eq_false] at hb); simp [*]; rfl)); rfl; (focus (intro hb hp; (try simp only [Bool.not_or, Bool.not_and, Bool.not_not, Bool.and_eq_true, Bool.not_eq_true', Bool.not_eq_false', Bool.not_eq_true, Bool.not_eq_false] at hb); (try simp only [Bool.not_or, Bool.not_and, Bool.not_not, Bool.and_eq_true, Bool.not_eq_true', Bool.not_eq_false', Bool.not_eq_true, Bool.not_eq_false] at hp); simp [*]; rfl)); rfl; (focus (intro hb hp; (try simp only [Bool.not_or, Bool.not_and, Bool.not_not, Bool.and_eq_true, Bool.not_eq_true', Bool.not_eq_false', Bool.not_eq_true, Bool.not_eq_false] at hb); (try simp only [Bool.not_or, Bool.not_and, Bool.not_not, Bool.and_eq_true, Bool.not_eq_true', Bool.not_eq_false', Bool.not_eq_true, Bool.not_eq_false] at hp); simp [*]; rfl)); rfl)
    | (apply o_val; (focus (first | rfl | (apply g_in; rfl; rfl; (focus (simp [*]; done))))); (focus (simp [*]; rfl)))
    | (apply o_fuse; (focus (first | rfl | (apply g_in; rfl; rfl; (focus (simp [*]; done))))); rfl; (focus (simp [*]; first | rfl | exact ⟨rfl, rfl⟩)); (focus (first | rfl | (apply g_in; rfl; rfl; (focus (simp [*]; done))))); rfl; (focus (simp [*]; first | rfl | exact ⟨rfl, rfl⟩ | exact ⟨rfl, rfl, rfl⟩)); (focus (intro d hd; apply Under.flat; revert hd; revert d; simp; done)))
    | (apply f_retf; (focus (simp [*]; rfl)); (focus (simp; done)); (focus (simp [isCap, *]; done)))
    | (apply o_mem; (focus (first | rfl | (apply g_in; rfl; rfl; (focus (simp [*]; done))))); rfl; (focus (simp [*]; exact ⟨rfl, rfl⟩)))
    | apply w_skip
    | apply w_block
    | apply b_normal
    | apply w_ret
    | apply t_ret
    | apply b_ret
    | apply w_exit
    | apply t_exit
    | apply b_here
    | (apply b_on; (focus decide))
    | (apply w_true; (focus (simp [*]; done)))
    | (apply w_false; (focus (simp [*]; done)))
    | ((apply w_cond; (focus (simp [*]; rfl)); rfl) <;> (intro hc; have hc' := hc; try simp at hc'))
    | (apply o_no; (focus (first | (apply g_out; rfl; rfl; (focus (simp [*]; done))) | (apply g_un; rfl; rfl; (focus (simp [*]; done))))))
    | (apply o_maybe; (focus (first | (apply g_none; rfl) | (apply g_sym; rfl; rfl; (focus (simp [*]; rfl)); (focus (simp only [gOf_bool, gOf_cond, gOf_cond', gOf_un, beq_true, beq_false, Bool.and_true]; rfl))))); (focus (intro hb; (try simp only [Bool.not_or, Bool.not_and, Bool.not_not, Bool.and_eq_true, Bool.not_eq_true', Bool.not_eq_false', Bool.not_eq_true, Bool.not_eq_false] at hb); simp [*]; rfl)))
    | ((apply o_if; rfl; rfl; (focus (simp [*]; rfl)); rfl) <;> (intro hg; (fail_if_success (guard_hyp hg : true = true)); (fail_if_success (guard_hyp hg : false = false)); have hg' := hg; try simp at hg'))
    | (apply w_drawA; rfl; (focus kernel_rfl); (focus (simp; rfl)); (focus (simp; rfl)))
    | (apply a_end; (focus (simp; rfl)))
    | (apply a_val; (focus (simp; rfl)); (focus (intro u; first | rfl | (apply g_in; rfl; rfl; (focus (simp [*]; done))))); (focus (intro H' u; simp [*]; rfl)); (focus (simp only [List.nil_append, List.cons_append]; rfl)))
    | (apply a_tie; (focus (simp; rfl)); (focus (intro u; first | rfl | (apply g_in; rfl; rfl; (focus (simp [*]; done))))); (focus (intro u; simp [*]; rfl)); (focus (first | rfl | kernel_rfl)); (focus (simp only [List.nil_append, List.cons_append]; rfl)); (focus (simp; rfl)))
    | (apply a_no; (focus (simp; rfl)); (focus (intro u; first | (apply g_out; rfl; rfl; (focus (simp [*]; done))) | (apply g_un; rfl; rfl; (focus (simp [*]; done))))); (focus (simp only [List.nil_append, List.cons_append]; rfl)))
    | ((apply a_if; (focus (simp; rfl)); rfl; rfl; (focus (intro u; simp [*]; rfl)); rfl) <;> (intro hg; (fail_if_success (guard_hyp hg : true = true)); (fail_if_success (guard_hyp hg : false = false)); have hg' := hg; try simp at hg'))
    | (apply a_frz; (focus (simp; rfl)); (focus (intro u; first | rfl | (apply g_in; rfl; rfl; (focus (simp [*]; done))))); (focus (intro u; rfl)); (focus (intro H' u; simp [*]; refine ⟨_, _, ⟨rfl, rfl⟩, ?_, ?_⟩; (focus (simp; done)); (focus (first | exact Snap.flat (by simp) | exact Snap.ref_flat (by simp) rfl rfl rfl (by simp) (by simp) | exact Snap.slice_flat (by simp) rfl (by simp; rfl) (by simp) (by simp) | exact Snap.slice_flat (by simp) (by simp; exact ⟨rfl, rfl, rfl⟩) (by simp; rfl) (by simp) (by simp))))); (focus (simp only [List.nil_append, List.cons_append]; rfl)))
    | (apply a_mem; (focus (simp; rfl)); (focus (intro u; first | rfl | (apply g_in; rfl; rfl; (focus (simp [*]; done))))); (focus (intro u; rfl)); (focus (intro u; simp [*]; exact ⟨rfl, rfl⟩)); (focus (first | rfl | kernel_rfl)); (focus (simp only [List.nil_append, List.cons_append]; rfl)); (focus (simp; rfl))))
theorem long_ok (n most : Int) : Ans (L m) 24 [.int .i64 n, .int .i64 most] (.int .i64 (if most < n then 6 else 0)) := by
  refine fn_of_body L_ok (fn := Try.f24) rfl rfl rfl rfl (by kernel_rfl) ?_
  repeat' (first
    | apply w_seq
    | apply w_region
    | apply o_end
    | apply t_normal
    | (apply o_add; (focus (first | rfl | (apply g_in; rfl; rfl; (focus (simp [*]; done))))); (focus (simp [*]; rfl)); rfl; (focus (simp [*]; rfl)); rfl; (focus (apply wrap_i64 <;> omega)))
    | (apply o_sub; (focus (first | rfl | (apply g_in; rfl; rfl; (focus (simp [*]; done))))); (focus (simp [*]; rfl)); rfl; (focus (simp [*]; rfl)); rfl; (focus (apply wrap_i64 <;> omega)))
    | (apply o_val; (focus (first | rfl | (apply g_in; rfl; rfl; (focus (simp [*]; done))))); (focus (simp [*]; rfl)))
    | (apply o_fuse; (focus (first | rfl | (apply g_in; rfl; rfl; (focus (simp [*]; done))))); rfl; (focus (simp [*]; first | rfl | exact ⟨rfl, rfl⟩)); (focus (first | rfl | (apply g_in; rfl; rfl; (focus (simp [*]; done))))); rfl; (focus (simp [*]; first | rfl | exact ⟨rfl, rfl⟩ | exact ⟨rfl, rfl, rfl⟩)); (focus (intro d hd; apply Under.flat; revert hd; revert d; simp; done)))
    | (apply f_retf; (focus (simp [*]; rfl)); (focus (simp; done)); (focus (simp [*]; done)))
    | (apply o_mem; (focus (first | rfl | (apply g_in; rfl; rfl; (focus (simp [*]; done))))); rfl; (focus (simp [*]; exact ⟨rfl, rfl⟩)))
    | apply w_skip
    | apply w_block
    | apply b_normal
    | apply w_ret
    | apply t_ret
    | apply b_ret
    | apply w_exit
    | apply t_exit
    | apply b_here
    | (apply b_on; (focus decide))
    | (apply w_true; (focus (simp [*]; done)))
    | (apply w_false; (focus (simp [*]; done)))
    | ((apply w_cond; (focus (simp [*]; rfl)); rfl) <;> (intro hc; have hc' := hc; try simp at hc'))
    | (apply o_no; (focus (first | (apply g_out; rfl; rfl; (focus (simp [*]; done))) | (apply g_un; rfl; rfl; (focus (simp [*]; done))))))
    | ((apply o_if; rfl; rfl; (focus (simp [*]; rfl)); rfl) <;> (intro hg; (fail_if_success (guard_hyp hg : true = true)); (fail_if_success (guard_hyp hg : false = false)); have hg' := hg; try simp at hg'))
    | (apply w_drawA; rfl; (focus kernel_rfl); (focus (simp; rfl)); (focus (simp; rfl)))
    | (apply a_end; (focus (simp; rfl)))
    | (apply a_val; (focus (simp; rfl)); (focus (intro u; first | rfl | (apply g_in; rfl; rfl; (focus (simp [*]; done))))); (focus (intro H' u; simp [*]; rfl)); (focus (simp only [List.nil_append, List.cons_append]; rfl)))
    | (apply a_tie; (focus (simp; rfl)); (focus (intro u; first | rfl | (apply g_in; rfl; rfl; (focus (simp [*]; done))))); (focus (intro u; simp [*]; rfl)); (focus (first | rfl | kernel_rfl)); (focus (simp only [List.nil_append, List.cons_append]; rfl)); (focus (simp; rfl)))
    | (apply a_no; (focus (simp; rfl)); (focus (intro u; first | (apply g_out; rfl; rfl; (focus (simp [*]; done))) | (apply g_un; rfl; rfl; (focus (simp [*]; done))))); (focus (simp only [List.nil_append, List.cons_append]; rfl)))
    | ((apply a_if; (focus (simp; rfl)); rfl; rfl; (focus (intro u; simp [*]; rfl)); rfl) <;> (intro hg; (fail_if_success (guard_hyp hg : true = true)); (fail_if_success (guard_hyp hg : false = false)); have hg' := hg; try simp at hg'))
    | (apply a_frz; (focus (simp; rfl)); (focus (intro u; first | rfl | (apply g_in; rfl; rfl; (focus (simp [*]; done))))); (focus (intro u; rfl)); (focus (intro H' u; simp [*]; refine ⟨_, _, ⟨rfl, rfl⟩, ?_, ?_⟩; (focus (simp; done)); (focus (first | exact Snap.flat (by simp) | exact Snap.ref_flat (by simp) rfl rfl rfl (by simp) (by simp) | exact Snap.slice_flat (by simp) rfl (by simp; rfl) (by simp) (by simp) | exact Snap.slice_flat (by simp) (by simp; exact ⟨rfl, rfl, rfl⟩) (by simp; rfl) (by simp) (by simp))))); (focus (simp only [List.nil_append, List.cons_append]; rfl)))
    | (apply a_mem; (focus (simp; rfl)); (focus (intro u; first | rfl | (apply g_in; rfl; rfl; (focus (simp [*]; done))))); (focus (intro u; rfl)); (focus (intro u; simp [*]; exact ⟨rfl, rfl⟩)); (focus (first | rfl | kernel_rfl)); (focus (simp only [List.nil_append, List.cons_append]; rfl)); (focus (simp; rfl))))
theorem run_ok (s : List UInt8) (g : FuncId) (p : UInt8 → Bool) (hn : s.length < 1000000000000) (hp : ∀ c : UInt8, Ans (L m) g [.int .u8 c.toNat] (.bool (p c))) :
    Ans (L m) 20 [.str s, .func (.func g) [] []] (.int .i64 (runL p s)) := by
  refine fn_of_body L_ok (fn := Try.f20) rfl rfl rfl rfl (by kernel_rfl) ?_
  repeat' (first
    | apply w_seq
    | apply w_region
    | apply o_end
    | apply t_normal
    | (apply o_add; (focus (first | rfl | (apply g_in; rfl; rfl; (focus (simp [*]; done))))); (focus (simp [*]; rfl)); rfl; (focus (simp [*]; rfl)); rfl; (focus (apply wrap_i64 <;> omega)))
    | (apply o_sub; (focus (first | rfl | (apply g_in; rfl; rfl; (focus (simp [*]; done))))); (focus (simp [*]; rfl)); rfl; (focus (simp [*]; rfl)); rfl; (focus (apply wrap_i64 <;> omega)))
    | (apply o_mpick; (focus (first | (apply g_none; rfl) | (apply g_sym; rfl; rfl; (focus (simp [*]; rfl)); (focus (simp only [gOf_bool, gOf_cond, gOf_cond', gOf_un, beq_true, beq_false, Bool.and_true]; rfl))))); (focus (intro hb; (try simp only [Bool.not_or, Bool.not_and, Bool.not_not, Bool.and_eq_true, Bool.not_eq_true', Bool.not_eq_false', Bool.not_eq_true, Bool.not_eq_false] at hb); simp [*]; rfl)); rfl; (focus (intro hb hp; (try simp only [Bool.not_or, Bool.not_and, Bool.not_not, Bool.and_eq_true, Bool.not_eq_true', Bool.not_eq_false', Bool.not_eq_true, Bool.not_eq_false] at hb); (try simp only [Bool.not_or, Bool.not_and, Bool.not_not, Bool.and_eq_true, Bool.not_eq_true', Bool.not_eq_false', Bool.not_eq_true, Bool.not_eq_false] at hp); simp [*]; rfl)); rfl; (focus (intro hb hp; (try simp only [Bool.not_or, Bool.not_and, Bool.not_not, Bool.and_eq_true, Bool.not_eq_true', Bool.not_eq_false', Bool.not_eq_true, Bool.not_eq_false] at hb); (try simp only [Bool.not_or, Bool.not_and, Bool.not_not, Bool.and_eq_true, Bool.not_eq_true', Bool.not_eq_false', Bool.not_eq_true, Bool.not_eq_false] at hp); simp [*]; rfl)); rfl)
    | (apply o_val; (focus (first | rfl | (apply g_in; rfl; rfl; (focus (simp [*]; done))))); (focus (simp [*]; rfl)))
    | (apply o_fuse; (focus (first | rfl | (apply g_in; rfl; rfl; (focus (simp [*]; done))))); rfl; (focus (simp [*]; first | rfl | exact ⟨rfl, rfl⟩)); (focus (first | rfl | (apply g_in; rfl; rfl; (focus (simp [*]; done))))); rfl; (focus (simp [*]; first | rfl | exact ⟨rfl, rfl⟩ | exact ⟨rfl, rfl, rfl⟩)); (focus (intro d hd; apply Under.flat; revert hd; revert d; simp; done)))
    | (apply o_mem; (focus (first | rfl | (apply g_in; rfl; rfl; (focus (simp [*]; done))))); rfl; (focus (simp [*]; exact ⟨rfl, rfl⟩)))
    | apply w_skip
    | apply w_block
    | apply b_normal
    | apply w_ret
    | apply t_ret
    | apply b_ret
    | apply w_exit
    | apply t_exit
    | apply b_here
    | (apply b_on; (focus decide))
    | (apply w_true; (focus (simp [*]; done)))
    | (apply w_false; (focus (simp [*]; done)))
    | ((apply w_cond; (focus (simp [*]; rfl)); rfl) <;> (intro hc; have hc' := hc; try simp at hc'))
    | (apply o_no; (focus (first | (apply g_out; rfl; rfl; (focus (simp [*]; done))) | (apply g_un; rfl; rfl; (focus (simp [*]; done))))))
    | (apply o_maybe; (focus (first | (apply g_none; rfl) | (apply g_sym; rfl; rfl; (focus (simp [*]; rfl)); (focus (simp only [gOf_bool, gOf_cond, gOf_cond', gOf_un, beq_true, beq_false, Bool.and_true]; rfl))))); (focus (intro hb; (try simp only [Bool.not_or, Bool.not_and, Bool.not_not, Bool.and_eq_true, Bool.not_eq_true', Bool.not_eq_false', Bool.not_eq_true, Bool.not_eq_false] at hb); simp [*]; rfl)))
    | ((apply o_if; rfl; rfl; (focus (simp [*]; rfl)); rfl) <;> (intro hg; (fail_if_success (guard_hyp hg : true = true)); (fail_if_success (guard_hyp hg : false = false)); have hg' := hg; try simp at hg'))
    | (apply w_drawA; rfl; (focus kernel_rfl); (focus (simp; rfl)); (focus (simp; rfl)))
    | (apply a_end; (focus (simp; rfl)))
    | (apply a_val; (focus (simp; rfl)); (focus (intro u; first | rfl | (apply g_in; rfl; rfl; (focus (simp [*]; done))))); (focus (intro H' u; simp [*]; rfl)); (focus (simp only [List.nil_append, List.cons_append]; rfl)))
    | (apply a_tie; (focus (simp; rfl)); (focus (intro u; first | rfl | (apply g_in; rfl; rfl; (focus (simp [*]; done))))); (focus (intro u; simp [*]; rfl)); (focus (first | rfl | kernel_rfl)); (focus (simp only [List.nil_append, List.cons_append]; rfl)); (focus (simp; rfl)))
    | (apply a_no; (focus (simp; rfl)); (focus (intro u; first | (apply g_out; rfl; rfl; (focus (simp [*]; done))) | (apply g_un; rfl; rfl; (focus (simp [*]; done))))); (focus (simp only [List.nil_append, List.cons_append]; rfl)))
    | ((apply a_if; (focus (simp; rfl)); rfl; rfl; (focus (intro u; simp [*]; rfl)); rfl) <;> (intro hg; (fail_if_success (guard_hyp hg : true = true)); (fail_if_success (guard_hyp hg : false = false)); have hg' := hg; try simp at hg'))
    | (apply a_frz; (focus (simp; rfl)); (focus (intro u; first | rfl | (apply g_in; rfl; rfl; (focus (simp [*]; done))))); (focus (intro u; rfl)); (focus (intro H' u; simp [*]; refine ⟨_, _, ⟨rfl, rfl⟩, ?_, ?_⟩; (focus (simp; done)); (focus (first | exact Snap.flat (by simp) | exact Snap.ref_flat (by simp) rfl rfl rfl (by simp) (by simp) | exact Snap.slice_flat (by simp) rfl (by simp; rfl) (by simp) (by simp) | exact Snap.slice_flat (by simp) (by simp; exact ⟨rfl, rfl, rfl⟩) (by simp; rfl) (by simp) (by simp))))); (focus (simp only [List.nil_append, List.cons_append]; rfl)))
    | (apply a_mem; (focus (simp; rfl)); (focus (intro u; first | rfl | (apply g_in; rfl; rfl; (focus (simp [*]; done))))); (focus (intro u; rfl)); (focus (intro u; simp [*]; exact ⟨rfl, rfl⟩)); (focus (first | rfl | kernel_rfl)); (focus (simp only [List.nil_append, List.cons_append]; rfl)); (focus (simp; rfl))))
  refine w_loop (fun n f H => ∃ (i : Nat), i ≤ s.length ∧ n = s.length - i ∧ H = [] ∧ (∀ j (hj : j < s.length), j < i → p (s[j]'hj) = true) ∧ f 0 = .str s ∧ f 1 = .func (.func g) [] [] ∧ f 5 = .int .i64 i) s.length ⟨0, by simp⟩ ?_
  rintro n f H ⟨i, hi, rfl, rfl, hq, h0, h1, h5⟩
  by_cases hlt : i < s.length
  · have hpi := hp (s[i]'hlt)
    have hgd : s.getD i 0 = s[i]'hlt := by simp [List.getD_eq_getElem?_getD, hlt]
    clear hp
    cases hpc : p (s[i]'hlt)
    · rw [hpc] at hpi
      have hr : runL p s = i := runL_here p s i hi hq (fun _ => hpc)
      repeat' (first
        | apply w_seq
        | apply w_region
        | apply o_end
        | apply t_normal
        | (apply o_add; (focus (first | rfl | (apply g_in; rfl; rfl; (focus (simp [*]; done))))); (focus (simp [*]; rfl)); rfl; (focus (simp [*]; rfl)); rfl; (focus (apply wrap_i64 <;> omega)))
        | (apply o_sub; (focus (first | rfl | (apply g_in; rfl; rfl; (focus (simp [*]; done))))); (focus (simp [*]; rfl)); rfl; (focus (simp [*]; rfl)); rfl; (focus (apply wrap_i64 <;> omega)))
        | (apply o_val; (focus (first | rfl | (apply g_in; rfl; rfl; (focus (simp [*]; done))))); (focus (simp [*]; rfl)))
        | (apply o_fuse; (focus (first | rfl | (apply g_in; rfl; rfl; (focus (simp [*]; done))))); rfl; (focus (simp [*]; first | rfl | exact ⟨rfl, rfl⟩)); (focus (first | rfl | (apply g_in; rfl; rfl; (focus (simp [*]; done))))); rfl; (focus (simp [*]; first | rfl | exact ⟨rfl, rfl⟩ | exact ⟨rfl, rfl, rfl⟩)); (focus (intro d hd; apply Under.flat; revert hd; revert d; simp; done)))
        | (apply o_fn fine; (focus (first | rfl | (apply g_in; rfl; rfl; (focus (simp [*]; done))))); (focus (simp [*]; exact ⟨rfl, rfl⟩)); (focus (exact hpi)); (focus (simp [*]; done)))
        | (apply o_mem; (focus (first | rfl | (apply g_in; rfl; rfl; (focus (simp [*]; done))))); rfl; (focus (simp [*]; exact ⟨rfl, rfl⟩)))
        | apply w_skip
        | apply w_block
        | apply b_normal
        | apply w_ret
        | apply t_ret
        | apply b_ret
        | apply w_exit
        | apply t_exit
        | apply b_here
        | (apply b_on; (focus decide))
        | (apply w_true; (focus (simp [*]; done)))
        | (apply w_false; (focus (simp [*]; done)))
        | ((apply w_cond; (focus (simp [*]; rfl)); rfl) <;> (intro hc; have hc' := hc; try simp at hc'))
        | (apply o_no; (focus (first | (apply g_out; rfl; rfl; (focus (simp [*]; done))) | (apply g_un; rfl; rfl; (focus (simp [*]; done))))))
        | ((apply o_if; rfl; rfl; (focus (simp [*]; rfl)); rfl) <;> (intro hg; (fail_if_success (guard_hyp hg : true = true)); (fail_if_success (guard_hyp hg : false = false)); have hg' := hg; try simp at hg'))
        | (apply w_drawA; rfl; (focus kernel_rfl); (focus (simp; rfl)); (focus (simp; rfl)))
        | (apply a_end; (focus (simp; rfl)))
        | (apply a_val; (focus (simp; rfl)); (focus (intro u; first | rfl | (apply g_in; rfl; rfl; (focus (simp [*]; done))))); (focus (intro H' u; simp [*]; rfl)); (focus (simp only [List.nil_append, List.cons_append]; rfl)))
        | (apply a_fn fine; (focus (simp; rfl)); (focus (intro u; first | rfl | (apply g_in; rfl; rfl; (focus (simp [*]; done))))); (focus (intro u; simp [*]; exact ⟨rfl, rfl⟩)); (focus (exact hpi)); (focus (simp [*]; done)); (focus (simp only [List.nil_append, List.cons_append]; rfl)))
        | (apply a_tie; (focus (simp; rfl)); (focus (intro u; first | rfl | (apply g_in; rfl; rfl; (focus (simp [*]; done))))); (focus (intro u; simp [*]; rfl)); (focus (first | rfl | kernel_rfl)); (focus (simp only [List.nil_append, List.cons_append]; rfl)); (focus (simp; rfl)))
        | (apply a_no; (focus (simp; rfl)); (focus (intro u; first | (apply g_out; rfl; rfl; (focus (simp [*]; done))) | (apply g_un; rfl; rfl; (focus (simp [*]; done))))); (focus (simp only [List.nil_append, List.cons_append]; rfl)))
        | ((apply a_if; (focus (simp; rfl)); rfl; rfl; (focus (intro u; simp [*]; rfl)); rfl) <;> (intro hg; (fail_if_success (guard_hyp hg : true = true)); (fail_if_success (guard_hyp hg : false = false)); have hg' := hg; try simp at hg'))
        | (apply a_frz; (focus (simp; rfl)); (focus (intro u; first | rfl | (apply g_in; rfl; rfl; (focus (simp [*]; done))))); (focus (intro u; rfl)); (focus (intro H' u; simp [*]; refine ⟨_, _, ⟨rfl, rfl⟩, ?_, ?_⟩; (focus (simp; done)); (focus (first | exact Snap.flat (by simp) | exact Snap.ref_flat (by simp) rfl rfl rfl (by simp) (by simp) | exact Snap.slice_flat (by simp) rfl (by simp; rfl) (by simp) (by simp) | exact Snap.slice_flat (by simp) (by simp; exact ⟨rfl, rfl, rfl⟩) (by simp; rfl) (by simp) (by simp))))); (focus (simp only [List.nil_append, List.cons_append]; rfl)))
        | (apply a_mem; (focus (simp; rfl)); (focus (intro u; first | rfl | (apply g_in; rfl; rfl; (focus (simp [*]; done))))); (focus (intro u; rfl)); (focus (intro u; simp [*]; exact ⟨rfl, rfl⟩)); (focus (first | rfl | kernel_rfl)); (focus (simp only [List.nil_append, List.cons_append]; rfl)); (focus (simp; rfl))))
      · apply f_retf
        · simp [*]; rfl
        · simp
        · rw [hr]
    · rw [hpc] at hpi
      have hq' : ∀ j (hj : j < s.length), j < i + 1 → p (s[j]'hj) = true := fun j hj hlt' => by
        rcases Nat.lt_or_ge j i with h | h
        · exact hq j hj h
        · obtain rfl : j = i := by omega
          exact hpc
      clear hq
      repeat' (first
        | apply w_seq
        | apply w_region
        | apply o_end
        | apply t_normal
        | (apply o_add; (focus (first | rfl | (apply g_in; rfl; rfl; (focus (simp [*]; done))))); (focus (simp [*]; rfl)); rfl; (focus (simp [*]; rfl)); rfl; (focus (apply wrap_i64 <;> omega)))
        | (apply o_sub; (focus (first | rfl | (apply g_in; rfl; rfl; (focus (simp [*]; done))))); (focus (simp [*]; rfl)); rfl; (focus (simp [*]; rfl)); rfl; (focus (apply wrap_i64 <;> omega)))
        | (apply o_val; (focus (first | rfl | (apply g_in; rfl; rfl; (focus (simp [*]; done))))); (focus (simp [*]; rfl)))
        | (apply o_fuse; (focus (first | rfl | (apply g_in; rfl; rfl; (focus (simp [*]; done))))); rfl; (focus (simp [*]; first | rfl | exact ⟨rfl, rfl⟩)); (focus (first | rfl | (apply g_in; rfl; rfl; (focus (simp [*]; done))))); rfl; (focus (simp [*]; first | rfl | exact ⟨rfl, rfl⟩ | exact ⟨rfl, rfl, rfl⟩)); (focus (intro d hd; apply Under.flat; revert hd; revert d; simp; done)))
        | (apply o_fn fine; (focus (first | rfl | (apply g_in; rfl; rfl; (focus (simp [*]; done))))); (focus (simp [*]; exact ⟨rfl, rfl⟩)); (focus (exact hpi)); (focus (simp [*]; done)))
        | (apply o_mem; (focus (first | rfl | (apply g_in; rfl; rfl; (focus (simp [*]; done))))); rfl; (focus (simp [*]; exact ⟨rfl, rfl⟩)))
        | apply w_skip
        | apply w_block
        | apply b_normal
        | apply w_ret
        | apply t_ret
        | apply b_ret
        | apply w_exit
        | apply t_exit
        | apply b_here
        | (apply b_on; (focus decide))
        | (apply w_true; (focus (simp [*]; done)))
        | (apply w_false; (focus (simp [*]; done)))
        | ((apply w_cond; (focus (simp [*]; rfl)); rfl) <;> (intro hc; have hc' := hc; try simp at hc'))
        | (apply o_no; (focus (first | (apply g_out; rfl; rfl; (focus (simp [*]; done))) | (apply g_un; rfl; rfl; (focus (simp [*]; done))))))
        | ((apply o_if; rfl; rfl; (focus (simp [*]; rfl)); rfl) <;> (intro hg; (fail_if_success (guard_hyp hg : true = true)); (fail_if_success (guard_hyp hg : false = false)); have hg' := hg; try simp at hg'))
        | (apply w_drawA; rfl; (focus kernel_rfl); (focus (simp; rfl)); (focus (simp; rfl)))
        | (apply a_end; (focus (simp; rfl)))
        | (apply a_val; (focus (simp; rfl)); (focus (intro u; first | rfl | (apply g_in; rfl; rfl; (focus (simp [*]; done))))); (focus (intro H' u; simp [*]; rfl)); (focus (simp only [List.nil_append, List.cons_append]; rfl)))
        | (apply a_fn fine; (focus (simp; rfl)); (focus (intro u; first | rfl | (apply g_in; rfl; rfl; (focus (simp [*]; done))))); (focus (intro u; simp [*]; exact ⟨rfl, rfl⟩)); (focus (exact hpi)); (focus (simp [*]; done)); (focus (simp only [List.nil_append, List.cons_append]; rfl)))
        | (apply a_tie; (focus (simp; rfl)); (focus (intro u; first | rfl | (apply g_in; rfl; rfl; (focus (simp [*]; done))))); (focus (intro u; simp [*]; rfl)); (focus (first | rfl | kernel_rfl)); (focus (simp only [List.nil_append, List.cons_append]; rfl)); (focus (simp; rfl)))
        | (apply a_no; (focus (simp; rfl)); (focus (intro u; first | (apply g_out; rfl; rfl; (focus (simp [*]; done))) | (apply g_un; rfl; rfl; (focus (simp [*]; done))))); (focus (simp only [List.nil_append, List.cons_append]; rfl)))
        | ((apply a_if; (focus (simp; rfl)); rfl; rfl; (focus (intro u; simp [*]; rfl)); rfl) <;> (intro hg; (fail_if_success (guard_hyp hg : true = true)); (fail_if_success (guard_hyp hg : false = false)); have hg' := hg; try simp at hg'))
        | (apply a_frz; (focus (simp; rfl)); (focus (intro u; first | rfl | (apply g_in; rfl; rfl; (focus (simp [*]; done))))); (focus (intro u; rfl)); (focus (intro H' u; simp [*]; refine ⟨_, _, ⟨rfl, rfl⟩, ?_, ?_⟩; (focus (simp; done)); (focus (first | exact Snap.flat (by simp) | exact Snap.ref_flat (by simp) rfl rfl rfl (by simp) (by simp) | exact Snap.slice_flat (by simp) rfl (by simp; rfl) (by simp) (by simp) | exact Snap.slice_flat (by simp) (by simp; exact ⟨rfl, rfl, rfl⟩) (by simp; rfl) (by simp) (by simp))))); (focus (simp only [List.nil_append, List.cons_append]; rfl)))
        | (apply a_mem; (focus (simp; rfl)); (focus (intro u; first | rfl | (apply g_in; rfl; rfl; (focus (simp [*]; done))))); (focus (intro u; rfl)); (focus (intro u; simp [*]; exact ⟨rfl, rfl⟩)); (focus (first | rfl | kernel_rfl)); (focus (simp only [List.nil_append, List.cons_append]; rfl)); (focus (simp; rfl))))
      exact ⟨s.length - (i + 1), by omega, i + 1, by omega, rfl, rfl, hq', by simp [*]⟩
  · have hr : runL p s = i := runL_here p s i hi hq (fun h => absurd h hlt)
    clear hp hq
    repeat' (first
      | apply w_seq
      | apply w_region
      | apply o_end
      | apply t_normal
      | (apply o_add; (focus (first | rfl | (apply g_in; rfl; rfl; (focus (simp [*]; done))))); (focus (simp [*]; rfl)); rfl; (focus (simp [*]; rfl)); rfl; (focus (apply wrap_i64 <;> omega)))
      | (apply o_sub; (focus (first | rfl | (apply g_in; rfl; rfl; (focus (simp [*]; done))))); (focus (simp [*]; rfl)); rfl; (focus (simp [*]; rfl)); rfl; (focus (apply wrap_i64 <;> omega)))
      | (apply o_val; (focus (first | rfl | (apply g_in; rfl; rfl; (focus (simp [*]; done))))); (focus (simp [*]; rfl)))
      | (apply o_fuse; (focus (first | rfl | (apply g_in; rfl; rfl; (focus (simp [*]; done))))); rfl; (focus (simp [*]; first | rfl | exact ⟨rfl, rfl⟩)); (focus (first | rfl | (apply g_in; rfl; rfl; (focus (simp [*]; done))))); rfl; (focus (simp [*]; first | rfl | exact ⟨rfl, rfl⟩ | exact ⟨rfl, rfl, rfl⟩)); (focus (intro d hd; apply Under.flat; revert hd; revert d; simp; done)))
      | (apply o_mem; (focus (first | rfl | (apply g_in; rfl; rfl; (focus (simp [*]; done))))); rfl; (focus (simp [*]; exact ⟨rfl, rfl⟩)))
      | apply w_skip
      | apply w_block
      | apply b_normal
      | apply w_ret
      | apply t_ret
      | apply b_ret
      | apply w_exit
      | apply t_exit
      | apply b_here
      | (apply b_on; (focus decide))
      | (apply w_true; (focus (simp [*]; done)))
      | (apply w_false; (focus (simp [*]; done)))
      | ((apply w_cond; (focus (simp [*]; rfl)); rfl) <;> (intro hc; have hc' := hc; try simp at hc'))
      | (apply o_no; (focus (first | (apply g_out; rfl; rfl; (focus (simp [*]; done))) | (apply g_un; rfl; rfl; (focus (simp [*]; done))))))
      | ((apply o_if; rfl; rfl; (focus (simp [*]; rfl)); rfl) <;> (intro hg; (fail_if_success (guard_hyp hg : true = true)); (fail_if_success (guard_hyp hg : false = false)); have hg' := hg; try simp at hg'))
      | (apply w_drawA; rfl; (focus kernel_rfl); (focus (simp; rfl)); (focus (simp; rfl)))
      | (apply a_end; (focus (simp; rfl)))
      | (apply a_val; (focus (simp; rfl)); (focus (intro u; first | rfl | (apply g_in; rfl; rfl; (focus (simp [*]; done))))); (focus (intro H' u; simp [*]; rfl)); (focus (simp only [List.nil_append, List.cons_append]; rfl)))
      | (apply a_tie; (focus (simp; rfl)); (focus (intro u; first | rfl | (apply g_in; rfl; rfl; (focus (simp [*]; done))))); (focus (intro u; simp [*]; rfl)); (focus (first | rfl | kernel_rfl)); (focus (simp only [List.nil_append, List.cons_append]; rfl)); (focus (simp; rfl)))
      | (apply a_no; (focus (simp; rfl)); (focus (intro u; first | (apply g_out; rfl; rfl; (focus (simp [*]; done))) | (apply g_un; rfl; rfl; (focus (simp [*]; done))))); (focus (simp only [List.nil_append, List.cons_append]; rfl)))
      | ((apply a_if; (focus (simp; rfl)); rfl; rfl; (focus (intro u; simp [*]; rfl)); rfl) <;> (intro hg; (fail_if_success (guard_hyp hg : true = true)); (fail_if_success (guard_hyp hg : false = false)); have hg' := hg; try simp at hg'))
      | (apply a_frz; (focus (simp; rfl)); (focus (intro u; first | rfl | (apply g_in; rfl; rfl; (focus (simp [*]; done))))); (focus (intro u; rfl)); (focus (intro H' u; simp [*]; refine ⟨_, _, ⟨rfl, rfl⟩, ?_, ?_⟩; (focus (simp; done)); (focus (first | exact Snap.flat (by simp) | exact Snap.ref_flat (by simp) rfl rfl rfl (by simp) (by simp) | exact Snap.slice_flat (by simp) rfl (by simp; rfl) (by simp) (by simp) | exact Snap.slice_flat (by simp) (by simp; exact ⟨rfl, rfl, rfl⟩) (by simp; rfl) (by simp) (by simp))))); (focus (simp only [List.nil_append, List.cons_append]; rfl)))
      | (apply a_mem; (focus (simp; rfl)); (focus (intro u; first | rfl | (apply g_in; rfl; rfl; (focus (simp [*]; done))))); (focus (intro u; rfl)); (focus (intro u; simp [*]; exact ⟨rfl, rfl⟩)); (focus (first | rfl | kernel_rfl)); (focus (simp only [List.nil_append, List.cons_append]; rfl)); (focus (simp; rfl))))
    · apply f_retf
      · simp [*]; rfl
      · simp
      · rw [hr]
end Go.Proofs.Ytkeanadlfkfglaa.Vm
