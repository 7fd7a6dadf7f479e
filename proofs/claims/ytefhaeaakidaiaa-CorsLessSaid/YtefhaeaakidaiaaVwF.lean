/- Walks: more laws of cors. -/
import Derived.Test.YtefhaeaakidaiaaVwE
set_option linter.unusedSimpArgs false
set_option maxRecDepth 100000
set_option maxHeartbeats 4000000
namespace Go.Proofs.Ytefhaeaakidaiaa.Vm
open Go
attribute [local irreducible] wpD opsD thenD blockD planD
attribute [local simp] List.take_of_length_le List.drop_of_length_le

theorem lets_less {e : Ep} {b : Int} (h : lets e b true = true) : lets e b false = true := by
  simp only [lets, Bool.or_eq_true, Bool.and_eq_true, Bool.not_true, Bool.not_false, Bool.false_or, Bool.true_or] at *
  rcases h with (h | h) | h
  · exact .inl (.inl h)
  · exact .inl (.inr ⟨h.1, trivial⟩)
  · exact absurd h.2 (by simp)
theorem may_less {e : Ep} {b : Int} {h : Bool} (hm : may e b true h = true) : may e b false h = true := by
  simp only [may, Bool.or_eq_true, Bool.and_eq_true] at *
  rcases hm with hm | ⟨⟨h1, h2⟩, h3⟩
  · exact .inl hm
  · exact .inr ⟨⟨lets_less h1, h2⟩, h3⟩
theorem may_heads {e : Ep} {b : Int} {c : Bool} (hm : may e b c true = true) : may e b c false = true := by
  simp only [may, Bool.or_eq_true, Bool.and_eq_true, ahead, asked, isSimple, Bool.not_eq_true', Bool.and_eq_false_iff, Bool.not_eq_false'] at *
  rcases hm with (hm | hm) | ⟨⟨h1, h2⟩, h3⟩
  · exact .inl (.inl hm)
  · exact .inl (.inr ⟨by simp, hm.2⟩)
  · exact .inr ⟨⟨h1, h2⟩, by simp⟩
theorem lets_own (e : Ep) (c : Bool) : lets e e.origin c = true := by simp [lets]
theorem ahead_own (e : Ep) (h : Bool) : ahead e e.origin h = false := by simp [ahead]
theorem may_own (e : Ep) (c h : Bool) : may e e.origin c h = true := by simp [may, ahead_own]
theorem lets_opaque {e : Ep} (h : (e.origin == -3) = false) : lets e (-3) false = e.any ∧ lets e (-3) true = false := by
  have h' : ((-3 : Int) == e.origin) = false := by
    simp only [beq_eq_false_iff_ne, ne_eq] at *
    omega
  simp [lets, h']
theorem CorsLess_ok (e : Ep) (b : Int) : Ans L 7 [epD e, .int .i64 b] (.bool true) := by
  refine fn_of_body L_ok (fn := Try.f7) rfl rfl rfl rfl (by kernel_rfl) ?_
  repeat' (first
    | apply w_seq
    | apply w_region
    | apply o_end
    | apply t_normal
    | (apply o_add; (focus (first | rfl | (apply g_in; rfl; rfl; (focus (simp [*]; done))))); (focus (simp [*]; rfl)); rfl; (focus (simp [*]; rfl)); rfl; (focus (apply wrap_i64 <;> omega)))
    | (apply o_sub; (focus (first | rfl | (apply g_in; rfl; rfl; (focus (simp [*]; done))))); (focus (simp [*]; rfl)); rfl; (focus (simp [*]; rfl)); rfl; (focus (apply wrap_i64 <;> omega)))
    | (apply o_val; (focus (first | rfl | (apply g_in; rfl; rfl; (focus (simp [*]; done))))); (focus (simp [*]; rfl)))
    | (apply o_var; (focus (first | rfl | (apply g_in; rfl; rfl; (focus (simp [*]; done))))); (focus (simp [*]; exact ⟨rfl, rfl⟩)); (focus (simp; done)); (focus (first | exact Snap.flat (by simp) | exact Snap.ref_flat (by simp) rfl rfl rfl (by simp) (by simp) | exact Snap.slice_flat (by simp) rfl (by simp; rfl) (by simp) (by simp) | exact Snap.slice_flat (by simp) (by simp; exact ⟨rfl, rfl, rfl⟩) (by simp; rfl) (by simp) (by simp))))
    | (apply o_fn fine; (focus (first | rfl | (apply g_in; rfl; rfl; (focus (simp [*]; done))))); (focus (simp [*]; exact ⟨rfl, rfl⟩)); (focus (exact great_ok e)); (focus (simp [*]; done)))
    | (apply o_fn fine; (focus (first | rfl | (apply g_in; rfl; rfl; (focus (simp [*]; done))))); (focus (simp [*]; exact ⟨rfl, rfl⟩)); (focus (exact awake5_ok)); (focus (simp [*]; done)))
    | (apply f_retf; (focus (simp [*]; rfl)); (focus (simp; done)); (focus (simp [*]; done)))
    | (apply o_mem; (focus (first | rfl | (apply g_in; rfl; rfl; (focus (simp [*]; done))))); rfl; (focus (simp [*]; exact ⟨rfl, rfl⟩)))
    | apply w_skip
    | apply w_block
    | apply b_normal
    | apply w_ret
    | apply t_ret
    | apply b_ret
    | apply w_exit
    | apply t_exit
    | apply b_here
    | (apply b_on; (focus decide))
    | (apply w_true; (focus (simp [*]; done)))
    | (apply w_false; (focus (simp [*]; done)))
    | ((apply w_cond; (focus (simp [*]; rfl)); rfl) <;> (intro hc; have hc' := hc; try simp at hc'))
    | (apply o_no; (focus (first | (apply g_out; rfl; rfl; (focus (simp [*]; done))) | (apply g_un; rfl; rfl; (focus (simp [*]; done))))))
    | ((apply o_if; rfl; rfl; (focus (simp [*]; rfl)); rfl) <;> (intro hg; (fail_if_success (guard_hyp hg : true = true)); (fail_if_success (guard_hyp hg : false = false)); have hg' := hg; try simp at hg'))
    | (apply w_draw; rfl; (focus kernel_rfl); (focus (simp; rfl)); (focus (simp; rfl)))
    | (apply p_end; (focus (simp; rfl)))
    | (apply p_val; (focus (simp; rfl)); (focus (intro u; first | rfl | (apply g_in; rfl; rfl; (focus (simp [*]; done))))); (focus (intro u; simp [*]; rfl)); (focus (simp only [List.nil_append, List.cons_append]; rfl)))
    | (apply p_fn fine; (focus (simp; rfl)); (focus (intro u; first | rfl | (apply g_in; rfl; rfl; (focus (simp [*]; done))))); (focus (intro u; simp [*]; exact ⟨rfl, rfl⟩)); (focus (exact great_ok e)); (focus (simp [*]; done)); (focus (simp only [List.nil_append, List.cons_append]; rfl)))
    | (apply p_fn fine; (focus (simp; rfl)); (focus (intro u; first | rfl | (apply g_in; rfl; rfl; (focus (simp [*]; done))))); (focus (intro u; simp [*]; exact ⟨rfl, rfl⟩)); (focus (exact awake5_ok)); (focus (simp [*]; done)); (focus (simp only [List.nil_append, List.cons_append]; rfl)))
    | (apply p_no; (focus (simp; rfl)); (focus (intro u; first | (apply g_out; rfl; rfl; (focus (simp [*]; done))) | (apply g_un; rfl; rfl; (focus (simp [*]; done))))); (focus (simp only [List.nil_append, List.cons_append]; rfl)))
    | ((apply p_if; (focus (simp; rfl)); rfl; rfl; (focus (intro u; simp [*]; rfl)); rfl) <;> (intro hg; (fail_if_success (guard_hyp hg : true = true)); (fail_if_success (guard_hyp hg : false = false)); have hg' := hg; try simp at hg'))
    | (apply p_frz; (focus (simp; rfl)); (focus (intro u; first | rfl | (apply g_in; rfl; rfl; (focus (simp [*]; done))))); (focus (intro u; rfl)); (focus (intro u; simp [*]; exact ⟨rfl, rfl⟩)); (focus (simp; done)); (focus (first | exact Snap.flat (by simp) | exact Snap.ref_flat (by simp) rfl rfl rfl (by simp) (by simp) | exact Snap.slice_flat (by simp) rfl (by simp; rfl) (by simp) (by simp) | exact Snap.slice_flat (by simp) (by simp; exact ⟨rfl, rfl, rfl⟩) (by simp; rfl) (by simp) (by simp))); (focus (simp only [List.nil_append, List.cons_append]; rfl))))
  have ok := Ep.ok_of (by assumption)
  have hc5 := ok.cors
  have l1 := @lets_less e b
  have l2 := @may_less e b true
  have l3 := @may_less e b false
  have l4 := @may_heads e b true
  have l5 := @may_heads e b false
  have o1 := lets_own e true
  have o2 := lets_own e false
  have o3 := ahead_own e true
  have o4 := ahead_own e false
  have o5 := may_own e true true
  have o6 := may_own e true false
  refine w_loop (fun n f H => ∃ (k : Nat), k ≤ 2 ∧ n = 2 - k ∧ H = [] ∧ f 1 = .int .i64 b ∧ f 2 = .box (epC e) ∧ f 5 = .int .i64 k) 2 ⟨0, by simp⟩ ?_
  rintro n f H ⟨k, hk, rfl, rfl, h1, h2, h5⟩
  obtain rfl | rfl | rfl : k = 0 ∨ k = 1 ∨ k = 2 := by omega
  · skip
    repeat' (first
      | apply w_seq
      | apply w_region
      | apply o_end
      | apply t_normal
      | (apply o_add; (focus (first | rfl | (apply g_in; rfl; rfl; (focus (simp [*]; done))))); (focus (simp [*]; rfl)); rfl; (focus (simp [*]; rfl)); rfl; (focus (apply wrap_i64 <;> omega)))
      | (apply o_sub; (focus (first | rfl | (apply g_in; rfl; rfl; (focus (simp [*]; done))))); (focus (simp [*]; rfl)); rfl; (focus (simp [*]; rfl)); rfl; (focus (apply wrap_i64 <;> omega)))
      | (apply o_val; (focus (first | rfl | (apply g_in; rfl; rfl; (focus (simp [*]; done))))); (focus (simp [*]; rfl)))
      | (apply o_fn fine; (focus (first | rfl | (apply g_in; rfl; rfl; (focus (simp [*]; done))))); (focus (simp [*]; exact ⟨rfl, rfl⟩)); (focus (exact Lets_ok e _ _ hc5)); (focus (simp [*]; done)))
      | (apply o_fn fine; (focus (first | rfl | (apply g_in; rfl; rfl; (focus (simp [*]; done))))); (focus (simp [*]; exact ⟨rfl, rfl⟩)); (focus (exact May_ok e _ _ _ ok)); (focus (simp [*]; done)))
      | (apply o_fn fine; (focus (first | rfl | (apply g_in; rfl; rfl; (focus (simp [*]; done))))); (focus (simp [*]; exact ⟨rfl, rfl⟩)); (focus (exact Ahead_ok e _ _ _ ok)); (focus (simp [*]; done)))
      | (apply f_retf; (focus (simp [*]; rfl)); (focus (simp; done)); (focus (simp [*]; done)))
      | (apply o_mem; (focus (first | rfl | (apply g_in; rfl; rfl; (focus (simp [*]; done))))); rfl; (focus (simp [*]; exact ⟨rfl, rfl⟩)))
      | apply w_skip
      | apply w_block
      | apply b_normal
      | apply w_ret
      | apply t_ret
      | apply b_ret
      | apply w_exit
      | apply t_exit
      | apply b_here
      | (apply b_on; (focus decide))
      | (apply w_true; (focus (simp [*]; done)))
      | (apply w_false; (focus (simp [*]; done)))
      | ((apply w_cond; (focus (simp [*]; rfl)); rfl) <;> (intro hc; have hc' := hc; try simp at hc'))
      | (apply o_no; (focus (first | (apply g_out; rfl; rfl; (focus (simp [*]; done))) | (apply g_un; rfl; rfl; (focus (simp [*]; done))))))
      | ((apply o_if; rfl; rfl; (focus (simp [*]; rfl)); rfl) <;> (intro hg; (fail_if_success (guard_hyp hg : true = true)); (fail_if_success (guard_hyp hg : false = false)); have hg' := hg; try simp at hg'))
      | (apply w_draw; rfl; (focus kernel_rfl); (focus (simp; rfl)); (focus (simp; rfl)))
      | (apply p_end; (focus (simp; rfl)))
      | (apply p_val; (focus (simp; rfl)); (focus (intro u; first | rfl | (apply g_in; rfl; rfl; (focus (simp [*]; done))))); (focus (intro u; simp [*]; rfl)); (focus (simp only [List.nil_append, List.cons_append]; rfl)))
      | (apply p_fn fine; (focus (simp; rfl)); (focus (intro u; first | rfl | (apply g_in; rfl; rfl; (focus (simp [*]; done))))); (focus (intro u; simp [*]; exact ⟨rfl, rfl⟩)); (focus (exact Lets_ok e _ _ hc5)); (focus (simp [*]; done)); (focus (simp only [List.nil_append, List.cons_append]; rfl)))
      | (apply p_fn fine; (focus (simp; rfl)); (focus (intro u; first | rfl | (apply g_in; rfl; rfl; (focus (simp [*]; done))))); (focus (intro u; simp [*]; exact ⟨rfl, rfl⟩)); (focus (exact May_ok e _ _ _ ok)); (focus (simp [*]; done)); (focus (simp only [List.nil_append, List.cons_append]; rfl)))
      | (apply p_fn fine; (focus (simp; rfl)); (focus (intro u; first | rfl | (apply g_in; rfl; rfl; (focus (simp [*]; done))))); (focus (intro u; simp [*]; exact ⟨rfl, rfl⟩)); (focus (exact Ahead_ok e _ _ _ ok)); (focus (simp [*]; done)); (focus (simp only [List.nil_append, List.cons_append]; rfl)))
      | (apply p_no; (focus (simp; rfl)); (focus (intro u; first | (apply g_out; rfl; rfl; (focus (simp [*]; done))) | (apply g_un; rfl; rfl; (focus (simp [*]; done))))); (focus (simp only [List.nil_append, List.cons_append]; rfl)))
      | ((apply p_if; (focus (simp; rfl)); rfl; rfl; (focus (intro u; simp [*]; rfl)); rfl) <;> (intro hg; (fail_if_success (guard_hyp hg : true = true)); (fail_if_success (guard_hyp hg : false = false)); have hg' := hg; try simp at hg'))
      | (apply p_frz; (focus (simp; rfl)); (focus (intro u; first | rfl | (apply g_in; rfl; rfl; (focus (simp [*]; done))))); (focus (intro u; rfl)); (focus (intro u; simp [*]; exact ⟨rfl, rfl⟩)); (focus (simp; done)); (focus (first | exact Snap.flat (by simp) | exact Snap.ref_flat (by simp) rfl rfl rfl (by simp) (by simp) | exact Snap.slice_flat (by simp) rfl (by simp; rfl) (by simp) (by simp) | exact Snap.slice_flat (by simp) (by simp; exact ⟨rfl, rfl, rfl⟩) (by simp; rfl) (by simp) (by simp))); (focus (simp only [List.nil_append, List.cons_append]; rfl))))
    all_goals exact ⟨1, by omega, 1, by omega, rfl, rfl, by simp [*]⟩
  · skip
    repeat' (first
      | apply w_seq
      | apply w_region
      | apply o_end
      | apply t_normal
      | (apply o_add; (focus (first | rfl | (apply g_in; rfl; rfl; (focus (simp [*]; done))))); (focus (simp [*]; rfl)); rfl; (focus (simp [*]; rfl)); rfl; (focus (apply wrap_i64 <;> omega)))
      | (apply o_sub; (focus (first | rfl | (apply g_in; rfl; rfl; (focus (simp [*]; done))))); (focus (simp [*]; rfl)); rfl; (focus (simp [*]; rfl)); rfl; (focus (apply wrap_i64 <;> omega)))
      | (apply o_val; (focus (first | rfl | (apply g_in; rfl; rfl; (focus (simp [*]; done))))); (focus (simp [*]; rfl)))
      | (apply o_fn fine; (focus (first | rfl | (apply g_in; rfl; rfl; (focus (simp [*]; done))))); (focus (simp [*]; exact ⟨rfl, rfl⟩)); (focus (exact Lets_ok e _ _ hc5)); (focus (simp [*]; done)))
      | (apply o_fn fine; (focus (first | rfl | (apply g_in; rfl; rfl; (focus (simp [*]; done))))); (focus (simp [*]; exact ⟨rfl, rfl⟩)); (focus (exact May_ok e _ _ _ ok)); (focus (simp [*]; done)))
      | (apply o_fn fine; (focus (first | rfl | (apply g_in; rfl; rfl; (focus (simp [*]; done))))); (focus (simp [*]; exact ⟨rfl, rfl⟩)); (focus (exact Ahead_ok e _ _ _ ok)); (focus (simp [*]; done)))
      | (apply f_retf; (focus (simp [*]; rfl)); (focus (simp; done)); (focus (simp [*]; done)))
      | (apply o_mem; (focus (first | rfl | (apply g_in; rfl; rfl; (focus (simp [*]; done))))); rfl; (focus (simp [*]; exact ⟨rfl, rfl⟩)))
      | apply w_skip
      | apply w_block
      | apply b_normal
      | apply w_ret
      | apply t_ret
      | apply b_ret
      | apply w_exit
      | apply t_exit
      | apply b_here
      | (apply b_on; (focus decide))
      | (apply w_true; (focus (simp [*]; done)))
      | (apply w_false; (focus (simp [*]; done)))
      | ((apply w_cond; (focus (simp [*]; rfl)); rfl) <;> (intro hc; have hc' := hc; try simp at hc'))
      | (apply o_no; (focus (first | (apply g_out; rfl; rfl; (focus (simp [*]; done))) | (apply g_un; rfl; rfl; (focus (simp [*]; done))))))
      | ((apply o_if; rfl; rfl; (focus (simp [*]; rfl)); rfl) <;> (intro hg; (fail_if_success (guard_hyp hg : true = true)); (fail_if_success (guard_hyp hg : false = false)); have hg' := hg; try simp at hg'))
      | (apply w_draw; rfl; (focus kernel_rfl); (focus (simp; rfl)); (focus (simp; rfl)))
      | (apply p_end; (focus (simp; rfl)))
      | (apply p_val; (focus (simp; rfl)); (focus (intro u; first | rfl | (apply g_in; rfl; rfl; (focus (simp [*]; done))))); (focus (intro u; simp [*]; rfl)); (focus (simp only [List.nil_append, List.cons_append]; rfl)))
      | (apply p_fn fine; (focus (simp; rfl)); (focus (intro u; first | rfl | (apply g_in; rfl; rfl; (focus (simp [*]; done))))); (focus (intro u; simp [*]; exact ⟨rfl, rfl⟩)); (focus (exact Lets_ok e _ _ hc5)); (focus (simp [*]; done)); (focus (simp only [List.nil_append, List.cons_append]; rfl)))
      | (apply p_fn fine; (focus (simp; rfl)); (focus (intro u; first | rfl | (apply g_in; rfl; rfl; (focus (simp [*]; done))))); (focus (intro u; simp [*]; exact ⟨rfl, rfl⟩)); (focus (exact May_ok e _ _ _ ok)); (focus (simp [*]; done)); (focus (simp only [List.nil_append, List.cons_append]; rfl)))
      | (apply p_fn fine; (focus (simp; rfl)); (focus (intro u; first | rfl | (apply g_in; rfl; rfl; (focus (simp [*]; done))))); (focus (intro u; simp [*]; exact ⟨rfl, rfl⟩)); (focus (exact Ahead_ok e _ _ _ ok)); (focus (simp [*]; done)); (focus (simp only [List.nil_append, List.cons_append]; rfl)))
      | (apply p_no; (focus (simp; rfl)); (focus (intro u; first | (apply g_out; rfl; rfl; (focus (simp [*]; done))) | (apply g_un; rfl; rfl; (focus (simp [*]; done))))); (focus (simp only [List.nil_append, List.cons_append]; rfl)))
      | ((apply p_if; (focus (simp; rfl)); rfl; rfl; (focus (intro u; simp [*]; rfl)); rfl) <;> (intro hg; (fail_if_success (guard_hyp hg : true = true)); (fail_if_success (guard_hyp hg : false = false)); have hg' := hg; try simp at hg'))
      | (apply p_frz; (focus (simp; rfl)); (focus (intro u; first | rfl | (apply g_in; rfl; rfl; (focus (simp [*]; done))))); (focus (intro u; rfl)); (focus (intro u; simp [*]; exact ⟨rfl, rfl⟩)); (focus (simp; done)); (focus (first | exact Snap.flat (by simp) | exact Snap.ref_flat (by simp) rfl rfl rfl (by simp) (by simp) | exact Snap.slice_flat (by simp) rfl (by simp; rfl) (by simp) (by simp) | exact Snap.slice_flat (by simp) (by simp; exact ⟨rfl, rfl, rfl⟩) (by simp; rfl) (by simp) (by simp))); (focus (simp only [List.nil_append, List.cons_append]; rfl))))
    all_goals exact ⟨0, by omega, 2, by omega, rfl, rfl, by simp [*]⟩
  · by_cases hop : (e.origin == -3) = true
    · skip
      repeat' (first
        | apply w_seq
        | apply w_region
        | apply o_end
        | apply t_normal
        | (apply o_add; (focus (first | rfl | (apply g_in; rfl; rfl; (focus (simp [*]; done))))); (focus (simp [*]; rfl)); rfl; (focus (simp [*]; rfl)); rfl; (focus (apply wrap_i64 <;> omega)))
        | (apply o_sub; (focus (first | rfl | (apply g_in; rfl; rfl; (focus (simp [*]; done))))); (focus (simp [*]; rfl)); rfl; (focus (simp [*]; rfl)); rfl; (focus (apply wrap_i64 <;> omega)))
        | (apply o_val; (focus (first | rfl | (apply g_in; rfl; rfl; (focus (simp [*]; done))))); (focus (simp [*]; rfl)))
        | (apply o_fn fine; (focus (first | rfl | (apply g_in; rfl; rfl; (focus (simp [*]; done))))); (focus (simp [*]; exact ⟨rfl, rfl⟩)); (focus (exact Lets_ok e _ _ hc5)); (focus (simp [*]; done)))
        | (apply o_fn fine; (focus (first | rfl | (apply g_in; rfl; rfl; (focus (simp [*]; done))))); (focus (simp [*]; exact ⟨rfl, rfl⟩)); (focus (exact awake5_ok)); (focus (simp [*]; done)))
        | (apply f_retf; (focus (simp [*]; rfl)); (focus (simp; done)); (focus (simp [*]; done)))
        | (apply o_mem; (focus (first | rfl | (apply g_in; rfl; rfl; (focus (simp [*]; done))))); rfl; (focus (simp [*]; exact ⟨rfl, rfl⟩)))
        | apply w_skip
        | apply w_block
        | apply b_normal
        | apply w_ret
        | apply t_ret
        | apply b_ret
        | apply w_exit
        | apply t_exit
        | apply b_here
        | (apply b_on; (focus decide))
        | (apply w_true; (focus (simp [*]; done)))
        | (apply w_false; (focus (simp [*]; done)))
        | ((apply w_cond; (focus (simp [*]; rfl)); rfl) <;> (intro hc; have hc' := hc; try simp at hc'))
        | (apply o_no; (focus (first | (apply g_out; rfl; rfl; (focus (simp [*]; done))) | (apply g_un; rfl; rfl; (focus (simp [*]; done))))))
        | ((apply o_if; rfl; rfl; (focus (simp [*]; rfl)); rfl) <;> (intro hg; (fail_if_success (guard_hyp hg : true = true)); (fail_if_success (guard_hyp hg : false = false)); have hg' := hg; try simp at hg'))
        | (apply w_draw; rfl; (focus kernel_rfl); (focus (simp; rfl)); (focus (simp; rfl)))
        | (apply p_end; (focus (simp; rfl)))
        | (apply p_val; (focus (simp; rfl)); (focus (intro u; first | rfl | (apply g_in; rfl; rfl; (focus (simp [*]; done))))); (focus (intro u; simp [*]; rfl)); (focus (simp only [List.nil_append, List.cons_append]; rfl)))
        | (apply p_fn fine; (focus (simp; rfl)); (focus (intro u; first | rfl | (apply g_in; rfl; rfl; (focus (simp [*]; done))))); (focus (intro u; simp [*]; exact ⟨rfl, rfl⟩)); (focus (exact Lets_ok e _ _ hc5)); (focus (simp [*]; done)); (focus (simp only [List.nil_append, List.cons_append]; rfl)))
        | (apply p_fn fine; (focus (simp; rfl)); (focus (intro u; first | rfl | (apply g_in; rfl; rfl; (focus (simp [*]; done))))); (focus (intro u; simp [*]; exact ⟨rfl, rfl⟩)); (focus (exact awake5_ok)); (focus (simp [*]; done)); (focus (simp only [List.nil_append, List.cons_append]; rfl)))
        | (apply p_no; (focus (simp; rfl)); (focus (intro u; first | (apply g_out; rfl; rfl; (focus (simp [*]; done))) | (apply g_un; rfl; rfl; (focus (simp [*]; done))))); (focus (simp only [List.nil_append, List.cons_append]; rfl)))
        | ((apply p_if; (focus (simp; rfl)); rfl; rfl; (focus (intro u; simp [*]; rfl)); rfl) <;> (intro hg; (fail_if_success (guard_hyp hg : true = true)); (fail_if_success (guard_hyp hg : false = false)); have hg' := hg; try simp at hg'))
        | (apply p_frz; (focus (simp; rfl)); (focus (intro u; first | rfl | (apply g_in; rfl; rfl; (focus (simp [*]; done))))); (focus (intro u; rfl)); (focus (intro u; simp [*]; exact ⟨rfl, rfl⟩)); (focus (simp; done)); (focus (first | exact Snap.flat (by simp) | exact Snap.ref_flat (by simp) rfl rfl rfl (by simp) (by simp) | exact Snap.slice_flat (by simp) rfl (by simp; rfl) (by simp) (by simp) | exact Snap.slice_flat (by simp) (by simp; exact ⟨rfl, rfl, rfl⟩) (by simp; rfl) (by simp) (by simp))); (focus (simp only [List.nil_append, List.cons_append]; rfl))))
    · have hop' : (e.origin == -3) = false := by simpa using hop
      obtain ⟨z1, z2⟩ := lets_opaque hop'
      clear hop
      repeat' (first
        | apply w_seq
        | apply w_region
        | apply o_end
        | apply t_normal
        | (apply o_add; (focus (first | rfl | (apply g_in; rfl; rfl; (focus (simp [*]; done))))); (focus (simp [*]; rfl)); rfl; (focus (simp [*]; rfl)); rfl; (focus (apply wrap_i64 <;> omega)))
        | (apply o_sub; (focus (first | rfl | (apply g_in; rfl; rfl; (focus (simp [*]; done))))); (focus (simp [*]; rfl)); rfl; (focus (simp [*]; rfl)); rfl; (focus (apply wrap_i64 <;> omega)))
        | (apply o_val; (focus (first | rfl | (apply g_in; rfl; rfl; (focus (simp [*]; done))))); (focus (simp [*]; rfl)))
        | (apply o_fn fine; (focus (first | rfl | (apply g_in; rfl; rfl; (focus (simp [*]; done))))); (focus (simp [*]; exact ⟨rfl, rfl⟩)); (focus (exact Lets_ok e _ _ hc5)); (focus (simp [*]; done)))
        | (apply o_fn fine; (focus (first | rfl | (apply g_in; rfl; rfl; (focus (simp [*]; done))))); (focus (simp [*]; exact ⟨rfl, rfl⟩)); (focus (exact awake5_ok)); (focus (simp [*]; done)))
        | (apply f_retf; (focus (simp [*]; rfl)); (focus (simp; done)); (focus (simp [*]; done)))
        | (apply o_mem; (focus (first | rfl | (apply g_in; rfl; rfl; (focus (simp [*]; done))))); rfl; (focus (simp [*]; exact ⟨rfl, rfl⟩)))
        | apply w_skip
        | apply w_block
        | apply b_normal
        | apply w_ret
        | apply t_ret
        | apply b_ret
        | apply w_exit
        | apply t_exit
        | apply b_here
        | (apply b_on; (focus decide))
        | (apply w_true; (focus (simp [*]; done)))
        | (apply w_false; (focus (simp [*]; done)))
        | ((apply w_cond; (focus (simp [*]; rfl)); rfl) <;> (intro hc; have hc' := hc; try simp at hc'))
        | (apply o_no; (focus (first | (apply g_out; rfl; rfl; (focus (simp [*]; done))) | (apply g_un; rfl; rfl; (focus (simp [*]; done))))))
        | ((apply o_if; rfl; rfl; (focus (simp [*]; rfl)); rfl) <;> (intro hg; (fail_if_success (guard_hyp hg : true = true)); (fail_if_success (guard_hyp hg : false = false)); have hg' := hg; try simp at hg'))
        | (apply w_draw; rfl; (focus kernel_rfl); (focus (simp; rfl)); (focus (simp; rfl)))
        | (apply p_end; (focus (simp; rfl)))
        | (apply p_val; (focus (simp; rfl)); (focus (intro u; first | rfl | (apply g_in; rfl; rfl; (focus (simp [*]; done))))); (focus (intro u; simp [*]; rfl)); (focus (simp only [List.nil_append, List.cons_append]; rfl)))
        | (apply p_fn fine; (focus (simp; rfl)); (focus (intro u; first | rfl | (apply g_in; rfl; rfl; (focus (simp [*]; done))))); (focus (intro u; simp [*]; exact ⟨rfl, rfl⟩)); (focus (exact Lets_ok e _ _ hc5)); (focus (simp [*]; done)); (focus (simp only [List.nil_append, List.cons_append]; rfl)))
        | (apply p_fn fine; (focus (simp; rfl)); (focus (intro u; first | rfl | (apply g_in; rfl; rfl; (focus (simp [*]; done))))); (focus (intro u; simp [*]; exact ⟨rfl, rfl⟩)); (focus (exact awake5_ok)); (focus (simp [*]; done)); (focus (simp only [List.nil_append, List.cons_append]; rfl)))
        | (apply p_no; (focus (simp; rfl)); (focus (intro u; first | (apply g_out; rfl; rfl; (focus (simp [*]; done))) | (apply g_un; rfl; rfl; (focus (simp [*]; done))))); (focus (simp only [List.nil_append, List.cons_append]; rfl)))
        | ((apply p_if; (focus (simp; rfl)); rfl; rfl; (focus (intro u; simp [*]; rfl)); rfl) <;> (intro hg; (fail_if_success (guard_hyp hg : true = true)); (fail_if_success (guard_hyp hg : false = false)); have hg' := hg; try simp at hg'))
        | (apply p_frz; (focus (simp; rfl)); (focus (intro u; first | rfl | (apply g_in; rfl; rfl; (focus (simp [*]; done))))); (focus (intro u; rfl)); (focus (intro u; simp [*]; exact ⟨rfl, rfl⟩)); (focus (simp; done)); (focus (first | exact Snap.flat (by simp) | exact Snap.ref_flat (by simp) rfl rfl rfl (by simp) (by simp) | exact Snap.slice_flat (by simp) rfl (by simp; rfl) (by simp) (by simp) | exact Snap.slice_flat (by simp) (by simp; exact ⟨rfl, rfl, rfl⟩) (by simp; rfl) (by simp) (by simp))); (focus (simp only [List.nil_append, List.cons_append]; rfl))))
end Go.Proofs.Ytefhaeaakidaiaa.Vm
