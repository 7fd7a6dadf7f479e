/- Walks: the document's answer on cors, and the first law. -/
import Derived.Test.YtefhaeaakidaiaaVwC
set_option linter.unusedSimpArgs false
set_option maxRecDepth 100000
set_option maxHeartbeats 2000000
namespace Go.Proofs.Ytefhaeaakidaiaa.Vm
open Go
attribute [local irreducible] wpD opsD thenD blockD planD
attribute [local simp] List.take_of_length_le List.drop_of_length_le

theorem RefLets_ok (e : Ep) (b : Int) (creds : Bool) (hn : e.cors.length < 1000000000000) : Ans L 24 [epD e, .int .i64 b, .bool creds] (.bool (lets e b creds)) := by
  refine fn_of_body L_ok (fn := Try.f24) rfl rfl rfl rfl (by kernel_rfl) ?_
  obtain ⟨q, hq⟩ : ∃ q, q = e.cors.any (fun x => b == x) := ⟨_, rfl⟩
  have hlets : lets e b creds = (b == e.origin || (b != -2 && b != -3 && q && (!creds || e.creds)) || (e.any && !creds)) := by rw [hq, lets]
  repeat' (first
    | apply w_seq
    | apply w_region
    | apply o_end
    | apply t_normal
    | (apply o_add; (focus (first | rfl | (apply g_in; rfl; rfl; (focus (simp [*]; done))))); (focus (simp [*]; rfl)); rfl; (focus (simp [*]; rfl)); rfl; (focus (apply wrap_i64 <;> omega)))
    | (apply o_sub; (focus (first | rfl | (apply g_in; rfl; rfl; (focus (simp [*]; done))))); (focus (simp [*]; rfl)); rfl; (focus (simp [*]; rfl)); rfl; (focus (apply wrap_i64 <;> omega)))
    | (apply o_val; (focus (first | rfl | (apply g_in; rfl; rfl; (focus (simp [*]; done))))); (focus (simp [*]; rfl)))
    | (apply o_fuse; (focus (first | rfl | (apply g_in; rfl; rfl; (focus (simp [*]; done))))); rfl; (focus (simp [*]; first | rfl | exact ⟨rfl, rfl⟩)); (focus (first | rfl | (apply g_in; rfl; rfl; (focus (simp [*]; done))))); rfl; (focus (simp [*]; first | rfl | exact ⟨rfl, rfl⟩ | exact ⟨rfl, rfl, rfl⟩)); (focus (intro d hd; apply Under.flat; revert hd; revert d; simp; done)))
    | (apply o_var; (focus (first | rfl | (apply g_in; rfl; rfl; (focus (simp [*]; done))))); (focus (simp [*]; exact ⟨rfl, rfl⟩)); (focus (simp; done)); (focus (first | exact Snap.flat (by simp) | exact Snap.ref_flat (by simp) rfl rfl rfl (by simp) (by simp) | exact Snap.slice_flat (by simp) rfl (by simp; rfl) (by simp) (by simp) | exact Snap.slice_flat (by simp) (by simp; exact ⟨rfl, rfl, rfl⟩) (by simp; rfl) (by simp) (by simp))))
    | (apply o_mem; (focus (first | rfl | (apply g_in; rfl; rfl; (focus (simp [*]; done))))); rfl; (focus (simp [*]; exact ⟨rfl, rfl⟩)))
    | apply w_skip
    | apply w_block
    | apply b_normal
    | apply w_ret
    | apply t_ret
    | apply b_ret
    | apply w_exit
    | apply t_exit
    | apply b_here
    | (apply b_on; (focus decide))
    | (apply w_true; (focus (simp [*]; done)))
    | (apply w_false; (focus (simp [*]; done)))
    | ((apply w_cond; (focus (simp [*]; rfl)); rfl) <;> (intro hc; have hc' := hc; try simp at hc'))
    | (apply o_no; (focus (first | (apply g_out; rfl; rfl; (focus (simp [*]; done))) | (apply g_un; rfl; rfl; (focus (simp [*]; done))))))
    | ((apply o_if; rfl; rfl; (focus (simp [*]; rfl)); rfl) <;> (intro hg; (fail_if_success (guard_hyp hg : true = true)); (fail_if_success (guard_hyp hg : false = false)); have hg' := hg; try simp at hg'))
    | (apply w_drawA; rfl; (focus kernel_rfl); (focus (simp; rfl)); (focus (simp; rfl)))
    | (apply a_end; (focus (simp; rfl)))
    | (apply a_val; (focus (simp; rfl)); (focus (intro u; first | rfl | (apply g_in; rfl; rfl; (focus (simp [*]; done))))); (focus (intro H' u; simp [*]; rfl)); (focus (simp only [List.nil_append, List.cons_append]; rfl)))
    | (apply a_tie; (focus (simp; rfl)); (focus (intro u; first | rfl | (apply g_in; rfl; rfl; (focus (simp [*]; done))))); (focus (intro u; simp [*]; rfl)); (focus (first | rfl | kernel_rfl)); (focus (simp only [List.nil_append, List.cons_append]; rfl)); (focus (simp; rfl)))
    | (apply a_no; (focus (simp; rfl)); (focus (intro u; first | (apply g_out; rfl; rfl; (focus (simp [*]; done))) | (apply g_un; rfl; rfl; (focus (simp [*]; done))))); (focus (simp only [List.nil_append, List.cons_append]; rfl)))
    | ((apply a_if; (focus (simp; rfl)); rfl; rfl; (focus (intro u; simp [*]; rfl)); rfl) <;> (intro hg; (fail_if_success (guard_hyp hg : true = true)); (fail_if_success (guard_hyp hg : false = false)); have hg' := hg; try simp at hg'))
    | (apply a_frz; (focus (simp; rfl)); (focus (intro u; first | rfl | (apply g_in; rfl; rfl; (focus (simp [*]; done))))); (focus (intro u; rfl)); (focus (intro H' u; simp [*]; refine ⟨_, _, ⟨rfl, rfl⟩, ?_, ?_⟩; (focus (simp; done)); (focus (first | exact Snap.flat (by simp) | exact Snap.ref_flat (by simp) rfl rfl rfl (by simp) (by simp) | exact Snap.slice_flat (by simp) rfl (by simp; rfl) (by simp) (by simp) | exact Snap.slice_flat (by simp) (by simp; exact ⟨rfl, rfl, rfl⟩) (by simp; rfl) (by simp) (by simp))))); (focus (simp only [List.nil_append, List.cons_append]; rfl)))
    | (apply a_mem; (focus (simp; rfl)); (focus (intro u; first | rfl | (apply g_in; rfl; rfl; (focus (simp [*]; done))))); (focus (intro u; rfl)); (focus (intro u; simp [*]; exact ⟨rfl, rfl⟩)); (focus (first | rfl | kernel_rfl)); (focus (simp only [List.nil_append, List.cons_append]; rfl)); (focus (simp; rfl))))
  any_goals (apply f_retf; (focus (simp [*]; rfl)); (focus (simp; done)); (focus (first | (simp [*]; done) | (simp_all; done))))
  all_goals refine w_loop (fun n f H => ∃ (i : Nat), i ≤ e.cors.length ∧ n = e.cors.length - i ∧ H = [] ∧ (e.cors.take i).any (fun x => b == x) = false ∧ f 1 = .int .i64 b ∧ f 2 = .bool creds ∧ f 3 = .box (epC e) ∧ f 7 = .int .i64 i) e.cors.length ⟨0, by simp⟩ ?_
  rintro n f H ⟨i, hi, rfl, rfl, hp, h1, h2, h3, h7⟩
  have hb2 : (b != -2) = true := by simp [*]
  have hb3 : (b != -3) = true := by simp [*]
  by_cases hlt : i < e.cors.length
  · by_cases heq : e.cors[i] = b
    · have hqt : q = true := by rw [hq]; exact any_yes hlt (by simp [heq])
      clear hq
      repeat' (first
        | apply w_seq
        | apply w_region
        | apply o_end
        | apply t_normal
        | (apply o_add; (focus (first | rfl | (apply g_in; rfl; rfl; (focus (simp [*]; done))))); (focus (simp [*]; rfl)); rfl; (focus (simp [*]; rfl)); rfl; (focus (apply wrap_i64 <;> omega)))
        | (apply o_sub; (focus (first | rfl | (apply g_in; rfl; rfl; (focus (simp [*]; done))))); (focus (simp [*]; rfl)); rfl; (focus (simp [*]; rfl)); rfl; (focus (apply wrap_i64 <;> omega)))
        | (apply o_val; (focus (first | rfl | (apply g_in; rfl; rfl; (focus (simp [*]; done))))); (focus (simp [*]; rfl)))
        | (apply o_fuse; (focus (first | rfl | (apply g_in; rfl; rfl; (focus (simp [*]; done))))); rfl; (focus (simp [*]; first | rfl | exact ⟨rfl, rfl⟩)); (focus (first | rfl | (apply g_in; rfl; rfl; (focus (simp [*]; done))))); rfl; (focus (simp [*]; first | rfl | exact ⟨rfl, rfl⟩ | exact ⟨rfl, rfl, rfl⟩)); (focus (intro d hd; apply Under.flat; revert hd; revert d; simp; done)))
        | (apply o_mem; (focus (first | rfl | (apply g_in; rfl; rfl; (focus (simp [*]; done))))); rfl; (focus (simp [*]; exact ⟨rfl, rfl⟩)))
        | apply w_skip
        | apply w_block
        | apply b_normal
        | apply w_ret
        | apply t_ret
        | apply b_ret
        | apply w_exit
        | apply t_exit
        | apply b_here
        | (apply b_on; (focus decide))
        | (apply w_true; (focus (simp [*]; done)))
        | (apply w_false; (focus (simp [*]; done)))
        | ((apply w_cond; (focus (simp [*]; rfl)); rfl) <;> (intro hc; have hc' := hc; try simp at hc'))
        | (apply o_no; (focus (first | (apply g_out; rfl; rfl; (focus (simp [*]; done))) | (apply g_un; rfl; rfl; (focus (simp [*]; done))))))
        | ((apply o_if; rfl; rfl; (focus (simp [*]; rfl)); rfl) <;> (intro hg; (fail_if_success (guard_hyp hg : true = true)); (fail_if_success (guard_hyp hg : false = false)); have hg' := hg; try simp at hg'))
        | (apply w_drawA; rfl; (focus kernel_rfl); (focus (simp; rfl)); (focus (simp; rfl)))
        | (apply a_end; (focus (simp; rfl)))
        | (apply a_val; (focus (simp; rfl)); (focus (intro u; first | rfl | (apply g_in; rfl; rfl; (focus (simp [*]; done))))); (focus (intro H' u; simp [*]; rfl)); (focus (simp only [List.nil_append, List.cons_append]; rfl)))
        | (apply a_tie; (focus (simp; rfl)); (focus (intro u; first | rfl | (apply g_in; rfl; rfl; (focus (simp [*]; done))))); (focus (intro u; simp [*]; rfl)); (focus (first | rfl | kernel_rfl)); (focus (simp only [List.nil_append, List.cons_append]; rfl)); (focus (simp; rfl)))
        | (apply a_no; (focus (simp; rfl)); (focus (intro u; first | (apply g_out; rfl; rfl; (focus (simp [*]; done))) | (apply g_un; rfl; rfl; (focus (simp [*]; done))))); (focus (simp only [List.nil_append, List.cons_append]; rfl)))
        | ((apply a_if; (focus (simp; rfl)); rfl; rfl; (focus (intro u; simp [*]; rfl)); rfl) <;> (intro hg; (fail_if_success (guard_hyp hg : true = true)); (fail_if_success (guard_hyp hg : false = false)); have hg' := hg; try simp at hg'))
        | (apply a_frz; (focus (simp; rfl)); (focus (intro u; first | rfl | (apply g_in; rfl; rfl; (focus (simp [*]; done))))); (focus (intro u; rfl)); (focus (intro H' u; simp [*]; refine ⟨_, _, ⟨rfl, rfl⟩, ?_, ?_⟩; (focus (simp; done)); (focus (first | exact Snap.flat (by simp) | exact Snap.ref_flat (by simp) rfl rfl rfl (by simp) (by simp) | exact Snap.slice_flat (by simp) rfl (by simp; rfl) (by simp) (by simp) | exact Snap.slice_flat (by simp) (by simp; exact ⟨rfl, rfl, rfl⟩) (by simp; rfl) (by simp) (by simp))))); (focus (simp only [List.nil_append, List.cons_append]; rfl)))
        | (apply a_mem; (focus (simp; rfl)); (focus (intro u; first | rfl | (apply g_in; rfl; rfl; (focus (simp [*]; done))))); (focus (intro u; rfl)); (focus (intro u; simp [*]; exact ⟨rfl, rfl⟩)); (focus (first | rfl | kernel_rfl)); (focus (simp only [List.nil_append, List.cons_append]; rfl)); (focus (simp; rfl))))
      all_goals (apply f_retf; (focus (simp [*]; rfl)); (focus (simp; done)); (focus (first | (simp [*]; done) | (simp_all; done))))
    · skip
      repeat' (first
        | apply w_seq
        | apply w_region
        | apply o_end
        | apply t_normal
        | (apply o_add; (focus (first | rfl | (apply g_in; rfl; rfl; (focus (simp [*]; done))))); (focus (simp [*]; rfl)); rfl; (focus (simp [*]; rfl)); rfl; (focus (apply wrap_i64 <;> omega)))
        | (apply o_sub; (focus (first | rfl | (apply g_in; rfl; rfl; (focus (simp [*]; done))))); (focus (simp [*]; rfl)); rfl; (focus (simp [*]; rfl)); rfl; (focus (apply wrap_i64 <;> omega)))
        | (apply o_val; (focus (first | rfl | (apply g_in; rfl; rfl; (focus (simp [*]; done))))); (focus (simp [*]; rfl)))
        | (apply o_fuse; (focus (first | rfl | (apply g_in; rfl; rfl; (focus (simp [*]; done))))); rfl; (focus (simp [*]; first | rfl | exact ⟨rfl, rfl⟩)); (focus (first | rfl | (apply g_in; rfl; rfl; (focus (simp [*]; done))))); rfl; (focus (simp [*]; first | rfl | exact ⟨rfl, rfl⟩ | exact ⟨rfl, rfl, rfl⟩)); (focus (intro d hd; apply Under.flat; revert hd; revert d; simp; done)))
        | (apply o_mem; (focus (first | rfl | (apply g_in; rfl; rfl; (focus (simp [*]; done))))); rfl; (focus (simp [*]; exact ⟨rfl, rfl⟩)))
        | apply w_skip
        | apply w_block
        | apply b_normal
        | apply w_ret
        | apply t_ret
        | apply b_ret
        | apply w_exit
        | apply t_exit
        | apply b_here
        | (apply b_on; (focus decide))
        | (apply w_true; (focus (simp [*]; done)))
        | (apply w_false; (focus (simp [*]; done)))
        | ((apply w_cond; (focus (simp [*]; rfl)); rfl) <;> (intro hc; have hc' := hc; try simp at hc'))
        | (apply o_no; (focus (first | (apply g_out; rfl; rfl; (focus (simp [*]; done))) | (apply g_un; rfl; rfl; (focus (simp [*]; done))))))
        | ((apply o_if; rfl; rfl; (focus (simp [*]; rfl)); rfl) <;> (intro hg; (fail_if_success (guard_hyp hg : true = true)); (fail_if_success (guard_hyp hg : false = false)); have hg' := hg; try simp at hg'))
        | (apply w_drawA; rfl; (focus kernel_rfl); (focus (simp; rfl)); (focus (simp; rfl)))
        | (apply a_end; (focus (simp; rfl)))
        | (apply a_val; (focus (simp; rfl)); (focus (intro u; first | rfl | (apply g_in; rfl; rfl; (focus (simp [*]; done))))); (focus (intro H' u; simp [*]; rfl)); (focus (simp only [List.nil_append, List.cons_append]; rfl)))
        | (apply a_tie; (focus (simp; rfl)); (focus (intro u; first | rfl | (apply g_in; rfl; rfl; (focus (simp [*]; done))))); (focus (intro u; simp [*]; rfl)); (focus (first | rfl | kernel_rfl)); (focus (simp only [List.nil_append, List.cons_append]; rfl)); (focus (simp; rfl)))
        | (apply a_no; (focus (simp; rfl)); (focus (intro u; first | (apply g_out; rfl; rfl; (focus (simp [*]; done))) | (apply g_un; rfl; rfl; (focus (simp [*]; done))))); (focus (simp only [List.nil_append, List.cons_append]; rfl)))
        | ((apply a_if; (focus (simp; rfl)); rfl; rfl; (focus (intro u; simp [*]; rfl)); rfl) <;> (intro hg; (fail_if_success (guard_hyp hg : true = true)); (fail_if_success (guard_hyp hg : false = false)); have hg' := hg; try simp at hg'))
        | (apply a_frz; (focus (simp; rfl)); (focus (intro u; first | rfl | (apply g_in; rfl; rfl; (focus (simp [*]; done))))); (focus (intro u; rfl)); (focus (intro H' u; simp [*]; refine ⟨_, _, ⟨rfl, rfl⟩, ?_, ?_⟩; (focus (simp; done)); (focus (first | exact Snap.flat (by simp) | exact Snap.ref_flat (by simp) rfl rfl rfl (by simp) (by simp) | exact Snap.slice_flat (by simp) rfl (by simp; rfl) (by simp) (by simp) | exact Snap.slice_flat (by simp) (by simp; exact ⟨rfl, rfl, rfl⟩) (by simp; rfl) (by simp) (by simp))))); (focus (simp only [List.nil_append, List.cons_append]; rfl)))
        | (apply a_mem; (focus (simp; rfl)); (focus (intro u; first | rfl | (apply g_in; rfl; rfl; (focus (simp [*]; done))))); (focus (intro u; rfl)); (focus (intro u; simp [*]; exact ⟨rfl, rfl⟩)); (focus (first | rfl | kernel_rfl)); (focus (simp only [List.nil_append, List.cons_append]; rfl)); (focus (simp; rfl))))
      exact ⟨e.cors.length - (i + 1), by omega, i + 1, by omega, rfl, rfl, any_more hlt hp (by simpa using fun h => heq h.symm), by simp [*]⟩
  · have hqf : q = false := by rw [hq]; exact any_no (by omega) hp
    clear hq
    repeat' (first
      | apply w_seq
      | apply w_region
      | apply o_end
      | apply t_normal
      | (apply o_add; (focus (first | rfl | (apply g_in; rfl; rfl; (focus (simp [*]; done))))); (focus (simp [*]; rfl)); rfl; (focus (simp [*]; rfl)); rfl; (focus (apply wrap_i64 <;> omega)))
      | (apply o_sub; (focus (first | rfl | (apply g_in; rfl; rfl; (focus (simp [*]; done))))); (focus (simp [*]; rfl)); rfl; (focus (simp [*]; rfl)); rfl; (focus (apply wrap_i64 <;> omega)))
      | (apply o_val; (focus (first | rfl | (apply g_in; rfl; rfl; (focus (simp [*]; done))))); (focus (simp [*]; rfl)))
      | (apply o_fuse; (focus (first | rfl | (apply g_in; rfl; rfl; (focus (simp [*]; done))))); rfl; (focus (simp [*]; first | rfl | exact ⟨rfl, rfl⟩)); (focus (first | rfl | (apply g_in; rfl; rfl; (focus (simp [*]; done))))); rfl; (focus (simp [*]; first | rfl | exact ⟨rfl, rfl⟩ | exact ⟨rfl, rfl, rfl⟩)); (focus (intro d hd; apply Under.flat; revert hd; revert d; simp; done)))
      | (apply o_mem; (focus (first | rfl | (apply g_in; rfl; rfl; (focus (simp [*]; done))))); rfl; (focus (simp [*]; exact ⟨rfl, rfl⟩)))
      | apply w_skip
      | apply w_block
      | apply b_normal
      | apply w_ret
      | apply t_ret
      | apply b_ret
      | apply w_exit
      | apply t_exit
      | apply b_here
      | (apply b_on; (focus decide))
      | (apply w_true; (focus (simp [*]; done)))
      | (apply w_false; (focus (simp [*]; done)))
      | ((apply w_cond; (focus (simp [*]; rfl)); rfl) <;> (intro hc; have hc' := hc; try simp at hc'))
      | (apply o_no; (focus (first | (apply g_out; rfl; rfl; (focus (simp [*]; done))) | (apply g_un; rfl; rfl; (focus (simp [*]; done))))))
      | ((apply o_if; rfl; rfl; (focus (simp [*]; rfl)); rfl) <;> (intro hg; (fail_if_success (guard_hyp hg : true = true)); (fail_if_success (guard_hyp hg : false = false)); have hg' := hg; try simp at hg'))
      | (apply w_drawA; rfl; (focus kernel_rfl); (focus (simp; rfl)); (focus (simp; rfl)))
      | (apply a_end; (focus (simp; rfl)))
      | (apply a_val; (focus (simp; rfl)); (focus (intro u; first | rfl | (apply g_in; rfl; rfl; (focus (simp [*]; done))))); (focus (intro H' u; simp [*]; rfl)); (focus (simp only [List.nil_append, List.cons_append]; rfl)))
      | (apply a_tie; (focus (simp; rfl)); (focus (intro u; first | rfl | (apply g_in; rfl; rfl; (focus (simp [*]; done))))); (focus (intro u; simp [*]; rfl)); (focus (first | rfl | kernel_rfl)); (focus (simp only [List.nil_append, List.cons_append]; rfl)); (focus (simp; rfl)))
      | (apply a_no; (focus (simp; rfl)); (focus (intro u; first | (apply g_out; rfl; rfl; (focus (simp [*]; done))) | (apply g_un; rfl; rfl; (focus (simp [*]; done))))); (focus (simp only [List.nil_append, List.cons_append]; rfl)))
      | ((apply a_if; (focus (simp; rfl)); rfl; rfl; (focus (intro u; simp [*]; rfl)); rfl) <;> (intro hg; (fail_if_success (guard_hyp hg : true = true)); (fail_if_success (guard_hyp hg : false = false)); have hg' := hg; try simp at hg'))
      | (apply a_frz; (focus (simp; rfl)); (focus (intro u; first | rfl | (apply g_in; rfl; rfl; (focus (simp [*]; done))))); (focus (intro u; rfl)); (focus (intro H' u; simp [*]; refine ⟨_, _, ⟨rfl, rfl⟩, ?_, ?_⟩; (focus (simp; done)); (focus (first | exact Snap.flat (by simp) | exact Snap.ref_flat (by simp) rfl rfl rfl (by simp) (by simp) | exact Snap.slice_flat (by simp) rfl (by simp; rfl) (by simp) (by simp) | exact Snap.slice_flat (by simp) (by simp; exact ⟨rfl, rfl, rfl⟩) (by simp; rfl) (by simp) (by simp))))); (focus (simp only [List.nil_append, List.cons_append]; rfl)))
      | (apply a_mem; (focus (simp; rfl)); (focus (intro u; first | rfl | (apply g_in; rfl; rfl; (focus (simp [*]; done))))); (focus (intro u; rfl)); (focus (intro u; simp [*]; exact ⟨rfl, rfl⟩)); (focus (first | rfl | kernel_rfl)); (focus (simp only [List.nil_append, List.cons_append]; rfl)); (focus (simp; rfl))))
    all_goals (apply f_retf; (focus (simp [*]; rfl)); (focus (simp; done)); (focus (first | (simp [*]; done) | (simp_all; done))))
theorem RefAhead_ok (e : Ep) (b : Int) (heads : Bool) (ok : e.Ok) : Ans L 26 [epD e, .int .i64 b, .bool heads] (.bool (ahead e b heads)) := by
  refine fn_of_body L_ok (fn := Try.f26) rfl rfl rfl rfl (by kernel_rfl) ?_
  have hl := asked_len ok heads
  have hs := RefSimple_ok e.method (asked e heads) hl.1 hl.2
  clear hl ok
  cases heads
  · simp only [asked, Bool.false_eq_true, if_false] at hs
    have ha : ahead e b false = (b != e.origin && !isSimple e.method []) := rfl
    repeat' (first
      | apply w_seq
      | apply w_region
      | apply o_end
      | apply t_normal
      | (apply o_add; (focus (first | rfl | (apply g_in; rfl; rfl; (focus (simp [*]; done))))); (focus (simp [*]; rfl)); rfl; (focus (simp [*]; rfl)); rfl; (focus (apply wrap_i64 <;> omega)))
      | (apply o_sub; (focus (first | rfl | (apply g_in; rfl; rfl; (focus (simp [*]; done))))); (focus (simp [*]; rfl)); rfl; (focus (simp [*]; rfl)); rfl; (focus (apply wrap_i64 <;> omega)))
      | (apply o_val; (focus (first | rfl | (apply g_in; rfl; rfl; (focus (simp [*]; done))))); (focus (simp [*]; rfl)))
      | (apply o_fuse; (focus (first | rfl | (apply g_in; rfl; rfl; (focus (simp [*]; done))))); rfl; (focus (simp [*]; first | rfl | exact ⟨rfl, rfl⟩)); (focus (first | rfl | (apply g_in; rfl; rfl; (focus (simp [*]; done))))); rfl; (focus (simp [*]; first | rfl | exact ⟨rfl, rfl⟩ | exact ⟨rfl, rfl, rfl⟩)); (focus (intro d hd; apply Under.flat; revert hd; revert d; simp; done)))
      | (apply o_var; (focus (first | rfl | (apply g_in; rfl; rfl; (focus (simp [*]; done))))); (focus (simp [*]; exact ⟨rfl, rfl⟩)); (focus (simp; done)); (focus (first | exact Snap.flat (by simp) | exact Snap.ref_flat (by simp) rfl rfl rfl (by simp) (by simp) | exact Snap.slice_flat (by simp) rfl (by simp; rfl) (by simp) (by simp) | exact Snap.slice_flat (by simp) (by simp; exact ⟨rfl, rfl, rfl⟩) (by simp; rfl) (by simp) (by simp))))
      | (apply o_lend fine; (focus (first | rfl | (apply g_in; rfl; rfl; (focus (simp [*]; done))))); (focus (simp [*]; exact ⟨rfl, rfl⟩)); (focus (exact hs )); (focus ( exact ⟨.flat (by simp), .nil, trivial⟩)); (focus (simp; done)))
      | (apply o_mem; (focus (first | rfl | (apply g_in; rfl; rfl; (focus (simp [*]; done))))); rfl; (focus (simp [*]; exact ⟨rfl, rfl⟩)))
      | apply w_skip
      | apply w_block
      | apply b_normal
      | apply w_ret
      | apply t_ret
      | apply b_ret
      | apply w_exit
      | apply t_exit
      | apply b_here
      | (apply b_on; (focus decide))
      | (apply w_true; (focus (simp [*]; done)))
      | (apply w_false; (focus (simp [*]; done)))
      | ((apply w_cond; (focus (simp [*]; rfl)); rfl) <;> (intro hc; have hc' := hc; try simp at hc'))
      | (apply o_no; (focus (first | (apply g_out; rfl; rfl; (focus (simp [*]; done))) | (apply g_un; rfl; rfl; (focus (simp [*]; done))))))
      | ((apply o_if; rfl; rfl; (focus (simp [*]; rfl)); rfl) <;> (intro hg; (fail_if_success (guard_hyp hg : true = true)); (fail_if_success (guard_hyp hg : false = false)); have hg' := hg; try simp at hg'))
      | (apply w_drawA; rfl; (focus kernel_rfl); (focus (simp; rfl)); (focus (simp; rfl)))
      | (apply a_end; (focus (simp; rfl)))
      | (apply a_val; (focus (simp; rfl)); (focus (intro u; first | rfl | (apply g_in; rfl; rfl; (focus (simp [*]; done))))); (focus (intro H' u; simp [*]; rfl)); (focus (simp only [List.nil_append, List.cons_append]; rfl)))
      | (apply a_tie; (focus (simp; rfl)); (focus (intro u; first | rfl | (apply g_in; rfl; rfl; (focus (simp [*]; done))))); (focus (intro u; simp [*]; rfl)); (focus (first | rfl | kernel_rfl)); (focus (simp only [List.nil_append, List.cons_append]; rfl)); (focus (simp; rfl)))
      | (apply a_no; (focus (simp; rfl)); (focus (intro u; first | (apply g_out; rfl; rfl; (focus (simp [*]; done))) | (apply g_un; rfl; rfl; (focus (simp [*]; done))))); (focus (simp only [List.nil_append, List.cons_append]; rfl)))
      | ((apply a_if; (focus (simp; rfl)); rfl; rfl; (focus (intro u; simp [*]; rfl)); rfl) <;> (intro hg; (fail_if_success (guard_hyp hg : true = true)); (fail_if_success (guard_hyp hg : false = false)); have hg' := hg; try simp at hg'))
      | (apply a_frz; (focus (simp; rfl)); (focus (intro u; first | rfl | (apply g_in; rfl; rfl; (focus (simp [*]; done))))); (focus (intro u; rfl)); (focus (intro H' u; simp [*]; refine ⟨_, _, ⟨rfl, rfl⟩, ?_, ?_⟩; (focus (simp; done)); (focus (first | exact Snap.flat (by simp) | exact Snap.ref_flat (by simp) rfl rfl rfl (by simp) (by simp) | exact Snap.slice_flat (by simp) rfl (by simp; rfl) (by simp) (by simp) | exact Snap.slice_flat (by simp) (by simp; exact ⟨rfl, rfl, rfl⟩) (by simp; rfl) (by simp) (by simp))))); (focus (simp only [List.nil_append, List.cons_append]; rfl)))
      | (apply a_mem; (focus (simp; rfl)); (focus (intro u; first | rfl | (apply g_in; rfl; rfl; (focus (simp [*]; done))))); (focus (intro u; rfl)); (focus (intro u; simp [*]; exact ⟨rfl, rfl⟩)); (focus (first | rfl | kernel_rfl)); (focus (simp only [List.nil_append, List.cons_append]; rfl)); (focus (simp; rfl))))
    all_goals (apply f_retf; (focus (simp [*]; rfl)); (focus (simp; done)); (focus (first | (simp [true_and, *]; done) | (simp_all [true_and]; done))))
  · simp only [asked, if_true] at hs
    have ha : ahead e b true = (b != e.origin && !isSimple e.method e.heads) := rfl
    repeat' (first
      | apply w_seq
      | apply w_region
      | apply o_end
      | apply t_normal
      | (apply o_add; (focus (first | rfl | (apply g_in; rfl; rfl; (focus (simp [*]; done))))); (focus (simp [*]; rfl)); rfl; (focus (simp [*]; rfl)); rfl; (focus (apply wrap_i64 <;> omega)))
      | (apply o_sub; (focus (first | rfl | (apply g_in; rfl; rfl; (focus (simp [*]; done))))); (focus (simp [*]; rfl)); rfl; (focus (simp [*]; rfl)); rfl; (focus (apply wrap_i64 <;> omega)))
      | (apply o_val; (focus (first | rfl | (apply g_in; rfl; rfl; (focus (simp [*]; done))))); (focus (simp [*]; rfl)))
      | (apply o_fuse; (focus (first | rfl | (apply g_in; rfl; rfl; (focus (simp [*]; done))))); rfl; (focus (simp [*]; first | rfl | exact ⟨rfl, rfl⟩)); (focus (first | rfl | (apply g_in; rfl; rfl; (focus (simp [*]; done))))); rfl; (focus (simp [*]; first | rfl | exact ⟨rfl, rfl⟩ | exact ⟨rfl, rfl, rfl⟩)); (focus (intro d hd; apply Under.flat; revert hd; revert d; simp; done)))
      | (apply o_var; (focus (first | rfl | (apply g_in; rfl; rfl; (focus (simp [*]; done))))); (focus (simp [*]; exact ⟨rfl, rfl⟩)); (focus (simp; done)); (focus (first | exact Snap.flat (by simp) | exact Snap.ref_flat (by simp) rfl rfl rfl (by simp) (by simp) | exact Snap.slice_flat (by simp) rfl (by simp; rfl) (by simp) (by simp) | exact Snap.slice_flat (by simp) (by simp; exact ⟨rfl, rfl, rfl⟩) (by simp; rfl) (by simp) (by simp))))
      | (apply o_fn fine; (focus (first | rfl | (apply g_in; rfl; rfl; (focus (simp [*]; done))))); (focus (simp [*]; exact ⟨rfl, rfl⟩)); (focus (exact hs)); (focus (simp [*]; done)))
      | (apply o_mem; (focus (first | rfl | (apply g_in; rfl; rfl; (focus (simp [*]; done))))); rfl; (focus (simp [*]; exact ⟨rfl, rfl⟩)))
      | apply w_skip
      | apply w_block
      | apply b_normal
      | apply w_ret
      | apply t_ret
      | apply b_ret
      | apply w_exit
      | apply t_exit
      | apply b_here
      | (apply b_on; (focus decide))
      | (apply w_true; (focus (simp [*]; done)))
      | (apply w_false; (focus (simp [*]; done)))
      | ((apply w_cond; (focus (simp [*]; rfl)); rfl) <;> (intro hc; have hc' := hc; try simp at hc'))
      | (apply o_no; (focus (first | (apply g_out; rfl; rfl; (focus (simp [*]; done))) | (apply g_un; rfl; rfl; (focus (simp [*]; done))))))
      | ((apply o_if; rfl; rfl; (focus (simp [*]; rfl)); rfl) <;> (intro hg; (fail_if_success (guard_hyp hg : true = true)); (fail_if_success (guard_hyp hg : false = false)); have hg' := hg; try simp at hg'))
      | (apply w_drawA; rfl; (focus kernel_rfl); (focus (simp; rfl)); (focus (simp; rfl)))
      | (apply a_end; (focus (simp; rfl)))
      | (apply a_val; (focus (simp; rfl)); (focus (intro u; first | rfl | (apply g_in; rfl; rfl; (focus (simp [*]; done))))); (focus (intro H' u; simp [*]; rfl)); (focus (simp only [List.nil_append, List.cons_append]; rfl)))
      | (apply a_fn fine; (focus (simp; rfl)); (focus (intro u; first | rfl | (apply g_in; rfl; rfl; (focus (simp [*]; done))))); (focus (intro u; simp [*]; exact ⟨rfl, rfl⟩)); (focus (exact hs)); (focus (simp [*]; done)); (focus (simp only [List.nil_append, List.cons_append]; rfl)))
      | (apply a_tie; (focus (simp; rfl)); (focus (intro u; first | rfl | (apply g_in; rfl; rfl; (focus (simp [*]; done))))); (focus (intro u; simp [*]; rfl)); (focus (first | rfl | kernel_rfl)); (focus (simp only [List.nil_append, List.cons_append]; rfl)); (focus (simp; rfl)))
      | (apply a_no; (focus (simp; rfl)); (focus (intro u; first | (apply g_out; rfl; rfl; (focus (simp [*]; done))) | (apply g_un; rfl; rfl; (focus (simp [*]; done))))); (focus (simp only [List.nil_append, List.cons_append]; rfl)))
      | ((apply a_if; (focus (simp; rfl)); rfl; rfl; (focus (intro u; simp [*]; rfl)); rfl) <;> (intro hg; (fail_if_success (guard_hyp hg : true = true)); (fail_if_success (guard_hyp hg : false = false)); have hg' := hg; try simp at hg'))
      | (apply a_frz; (focus (simp; rfl)); (focus (intro u; first | rfl | (apply g_in; rfl; rfl; (focus (simp [*]; done))))); (focus (intro u; rfl)); (focus (intro H' u; simp [*]; refine ⟨_, _, ⟨rfl, rfl⟩, ?_, ?_⟩; (focus (simp; done)); (focus (first | exact Snap.flat (by simp) | exact Snap.ref_flat (by simp) rfl rfl rfl (by simp) (by simp) | exact Snap.slice_flat (by simp) rfl (by simp; rfl) (by simp) (by simp) | exact Snap.slice_flat (by simp) (by simp; exact ⟨rfl, rfl, rfl⟩) (by simp; rfl) (by simp) (by simp))))); (focus (simp only [List.nil_append, List.cons_append]; rfl)))
      | (apply a_mem; (focus (simp; rfl)); (focus (intro u; first | rfl | (apply g_in; rfl; rfl; (focus (simp [*]; done))))); (focus (intro u; rfl)); (focus (intro u; simp [*]; exact ⟨rfl, rfl⟩)); (focus (first | rfl | kernel_rfl)); (focus (simp only [List.nil_append, List.cons_append]; rfl)); (focus (simp; rfl))))
    all_goals (apply f_retf; (focus (simp [*]; rfl)); (focus (simp; done)); (focus (first | (simp [true_and, *]; done) | (simp_all [true_and]; done))))
def greatE (e : Ep) : Bool := decide ((20 : Int) < e.method.length) || decide ((8 : Int) < e.cors.length) || isGreat e.heads 6 50 || isGreat e.allow 6 50 || isGreat e.methods 6 20
theorem great_ok (e : Ep) : Ans L 21 [epD e] (.bool (greatE e)) := by
  refine fn_of_body L_ok (fn := Try.f21) rfl rfl rfl rfl (by kernel_rfl) ?_
  repeat' (first
    | apply w_seq
    | apply w_region
    | apply o_end
    | apply t_normal
    | (apply o_add; (focus (first | rfl | (apply g_in; rfl; rfl; (focus (simp [*]; done))))); (focus (simp [*]; rfl)); rfl; (focus (simp [*]; rfl)); rfl; (focus (apply wrap_i64 <;> omega)))
    | (apply o_sub; (focus (first | rfl | (apply g_in; rfl; rfl; (focus (simp [*]; done))))); (focus (simp [*]; rfl)); rfl; (focus (simp [*]; rfl)); rfl; (focus (apply wrap_i64 <;> omega)))
    | (apply o_val; (focus (first | rfl | (apply g_in; rfl; rfl; (focus (simp [*]; done))))); (focus (simp [*]; rfl)))
    | (apply o_fuse; (focus (first | rfl | (apply g_in; rfl; rfl; (focus (simp [*]; done))))); rfl; (focus (simp [*]; first | rfl | exact ⟨rfl, rfl⟩)); (focus (first | rfl | (apply g_in; rfl; rfl; (focus (simp [*]; done))))); rfl; (focus (simp [*]; first | rfl | exact ⟨rfl, rfl⟩ | exact ⟨rfl, rfl, rfl⟩)); (focus (intro d hd; apply Under.flat; revert hd; revert d; simp; done)))
    | (apply o_var; (focus (first | rfl | (apply g_in; rfl; rfl; (focus (simp [*]; done))))); (focus (simp [*]; exact ⟨rfl, rfl⟩)); (focus (simp; done)); (focus (first | exact Snap.flat (by simp) | exact Snap.ref_flat (by simp) rfl rfl rfl (by simp) (by simp) | exact Snap.slice_flat (by simp) rfl (by simp; rfl) (by simp) (by simp) | exact Snap.slice_flat (by simp) (by simp; exact ⟨rfl, rfl, rfl⟩) (by simp; rfl) (by simp) (by simp))))
    | (apply o_fn fine; (focus (first | rfl | (apply g_in; rfl; rfl; (focus (simp [*]; done))))); (focus (simp [*]; exact ⟨rfl, rfl⟩)); (focus (exact Great_ok e.heads 6 50 (by decide))); (focus (simp [*]; done)))
    | (apply o_fn fine; (focus (first | rfl | (apply g_in; rfl; rfl; (focus (simp [*]; done))))); (focus (simp [*]; exact ⟨rfl, rfl⟩)); (focus (exact Great_ok e.allow 6 50 (by decide))); (focus (simp [*]; done)))
    | (apply o_fn fine; (focus (first | rfl | (apply g_in; rfl; rfl; (focus (simp [*]; done))))); (focus (simp [*]; exact ⟨rfl, rfl⟩)); (focus (exact Great_ok e.methods 6 20 (by decide))); (focus (simp [*]; done)))
    | (apply o_mem; (focus (first | rfl | (apply g_in; rfl; rfl; (focus (simp [*]; done))))); rfl; (focus (simp [*]; exact ⟨rfl, rfl⟩)))
    | apply w_skip
    | apply w_block
    | apply b_normal
    | apply w_ret
    | apply t_ret
    | apply b_ret
    | apply w_exit
    | apply t_exit
    | apply b_here
    | (apply b_on; (focus decide))
    | (apply w_true; (focus (simp [*]; done)))
    | (apply w_false; (focus (simp [*]; done)))
    | ((apply w_cond; (focus (simp [*]; rfl)); rfl) <;> (intro hc; have hc' := hc; try simp at hc'))
    | (apply o_no; (focus (first | (apply g_out; rfl; rfl; (focus (simp [*]; done))) | (apply g_un; rfl; rfl; (focus (simp [*]; done))))))
    | ((apply o_if; rfl; rfl; (focus (simp [*]; rfl)); rfl) <;> (intro hg; (fail_if_success (guard_hyp hg : true = true)); (fail_if_success (guard_hyp hg : false = false)); have hg' := hg; try simp at hg'))
    | (apply w_drawA; rfl; (focus kernel_rfl); (focus (simp; rfl)); (focus (simp; rfl)))
    | (apply a_end; (focus (simp; rfl)))
    | (apply a_val; (focus (simp; rfl)); (focus (intro u; first | rfl | (apply g_in; rfl; rfl; (focus (simp [*]; done))))); (focus (intro H' u; simp [*]; rfl)); (focus (simp only [List.nil_append, List.cons_append]; rfl)))
    | (apply a_fn fine; (focus (simp; rfl)); (focus (intro u; first | rfl | (apply g_in; rfl; rfl; (focus (simp [*]; done))))); (focus (intro u; simp [*]; exact ⟨rfl, rfl⟩)); (focus (exact Great_ok e.heads 6 50 (by decide))); (focus (simp [*]; done)); (focus (simp only [List.nil_append, List.cons_append]; rfl)))
    | (apply a_fn fine; (focus (simp; rfl)); (focus (intro u; first | rfl | (apply g_in; rfl; rfl; (focus (simp [*]; done))))); (focus (intro u; simp [*]; exact ⟨rfl, rfl⟩)); (focus (exact Great_ok e.allow 6 50 (by decide))); (focus (simp [*]; done)); (focus (simp only [List.nil_append, List.cons_append]; rfl)))
    | (apply a_fn fine; (focus (simp; rfl)); (focus (intro u; first | rfl | (apply g_in; rfl; rfl; (focus (simp [*]; done))))); (focus (intro u; simp [*]; exact ⟨rfl, rfl⟩)); (focus (exact Great_ok e.methods 6 20 (by decide))); (focus (simp [*]; done)); (focus (simp only [List.nil_append, List.cons_append]; rfl)))
    | (apply a_tie; (focus (simp; rfl)); (focus (intro u; first | rfl | (apply g_in; rfl; rfl; (focus (simp [*]; done))))); (focus (intro u; simp [*]; rfl)); (focus (first | rfl | kernel_rfl)); (focus (simp only [List.nil_append, List.cons_append]; rfl)); (focus (simp; rfl)))
    | (apply a_no; (focus (simp; rfl)); (focus (intro u; first | (apply g_out; rfl; rfl; (focus (simp [*]; done))) | (apply g_un; rfl; rfl; (focus (simp [*]; done))))); (focus (simp only [List.nil_append, List.cons_append]; rfl)))
    | ((apply a_if; (focus (simp; rfl)); rfl; rfl; (focus (intro u; simp [*]; rfl)); rfl) <;> (intro hg; (fail_if_success (guard_hyp hg : true = true)); (fail_if_success (guard_hyp hg : false = false)); have hg' := hg; try simp at hg'))
    | (apply a_frz; (focus (simp; rfl)); (focus (intro u; first | rfl | (apply g_in; rfl; rfl; (focus (simp [*]; done))))); (focus (intro u; rfl)); (focus (intro H' u; simp [*]; refine ⟨_, _, ⟨rfl, rfl⟩, ?_, ?_⟩; (focus (simp; done)); (focus (first | exact Snap.flat (by simp) | exact Snap.ref_flat (by simp) rfl rfl rfl (by simp) (by simp) | exact Snap.slice_flat (by simp) rfl (by simp; rfl) (by simp) (by simp) | exact Snap.slice_flat (by simp) (by simp; exact ⟨rfl, rfl, rfl⟩) (by simp; rfl) (by simp) (by simp))))); (focus (simp only [List.nil_append, List.cons_append]; rfl)))
    | (apply a_mem; (focus (simp; rfl)); (focus (intro u; first | rfl | (apply g_in; rfl; rfl; (focus (simp [*]; done))))); (focus (intro u; rfl)); (focus (intro u; simp [*]; exact ⟨rfl, rfl⟩)); (focus (first | rfl | kernel_rfl)); (focus (simp only [List.nil_append, List.cons_append]; rfl)); (focus (simp; rfl))))
  all_goals (apply f_retf; (focus (simp [*]; rfl)); (focus (simp; done)); (focus (first | (simp [greatE, *]; done) | (simp_all [greatE]; done))))

theorem In_as (s : List UInt8) (l : List (List UInt8)) (hn : l.length < 1000000000000) : Ans L 30 [.str s, textsL l] (.bool (l.any fun x => s == x)) := by
  have h : isIn s l = l.any fun x => s == x := by
    unfold isIn
    congr 1
    funext x
    exact Bool.beq_comm
  exact h ▸ In_ok s l hn
theorem RefMay_ok (e : Ep) (b : Int) (c heads : Bool) (ok : e.Ok) : Ans L 28 [epD e, .int .i64 b, .bool c, .bool heads] (.bool (may e b c heads)) := by
  refine fn_of_body L_ok (fn := Try.f28) rfl rfl rfl rfl (by kernel_rfl) ?_
  have a1 := RefAhead_ok e b heads ok
  have a2 := RefLets_ok e b c ok.cors
  have a3 := In_as e.method e.methods ok.methods
  have hh := ok.headss
  have hhn := ok.heads
  have ha := ok.allows
  have han := ok.allow
  clear ok
  obtain ⟨q, hq⟩ : ∃ q, q = e.methods.any (fun x => e.method == x) := ⟨_, rfl⟩
  have hmay : may e b c heads = (!ahead e b heads || (lets e b c && (isMethod e.method || q) && (asked e heads).all (isAllowed e))) := by rw [hq, may]
  rw [← hq] at a3
  clear hq
  repeat' (first
    | apply w_seq
    | apply w_region
    | apply o_end
    | apply t_normal
    | (apply o_add; (focus (first | rfl | (apply g_in; rfl; rfl; (focus (simp [*]; done))))); (focus (simp [*]; rfl)); rfl; (focus (simp [*]; rfl)); rfl; (focus (apply wrap_i64 <;> omega)))
    | (apply o_sub; (focus (first | rfl | (apply g_in; rfl; rfl; (focus (simp [*]; done))))); (focus (simp [*]; rfl)); rfl; (focus (simp [*]; rfl)); rfl; (focus (apply wrap_i64 <;> omega)))
    | (apply o_val; (focus (first | rfl | (apply g_in; rfl; rfl; (focus (simp [*]; done))))); (focus (simp [*]; rfl)))
    | (apply o_fuse; (focus (first | rfl | (apply g_in; rfl; rfl; (focus (simp [*]; done))))); rfl; (focus (simp [*]; first | rfl | exact ⟨rfl, rfl⟩)); (focus (first | rfl | (apply g_in; rfl; rfl; (focus (simp [*]; done))))); rfl; (focus (simp [*]; first | rfl | exact ⟨rfl, rfl⟩ | exact ⟨rfl, rfl, rfl⟩)); (focus (intro d hd; apply Under.flat; revert hd; revert d; simp; done)))
    | (apply o_var; (focus (first | rfl | (apply g_in; rfl; rfl; (focus (simp [*]; done))))); (focus (simp [*]; exact ⟨rfl, rfl⟩)); (focus (simp; done)); (focus (first | exact Snap.flat (by simp) | exact Snap.ref_flat (by simp) rfl rfl rfl (by simp) (by simp) | exact Snap.slice_flat (by simp) rfl (by simp; rfl) (by simp) (by simp) | exact Snap.slice_flat (by simp) (by simp; exact ⟨rfl, rfl, rfl⟩) (by simp; rfl) (by simp) (by simp))))
    | (apply o_fn fine; (focus (first | rfl | (apply g_in; rfl; rfl; (focus (simp [*]; done))))); (focus (simp [*]; exact ⟨rfl, rfl⟩)); (focus (exact a1)); (focus (simp [*]; done)))
    | (apply o_fn fine; (focus (first | rfl | (apply g_in; rfl; rfl; (focus (simp [*]; done))))); (focus (simp [*]; exact ⟨rfl, rfl⟩)); (focus (exact a2)); (focus (simp [*]; done)))
    | (apply o_fn fine; (focus (first | rfl | (apply g_in; rfl; rfl; (focus (simp [*]; done))))); (focus (simp [*]; exact ⟨rfl, rfl⟩)); (focus (exact RefSafe_as _)); (focus (simp [*]; done)))
    | (apply o_fn fine; (focus (first | rfl | (apply g_in; rfl; rfl; (focus (simp [*]; done))))); (focus (simp [*]; exact ⟨rfl, rfl⟩)); (focus (exact a3)); (focus (simp [*]; done)))
    | (apply o_mem; (focus (first | rfl | (apply g_in; rfl; rfl; (focus (simp [*]; done))))); rfl; (focus (simp [*]; exact ⟨rfl, rfl⟩)))
    | apply w_skip
    | apply w_block
    | apply b_normal
    | apply w_ret
    | apply t_ret
    | apply b_ret
    | apply w_exit
    | apply t_exit
    | apply b_here
    | (apply b_on; (focus decide))
    | (apply w_true; (focus (simp [*]; done)))
    | (apply w_false; (focus (simp [*]; done)))
    | ((apply w_cond; (focus (simp [*]; rfl)); rfl) <;> (intro hc; have hc' := hc; try simp at hc'))
    | (apply o_no; (focus (first | (apply g_out; rfl; rfl; (focus (simp [*]; done))) | (apply g_un; rfl; rfl; (focus (simp [*]; done))))))
    | ((apply o_if; rfl; rfl; (focus (simp [*]; rfl)); rfl) <;> (intro hg; (fail_if_success (guard_hyp hg : true = true)); (fail_if_success (guard_hyp hg : false = false)); have hg' := hg; try simp at hg'))
    | (apply w_drawA; rfl; (focus kernel_rfl); (focus (simp; rfl)); (focus (simp; rfl)))
    | (apply a_end; (focus (simp; rfl)))
    | (apply a_val; (focus (simp; rfl)); (focus (intro u; first | rfl | (apply g_in; rfl; rfl; (focus (simp [*]; done))))); (focus (intro H' u; simp [*]; rfl)); (focus (simp only [List.nil_append, List.cons_append]; rfl)))
    | (apply a_fn fine; (focus (simp; rfl)); (focus (intro u; first | rfl | (apply g_in; rfl; rfl; (focus (simp [*]; done))))); (focus (intro u; simp [*]; exact ⟨rfl, rfl⟩)); (focus (exact a1)); (focus (simp [*]; done)); (focus (simp only [List.nil_append, List.cons_append]; rfl)))
    | (apply a_fn fine; (focus (simp; rfl)); (focus (intro u; first | rfl | (apply g_in; rfl; rfl; (focus (simp [*]; done))))); (focus (intro u; simp [*]; exact ⟨rfl, rfl⟩)); (focus (exact a2)); (focus (simp [*]; done)); (focus (simp only [List.nil_append, List.cons_append]; rfl)))
    | (apply a_fn fine; (focus (simp; rfl)); (focus (intro u; first | rfl | (apply g_in; rfl; rfl; (focus (simp [*]; done))))); (focus (intro u; simp [*]; exact ⟨rfl, rfl⟩)); (focus (exact RefSafe_as _)); (focus (simp [*]; done)); (focus (simp only [List.nil_append, List.cons_append]; rfl)))
    | (apply a_fn fine; (focus (simp; rfl)); (focus (intro u; first | rfl | (apply g_in; rfl; rfl; (focus (simp [*]; done))))); (focus (intro u; simp [*]; exact ⟨rfl, rfl⟩)); (focus (exact a3)); (focus (simp [*]; done)); (focus (simp only [List.nil_append, List.cons_append]; rfl)))
    | (apply a_tie; (focus (simp; rfl)); (focus (intro u; first | rfl | (apply g_in; rfl; rfl; (focus (simp [*]; done))))); (focus (intro u; simp [*]; rfl)); (focus (first | rfl | kernel_rfl)); (focus (simp only [List.nil_append, List.cons_append]; rfl)); (focus (simp; rfl)))
    | (apply a_no; (focus (simp; rfl)); (focus (intro u; first | (apply g_out; rfl; rfl; (focus (simp [*]; done))) | (apply g_un; rfl; rfl; (focus (simp [*]; done))))); (focus (simp only [List.nil_append, List.cons_append]; rfl)))
    | ((apply a_if; (focus (simp; rfl)); rfl; rfl; (focus (intro u; simp [*]; rfl)); rfl) <;> (intro hg; (fail_if_success (guard_hyp hg : true = true)); (fail_if_success (guard_hyp hg : false = false)); have hg' := hg; try simp at hg'))
    | (apply a_frz; (focus (simp; rfl)); (focus (intro u; first | rfl | (apply g_in; rfl; rfl; (focus (simp [*]; done))))); (focus (intro u; rfl)); (focus (intro H' u; simp [*]; refine ⟨_, _, ⟨rfl, rfl⟩, ?_, ?_⟩; (focus (simp; done)); (focus (first | exact Snap.flat (by simp) | exact Snap.ref_flat (by simp) rfl rfl rfl (by simp) (by simp) | exact Snap.slice_flat (by simp) rfl (by simp; rfl) (by simp) (by simp) | exact Snap.slice_flat (by simp) (by simp; exact ⟨rfl, rfl, rfl⟩) (by simp; rfl) (by simp) (by simp))))); (focus (simp only [List.nil_append, List.cons_append]; rfl)))
    | (apply a_mem; (focus (simp; rfl)); (focus (intro u; first | rfl | (apply g_in; rfl; rfl; (focus (simp [*]; done))))); (focus (intro u; rfl)); (focus (intro u; simp [*]; exact ⟨rfl, rfl⟩)); (focus (first | rfl | kernel_rfl)); (focus (simp only [List.nil_append, List.cons_append]; rfl)); (focus (simp; rfl))))
  any_goals (apply f_retf; (focus (simp [*]; rfl)); (focus (simp; done)); (focus (simp [*]; done)))
  all_goals refine w_loop (fun n f H => ∃ (i : Nat), i ≤ e.heads.length ∧ n = e.heads.length - i ∧ H = [] ∧ (heads = true → (e.heads.take i).all (isAllowed e) = true) ∧ f 3 = .bool heads ∧ f 4 = .box (epC e) ∧ f 9 = .int .i64 i) e.heads.length ⟨0, by simp⟩ ?_
  all_goals rintro n f H ⟨i, hi, rfl, rfl, hp, h3, h4, h9⟩
  all_goals cases heads
  · by_cases hlt : i < e.heads.length
    · skip
      repeat' (first
        | apply w_seq
        | apply w_region
        | apply o_end
        | apply t_normal
        | (apply o_add; (focus (first | rfl | (apply g_in; rfl; rfl; (focus (simp [*]; done))))); (focus (simp [*]; rfl)); rfl; (focus (simp [*]; rfl)); rfl; (focus (apply wrap_i64 <;> omega)))
        | (apply o_sub; (focus (first | rfl | (apply g_in; rfl; rfl; (focus (simp [*]; done))))); (focus (simp [*]; rfl)); rfl; (focus (simp [*]; rfl)); rfl; (focus (apply wrap_i64 <;> omega)))
        | (apply o_val; (focus (first | rfl | (apply g_in; rfl; rfl; (focus (simp [*]; done))))); (focus (simp [*]; rfl)))
        | (apply o_fuse; (focus (first | rfl | (apply g_in; rfl; rfl; (focus (simp [*]; done))))); rfl; (focus (simp [*]; first | rfl | exact ⟨rfl, rfl⟩)); (focus (first | rfl | (apply g_in; rfl; rfl; (focus (simp [*]; done))))); rfl; (focus (simp [*]; first | rfl | exact ⟨rfl, rfl⟩ | exact ⟨rfl, rfl, rfl⟩)); (focus (intro d hd; apply Under.flat; revert hd; revert d; simp; done)))
        | (apply o_mem; (focus (first | rfl | (apply g_in; rfl; rfl; (focus (simp [*]; done))))); rfl; (focus (simp [*]; exact ⟨rfl, rfl⟩)))
        | apply w_skip
        | apply w_block
        | apply b_normal
        | apply w_ret
        | apply t_ret
        | apply b_ret
        | apply w_exit
        | apply t_exit
        | apply b_here
        | (apply b_on; (focus decide))
        | (apply w_true; (focus (simp [*]; done)))
        | (apply w_false; (focus (simp [*]; done)))
        | ((apply w_cond; (focus (simp [*]; rfl)); rfl) <;> (intro hc; have hc' := hc; try simp at hc'))
        | (apply o_no; (focus (first | (apply g_out; rfl; rfl; (focus (simp [*]; done))) | (apply g_un; rfl; rfl; (focus (simp [*]; done))))))
        | ((apply o_if; rfl; rfl; (focus (simp [*]; rfl)); rfl) <;> (intro hg; (fail_if_success (guard_hyp hg : true = true)); (fail_if_success (guard_hyp hg : false = false)); have hg' := hg; try simp at hg'))
        | (apply w_drawA; rfl; (focus kernel_rfl); (focus (simp; rfl)); (focus (simp; rfl)))
        | (apply a_end; (focus (simp; rfl)))
        | (apply a_val; (focus (simp; rfl)); (focus (intro u; first | rfl | (apply g_in; rfl; rfl; (focus (simp [*]; done))))); (focus (intro H' u; simp [*]; rfl)); (focus (simp only [List.nil_append, List.cons_append]; rfl)))
        | (apply a_tie; (focus (simp; rfl)); (focus (intro u; first | rfl | (apply g_in; rfl; rfl; (focus (simp [*]; done))))); (focus (intro u; simp [*]; rfl)); (focus (first | rfl | kernel_rfl)); (focus (simp only [List.nil_append, List.cons_append]; rfl)); (focus (simp; rfl)))
        | (apply a_no; (focus (simp; rfl)); (focus (intro u; first | (apply g_out; rfl; rfl; (focus (simp [*]; done))) | (apply g_un; rfl; rfl; (focus (simp [*]; done))))); (focus (simp only [List.nil_append, List.cons_append]; rfl)))
        | ((apply a_if; (focus (simp; rfl)); rfl; rfl; (focus (intro u; simp [*]; rfl)); rfl) <;> (intro hg; (fail_if_success (guard_hyp hg : true = true)); (fail_if_success (guard_hyp hg : false = false)); have hg' := hg; try simp at hg'))
        | (apply a_frz; (focus (simp; rfl)); (focus (intro u; first | rfl | (apply g_in; rfl; rfl; (focus (simp [*]; done))))); (focus (intro u; rfl)); (focus (intro H' u; simp [*]; refine ⟨_, _, ⟨rfl, rfl⟩, ?_, ?_⟩; (focus (simp; done)); (focus (first | exact Snap.flat (by simp) | exact Snap.ref_flat (by simp) rfl rfl rfl (by simp) (by simp) | exact Snap.slice_flat (by simp) rfl (by simp; rfl) (by simp) (by simp) | exact Snap.slice_flat (by simp) (by simp; exact ⟨rfl, rfl, rfl⟩) (by simp; rfl) (by simp) (by simp))))); (focus (simp only [List.nil_append, List.cons_append]; rfl)))
        | (apply a_mem; (focus (simp; rfl)); (focus (intro u; first | rfl | (apply g_in; rfl; rfl; (focus (simp [*]; done))))); (focus (intro u; rfl)); (focus (intro u; simp [*]; exact ⟨rfl, rfl⟩)); (focus (first | rfl | kernel_rfl)); (focus (simp only [List.nil_append, List.cons_append]; rfl)); (focus (simp; rfl))))
      all_goals (apply f_retf; (focus (simp [*]; rfl)); (focus (simp; done)); (focus (rw [hmay]; simp [asked, *]; done)))
    · skip
      repeat' (first
        | apply w_seq
        | apply w_region
        | apply o_end
        | apply t_normal
        | (apply o_add; (focus (first | rfl | (apply g_in; rfl; rfl; (focus (simp [*]; done))))); (focus (simp [*]; rfl)); rfl; (focus (simp [*]; rfl)); rfl; (focus (apply wrap_i64 <;> omega)))
        | (apply o_sub; (focus (first | rfl | (apply g_in; rfl; rfl; (focus (simp [*]; done))))); (focus (simp [*]; rfl)); rfl; (focus (simp [*]; rfl)); rfl; (focus (apply wrap_i64 <;> omega)))
        | (apply o_val; (focus (first | rfl | (apply g_in; rfl; rfl; (focus (simp [*]; done))))); (focus (simp [*]; rfl)))
        | (apply o_fuse; (focus (first | rfl | (apply g_in; rfl; rfl; (focus (simp [*]; done))))); rfl; (focus (simp [*]; first | rfl | exact ⟨rfl, rfl⟩)); (focus (first | rfl | (apply g_in; rfl; rfl; (focus (simp [*]; done))))); rfl; (focus (simp [*]; first | rfl | exact ⟨rfl, rfl⟩ | exact ⟨rfl, rfl, rfl⟩)); (focus (intro d hd; apply Under.flat; revert hd; revert d; simp; done)))
        | (apply o_mem; (focus (first | rfl | (apply g_in; rfl; rfl; (focus (simp [*]; done))))); rfl; (focus (simp [*]; exact ⟨rfl, rfl⟩)))
        | apply w_skip
        | apply w_block
        | apply b_normal
        | apply w_ret
        | apply t_ret
        | apply b_ret
        | apply w_exit
        | apply t_exit
        | apply b_here
        | (apply b_on; (focus decide))
        | (apply w_true; (focus (simp [*]; done)))
        | (apply w_false; (focus (simp [*]; done)))
        | ((apply w_cond; (focus (simp [*]; rfl)); rfl) <;> (intro hc; have hc' := hc; try simp at hc'))
        | (apply o_no; (focus (first | (apply g_out; rfl; rfl; (focus (simp [*]; done))) | (apply g_un; rfl; rfl; (focus (simp [*]; done))))))
        | ((apply o_if; rfl; rfl; (focus (simp [*]; rfl)); rfl) <;> (intro hg; (fail_if_success (guard_hyp hg : true = true)); (fail_if_success (guard_hyp hg : false = false)); have hg' := hg; try simp at hg'))
        | (apply w_drawA; rfl; (focus kernel_rfl); (focus (simp; rfl)); (focus (simp; rfl)))
        | (apply a_end; (focus (simp; rfl)))
        | (apply a_val; (focus (simp; rfl)); (focus (intro u; first | rfl | (apply g_in; rfl; rfl; (focus (simp [*]; done))))); (focus (intro H' u; simp [*]; rfl)); (focus (simp only [List.nil_append, List.cons_append]; rfl)))
        | (apply a_tie; (focus (simp; rfl)); (focus (intro u; first | rfl | (apply g_in; rfl; rfl; (focus (simp [*]; done))))); (focus (intro u; simp [*]; rfl)); (focus (first | rfl | kernel_rfl)); (focus (simp only [List.nil_append, List.cons_append]; rfl)); (focus (simp; rfl)))
        | (apply a_no; (focus (simp; rfl)); (focus (intro u; first | (apply g_out; rfl; rfl; (focus (simp [*]; done))) | (apply g_un; rfl; rfl; (focus (simp [*]; done))))); (focus (simp only [List.nil_append, List.cons_append]; rfl)))
        | ((apply a_if; (focus (simp; rfl)); rfl; rfl; (focus (intro u; simp [*]; rfl)); rfl) <;> (intro hg; (fail_if_success (guard_hyp hg : true = true)); (fail_if_success (guard_hyp hg : false = false)); have hg' := hg; try simp at hg'))
        | (apply a_frz; (focus (simp; rfl)); (focus (intro u; first | rfl | (apply g_in; rfl; rfl; (focus (simp [*]; done))))); (focus (intro u; rfl)); (focus (intro H' u; simp [*]; refine ⟨_, _, ⟨rfl, rfl⟩, ?_, ?_⟩; (focus (simp; done)); (focus (first | exact Snap.flat (by simp) | exact Snap.ref_flat (by simp) rfl rfl rfl (by simp) (by simp) | exact Snap.slice_flat (by simp) rfl (by simp; rfl) (by simp) (by simp) | exact Snap.slice_flat (by simp) (by simp; exact ⟨rfl, rfl, rfl⟩) (by simp; rfl) (by simp) (by simp))))); (focus (simp only [List.nil_append, List.cons_append]; rfl)))
        | (apply a_mem; (focus (simp; rfl)); (focus (intro u; first | rfl | (apply g_in; rfl; rfl; (focus (simp [*]; done))))); (focus (intro u; rfl)); (focus (intro u; simp [*]; exact ⟨rfl, rfl⟩)); (focus (first | rfl | kernel_rfl)); (focus (simp only [List.nil_append, List.cons_append]; rfl)); (focus (simp; rfl))))
      all_goals (apply f_retf; (focus (simp [*]; rfl)); (focus (simp; done)); (focus (rw [hmay]; simp [asked, *]; done)))
  · have hp' := hp rfl
    clear hp
    by_cases hlt : i < e.heads.length
    · have hlen := hh _ (List.getElem_mem hlt)
      repeat' (first
        | apply w_seq
        | apply w_region
        | apply o_end
        | apply t_normal
        | (apply o_add; (focus (first | rfl | (apply g_in; rfl; rfl; (focus (simp [*]; done))))); (focus (simp [*]; rfl)); rfl; (focus (simp [*]; rfl)); rfl; (focus (apply wrap_i64 <;> omega)))
        | (apply o_sub; (focus (first | rfl | (apply g_in; rfl; rfl; (focus (simp [*]; done))))); (focus (simp [*]; rfl)); rfl; (focus (simp [*]; rfl)); rfl; (focus (apply wrap_i64 <;> omega)))
        | (apply o_val; (focus (first | rfl | (apply g_in; rfl; rfl; (focus (simp [*]; done))))); (focus (simp [*]; rfl)))
        | (apply o_fuse; (focus (first | rfl | (apply g_in; rfl; rfl; (focus (simp [*]; done))))); rfl; (focus (simp [*]; first | rfl | exact ⟨rfl, rfl⟩)); (focus (first | rfl | (apply g_in; rfl; rfl; (focus (simp [*]; done))))); rfl; (focus (simp [*]; first | rfl | exact ⟨rfl, rfl⟩ | exact ⟨rfl, rfl, rfl⟩)); (focus (intro d hd; apply Under.flat; revert hd; revert d; simp; done)))
        | (apply o_fn fine; (focus (first | rfl | (apply g_in; rfl; rfl; (focus (simp [*]; done))))); (focus (simp [*]; exact ⟨rfl, rfl⟩)); (focus (exact RefHead_as _ hlen)); (focus (simp [*]; done)))
        | (apply o_mem; (focus (first | rfl | (apply g_in; rfl; rfl; (focus (simp [*]; done))))); rfl; (focus (simp [*]; exact ⟨rfl, rfl⟩)))
        | apply w_skip
        | apply w_block
        | apply b_normal
        | apply w_ret
        | apply t_ret
        | apply b_ret
        | apply w_exit
        | apply t_exit
        | apply b_here
        | (apply b_on; (focus decide))
        | (apply w_true; (focus (simp [*]; done)))
        | (apply w_false; (focus (simp [*]; done)))
        | ((apply w_cond; (focus (simp [*]; rfl)); rfl) <;> (intro hc; have hc' := hc; try simp at hc'))
        | (apply o_no; (focus (first | (apply g_out; rfl; rfl; (focus (simp [*]; done))) | (apply g_un; rfl; rfl; (focus (simp [*]; done))))))
        | ((apply o_if; rfl; rfl; (focus (simp [*]; rfl)); rfl) <;> (intro hg; (fail_if_success (guard_hyp hg : true = true)); (fail_if_success (guard_hyp hg : false = false)); have hg' := hg; try simp at hg'))
        | (apply w_drawA; rfl; (focus kernel_rfl); (focus (simp; rfl)); (focus (simp; rfl)))
        | (apply a_end; (focus (simp; rfl)))
        | (apply a_val; (focus (simp; rfl)); (focus (intro u; first | rfl | (apply g_in; rfl; rfl; (focus (simp [*]; done))))); (focus (intro H' u; simp [*]; rfl)); (focus (simp only [List.nil_append, List.cons_append]; rfl)))
        | (apply a_fn fine; (focus (simp; rfl)); (focus (intro u; first | rfl | (apply g_in; rfl; rfl; (focus (simp [*]; done))))); (focus (intro u; simp [*]; exact ⟨rfl, rfl⟩)); (focus (exact RefHead_as _ hlen)); (focus (simp [*]; done)); (focus (simp only [List.nil_append, List.cons_append]; rfl)))
        | (apply a_tie; (focus (simp; rfl)); (focus (intro u; first | rfl | (apply g_in; rfl; rfl; (focus (simp [*]; done))))); (focus (intro u; simp [*]; rfl)); (focus (first | rfl | kernel_rfl)); (focus (simp only [List.nil_append, List.cons_append]; rfl)); (focus (simp; rfl)))
        | (apply a_no; (focus (simp; rfl)); (focus (intro u; first | (apply g_out; rfl; rfl; (focus (simp [*]; done))) | (apply g_un; rfl; rfl; (focus (simp [*]; done))))); (focus (simp only [List.nil_append, List.cons_append]; rfl)))
        | ((apply a_if; (focus (simp; rfl)); rfl; rfl; (focus (intro u; simp [*]; rfl)); rfl) <;> (intro hg; (fail_if_success (guard_hyp hg : true = true)); (fail_if_success (guard_hyp hg : false = false)); have hg' := hg; try simp at hg'))
        | (apply a_frz; (focus (simp; rfl)); (focus (intro u; first | rfl | (apply g_in; rfl; rfl; (focus (simp [*]; done))))); (focus (intro u; rfl)); (focus (intro H' u; simp [*]; refine ⟨_, _, ⟨rfl, rfl⟩, ?_, ?_⟩; (focus (simp; done)); (focus (first | exact Snap.flat (by simp) | exact Snap.ref_flat (by simp) rfl rfl rfl (by simp) (by simp) | exact Snap.slice_flat (by simp) rfl (by simp; rfl) (by simp) (by simp) | exact Snap.slice_flat (by simp) (by simp; exact ⟨rfl, rfl, rfl⟩) (by simp; rfl) (by simp) (by simp))))); (focus (simp only [List.nil_append, List.cons_append]; rfl)))
        | (apply a_mem; (focus (simp; rfl)); (focus (intro u; first | rfl | (apply g_in; rfl; rfl; (focus (simp [*]; done))))); (focus (intro u; rfl)); (focus (intro u; simp [*]; exact ⟨rfl, rfl⟩)); (focus (first | rfl | kernel_rfl)); (focus (simp only [List.nil_append, List.cons_append]; rfl)); (focus (simp; rfl))))
      refine w_loop (fun n f H => ∃ (k : Nat), k ≤ e.allow.length ∧ n = e.allow.length - k ∧ H = [] ∧ f 3 = .bool true ∧ f 4 = .box (epC e) ∧ f 9 = .int .i64 i ∧ f 10 = .bool (isHead e.heads[i] || (e.allow.take k).any (fun s => lower s == lower e.heads[i])) ∧ f 11 = .int .i64 k) e.allow.length ⟨0, by simp [*]⟩ ?_
      rintro n f H ⟨k, hk, rfl, rfl, h3, h4, h9, h10, h11⟩
      by_cases hkt : k < e.allow.length
      · have hlen2 := ha _ (List.getElem_mem hkt)
        have hst : (e.allow.take (k + 1)).any (fun s => lower s == lower e.heads[i]) = ((e.allow.take k).any (fun s => lower s == lower e.heads[i]) || lower e.allow[k] == lower e.heads[i]) := by
          rw [List.take_succ_eq_append_getElem hkt, List.any_append]
          simp
        obtain ⟨t, ht⟩ : ∃ t, t = (e.allow.take k).any (fun s => lower s == lower e.heads[i]) := ⟨_, rfl⟩
        rw [← ht] at h10 hst
        clear ht
        repeat' (first
          | apply w_seq
          | apply w_region
          | apply o_end
          | apply t_normal
          | (apply o_add; (focus (first | rfl | (apply g_in; rfl; rfl; (focus (simp [*]; done))))); (focus (simp [*]; rfl)); rfl; (focus (simp [*]; rfl)); rfl; (focus (apply wrap_i64 <;> omega)))
          | (apply o_sub; (focus (first | rfl | (apply g_in; rfl; rfl; (focus (simp [*]; done))))); (focus (simp [*]; rfl)); rfl; (focus (simp [*]; rfl)); rfl; (focus (apply wrap_i64 <;> omega)))
          | (apply o_val; (focus (first | rfl | (apply g_in; rfl; rfl; (focus (simp [*]; done))))); (focus (simp [*]; rfl)))
          | (apply o_fuse; (focus (first | rfl | (apply g_in; rfl; rfl; (focus (simp [*]; done))))); rfl; (focus (simp [*]; first | rfl | exact ⟨rfl, rfl⟩)); (focus (first | rfl | (apply g_in; rfl; rfl; (focus (simp [*]; done))))); rfl; (focus (simp [*]; first | rfl | exact ⟨rfl, rfl⟩ | exact ⟨rfl, rfl, rfl⟩)); (focus (intro d hd; apply Under.flat; revert hd; revert d; simp; done)))
          | (apply o_fn fine; (focus (first | rfl | (apply g_in; rfl; rfl; (focus (simp [*]; done))))); (focus (simp [*]; exact ⟨rfl, rfl⟩)); (focus (exact RefLower_ok _ hlen2)); (focus (simp [*]; done)))
          | (apply o_fn fine; (focus (first | rfl | (apply g_in; rfl; rfl; (focus (simp [*]; done))))); (focus (simp [*]; exact ⟨rfl, rfl⟩)); (focus (exact RefLower_ok _ hlen)); (focus (simp [*]; done)))
          | (apply o_mem; (focus (first | rfl | (apply g_in; rfl; rfl; (focus (simp [*]; done))))); rfl; (focus (simp [*]; exact ⟨rfl, rfl⟩)))
          | apply w_skip
          | apply w_block
          | apply b_normal
          | apply w_ret
          | apply t_ret
          | apply b_ret
          | apply w_exit
          | apply t_exit
          | apply b_here
          | (apply b_on; (focus decide))
          | (apply w_true; (focus (simp [*]; done)))
          | (apply w_false; (focus (simp [*]; done)))
          | ((apply w_cond; (focus (simp [*]; rfl)); rfl) <;> (intro hc; have hc' := hc; try simp at hc'))
          | (apply o_no; (focus (first | (apply g_out; rfl; rfl; (focus (simp [*]; done))) | (apply g_un; rfl; rfl; (focus (simp [*]; done))))))
          | ((apply o_if; rfl; rfl; (focus (simp [*]; rfl)); rfl) <;> (intro hg; (fail_if_success (guard_hyp hg : true = true)); (fail_if_success (guard_hyp hg : false = false)); have hg' := hg; try simp at hg'))
          | (apply w_drawA; rfl; (focus kernel_rfl); (focus (simp; rfl)); (focus (simp; rfl)))
          | (apply a_end; (focus (simp; rfl)))
          | (apply a_val; (focus (simp; rfl)); (focus (intro u; first | rfl | (apply g_in; rfl; rfl; (focus (simp [*]; done))))); (focus (intro H' u; simp [*]; rfl)); (focus (simp only [List.nil_append, List.cons_append]; rfl)))
          | (apply a_fn fine; (focus (simp; rfl)); (focus (intro u; first | rfl | (apply g_in; rfl; rfl; (focus (simp [*]; done))))); (focus (intro u; simp [*]; exact ⟨rfl, rfl⟩)); (focus (exact RefLower_ok _ hlen2)); (focus (simp [*]; done)); (focus (simp only [List.nil_append, List.cons_append]; rfl)))
          | (apply a_fn fine; (focus (simp; rfl)); (focus (intro u; first | rfl | (apply g_in; rfl; rfl; (focus (simp [*]; done))))); (focus (intro u; simp [*]; exact ⟨rfl, rfl⟩)); (focus (exact RefLower_ok _ hlen)); (focus (simp [*]; done)); (focus (simp only [List.nil_append, List.cons_append]; rfl)))
          | (apply a_tie; (focus (simp; rfl)); (focus (intro u; first | rfl | (apply g_in; rfl; rfl; (focus (simp [*]; done))))); (focus (intro u; simp [*]; rfl)); (focus (first | rfl | kernel_rfl)); (focus (simp only [List.nil_append, List.cons_append]; rfl)); (focus (simp; rfl)))
          | (apply a_no; (focus (simp; rfl)); (focus (intro u; first | (apply g_out; rfl; rfl; (focus (simp [*]; done))) | (apply g_un; rfl; rfl; (focus (simp [*]; done))))); (focus (simp only [List.nil_append, List.cons_append]; rfl)))
          | ((apply a_if; (focus (simp; rfl)); rfl; rfl; (focus (intro u; simp [*]; rfl)); rfl) <;> (intro hg; (fail_if_success (guard_hyp hg : true = true)); (fail_if_success (guard_hyp hg : false = false)); have hg' := hg; try simp at hg'))
          | (apply a_frz; (focus (simp; rfl)); (focus (intro u; first | rfl | (apply g_in; rfl; rfl; (focus (simp [*]; done))))); (focus (intro u; rfl)); (focus (intro H' u; simp [*]; refine ⟨_, _, ⟨rfl, rfl⟩, ?_, ?_⟩; (focus (simp; done)); (focus (first | exact Snap.flat (by simp) | exact Snap.ref_flat (by simp) rfl rfl rfl (by simp) (by simp) | exact Snap.slice_flat (by simp) rfl (by simp; rfl) (by simp) (by simp) | exact Snap.slice_flat (by simp) (by simp; exact ⟨rfl, rfl, rfl⟩) (by simp; rfl) (by simp) (by simp))))); (focus (simp only [List.nil_append, List.cons_append]; rfl)))
          | (apply a_mem; (focus (simp; rfl)); (focus (intro u; first | rfl | (apply g_in; rfl; rfl; (focus (simp [*]; done))))); (focus (intro u; rfl)); (focus (intro u; simp [*]; exact ⟨rfl, rfl⟩)); (focus (first | rfl | kernel_rfl)); (focus (simp only [List.nil_append, List.cons_append]; rfl)); (focus (simp; rfl))))
        all_goals refine ⟨e.allow.length - (k + 1), by omega, k + 1, by omega, rfl, rfl, by simp [*], by simp [*], by simp [*], ?_, by simp [*]⟩
        all_goals rw [hst]
        all_goals first | (simp [*]; done) | (simp_all; done) | (simp_all; rcases hg' with z | z <;> simp [z])
      · have hst : isAllowed e e.heads[i] = (isHead e.heads[i] || (e.allow.take k).any (fun s => lower s == lower e.heads[i])) := by
          rw [List.take_of_length_le (by omega), isAllowed]
        rw [← hst] at h10
        clear hst
        repeat' (first
          | apply w_seq
          | apply w_region
          | apply o_end
          | apply t_normal
          | (apply o_add; (focus (first | rfl | (apply g_in; rfl; rfl; (focus (simp [*]; done))))); (focus (simp [*]; rfl)); rfl; (focus (simp [*]; rfl)); rfl; (focus (apply wrap_i64 <;> omega)))
          | (apply o_sub; (focus (first | rfl | (apply g_in; rfl; rfl; (focus (simp [*]; done))))); (focus (simp [*]; rfl)); rfl; (focus (simp [*]; rfl)); rfl; (focus (apply wrap_i64 <;> omega)))
          | (apply o_val; (focus (first | rfl | (apply g_in; rfl; rfl; (focus (simp [*]; done))))); (focus (simp [*]; rfl)))
          | (apply o_fuse; (focus (first | rfl | (apply g_in; rfl; rfl; (focus (simp [*]; done))))); rfl; (focus (simp [*]; first | rfl | exact ⟨rfl, rfl⟩)); (focus (first | rfl | (apply g_in; rfl; rfl; (focus (simp [*]; done))))); rfl; (focus (simp [*]; first | rfl | exact ⟨rfl, rfl⟩ | exact ⟨rfl, rfl, rfl⟩)); (focus (intro d hd; apply Under.flat; revert hd; revert d; simp; done)))
          | (apply o_mem; (focus (first | rfl | (apply g_in; rfl; rfl; (focus (simp [*]; done))))); rfl; (focus (simp [*]; exact ⟨rfl, rfl⟩)))
          | apply w_skip
          | apply w_block
          | apply b_normal
          | apply w_ret
          | apply t_ret
          | apply b_ret
          | apply w_exit
          | apply t_exit
          | apply b_here
          | (apply b_on; (focus decide))
          | (apply w_true; (focus (simp [*]; done)))
          | (apply w_false; (focus (simp [*]; done)))
          | ((apply w_cond; (focus (simp [*]; rfl)); rfl) <;> (intro hc; have hc' := hc; try simp at hc'))
          | (apply o_no; (focus (first | (apply g_out; rfl; rfl; (focus (simp [*]; done))) | (apply g_un; rfl; rfl; (focus (simp [*]; done))))))
          | ((apply o_if; rfl; rfl; (focus (simp [*]; rfl)); rfl) <;> (intro hg; (fail_if_success (guard_hyp hg : true = true)); (fail_if_success (guard_hyp hg : false = false)); have hg' := hg; try simp at hg'))
          | (apply w_drawA; rfl; (focus kernel_rfl); (focus (simp; rfl)); (focus (simp; rfl)))
          | (apply a_end; (focus (simp; rfl)))
          | (apply a_val; (focus (simp; rfl)); (focus (intro u; first | rfl | (apply g_in; rfl; rfl; (focus (simp [*]; done))))); (focus (intro H' u; simp [*]; rfl)); (focus (simp only [List.nil_append, List.cons_append]; rfl)))
          | (apply a_tie; (focus (simp; rfl)); (focus (intro u; first | rfl | (apply g_in; rfl; rfl; (focus (simp [*]; done))))); (focus (intro u; simp [*]; rfl)); (focus (first | rfl | kernel_rfl)); (focus (simp only [List.nil_append, List.cons_append]; rfl)); (focus (simp; rfl)))
          | (apply a_no; (focus (simp; rfl)); (focus (intro u; first | (apply g_out; rfl; rfl; (focus (simp [*]; done))) | (apply g_un; rfl; rfl; (focus (simp [*]; done))))); (focus (simp only [List.nil_append, List.cons_append]; rfl)))
          | ((apply a_if; (focus (simp; rfl)); rfl; rfl; (focus (intro u; simp [*]; rfl)); rfl) <;> (intro hg; (fail_if_success (guard_hyp hg : true = true)); (fail_if_success (guard_hyp hg : false = false)); have hg' := hg; try simp at hg'))
          | (apply a_frz; (focus (simp; rfl)); (focus (intro u; first | rfl | (apply g_in; rfl; rfl; (focus (simp [*]; done))))); (focus (intro u; rfl)); (focus (intro H' u; simp [*]; refine ⟨_, _, ⟨rfl, rfl⟩, ?_, ?_⟩; (focus (simp; done)); (focus (first | exact Snap.flat (by simp) | exact Snap.ref_flat (by simp) rfl rfl rfl (by simp) (by simp) | exact Snap.slice_flat (by simp) rfl (by simp; rfl) (by simp) (by simp) | exact Snap.slice_flat (by simp) (by simp; exact ⟨rfl, rfl, rfl⟩) (by simp; rfl) (by simp) (by simp))))); (focus (simp only [List.nil_append, List.cons_append]; rfl)))
          | (apply a_mem; (focus (simp; rfl)); (focus (intro u; first | rfl | (apply g_in; rfl; rfl; (focus (simp [*]; done))))); (focus (intro u; rfl)); (focus (intro u; simp [*]; exact ⟨rfl, rfl⟩)); (focus (first | rfl | kernel_rfl)); (focus (simp only [List.nil_append, List.cons_append]; rfl)); (focus (simp; rfl))))
        · (apply f_retf; (focus (simp [*]; rfl)); (focus (simp; done)); (focus (rw [hmay, asked, if_pos rfl, all_no hlt (by assumption)]; simp [*]; done)))
        · exact ⟨e.heads.length - (i + 1), by omega, i + 1, by omega, rfl, rfl, fun _ => all_more hlt hp' (by assumption), by simp [*]⟩
    · skip
      repeat' (first
        | apply w_seq
        | apply w_region
        | apply o_end
        | apply t_normal
        | (apply o_add; (focus (first | rfl | (apply g_in; rfl; rfl; (focus (simp [*]; done))))); (focus (simp [*]; rfl)); rfl; (focus (simp [*]; rfl)); rfl; (focus (apply wrap_i64 <;> omega)))
        | (apply o_sub; (focus (first | rfl | (apply g_in; rfl; rfl; (focus (simp [*]; done))))); (focus (simp [*]; rfl)); rfl; (focus (simp [*]; rfl)); rfl; (focus (apply wrap_i64 <;> omega)))
        | (apply o_val; (focus (first | rfl | (apply g_in; rfl; rfl; (focus (simp [*]; done))))); (focus (simp [*]; rfl)))
        | (apply o_fuse; (focus (first | rfl | (apply g_in; rfl; rfl; (focus (simp [*]; done))))); rfl; (focus (simp [*]; first | rfl | exact ⟨rfl, rfl⟩)); (focus (first | rfl | (apply g_in; rfl; rfl; (focus (simp [*]; done))))); rfl; (focus (simp [*]; first | rfl | exact ⟨rfl, rfl⟩ | exact ⟨rfl, rfl, rfl⟩)); (focus (intro d hd; apply Under.flat; revert hd; revert d; simp; done)))
        | (apply o_mem; (focus (first | rfl | (apply g_in; rfl; rfl; (focus (simp [*]; done))))); rfl; (focus (simp [*]; exact ⟨rfl, rfl⟩)))
        | apply w_skip
        | apply w_block
        | apply b_normal
        | apply w_ret
        | apply t_ret
        | apply b_ret
        | apply w_exit
        | apply t_exit
        | apply b_here
        | (apply b_on; (focus decide))
        | (apply w_true; (focus (simp [*]; done)))
        | (apply w_false; (focus (simp [*]; done)))
        | ((apply w_cond; (focus (simp [*]; rfl)); rfl) <;> (intro hc; have hc' := hc; try simp at hc'))
        | (apply o_no; (focus (first | (apply g_out; rfl; rfl; (focus (simp [*]; done))) | (apply g_un; rfl; rfl; (focus (simp [*]; done))))))
        | ((apply o_if; rfl; rfl; (focus (simp [*]; rfl)); rfl) <;> (intro hg; (fail_if_success (guard_hyp hg : true = true)); (fail_if_success (guard_hyp hg : false = false)); have hg' := hg; try simp at hg'))
        | (apply w_drawA; rfl; (focus kernel_rfl); (focus (simp; rfl)); (focus (simp; rfl)))
        | (apply a_end; (focus (simp; rfl)))
        | (apply a_val; (focus (simp; rfl)); (focus (intro u; first | rfl | (apply g_in; rfl; rfl; (focus (simp [*]; done))))); (focus (intro H' u; simp [*]; rfl)); (focus (simp only [List.nil_append, List.cons_append]; rfl)))
        | (apply a_tie; (focus (simp; rfl)); (focus (intro u; first | rfl | (apply g_in; rfl; rfl; (focus (simp [*]; done))))); (focus (intro u; simp [*]; rfl)); (focus (first | rfl | kernel_rfl)); (focus (simp only [List.nil_append, List.cons_append]; rfl)); (focus (simp; rfl)))
        | (apply a_no; (focus (simp; rfl)); (focus (intro u; first | (apply g_out; rfl; rfl; (focus (simp [*]; done))) | (apply g_un; rfl; rfl; (focus (simp [*]; done))))); (focus (simp only [List.nil_append, List.cons_append]; rfl)))
        | ((apply a_if; (focus (simp; rfl)); rfl; rfl; (focus (intro u; simp [*]; rfl)); rfl) <;> (intro hg; (fail_if_success (guard_hyp hg : true = true)); (fail_if_success (guard_hyp hg : false = false)); have hg' := hg; try simp at hg'))
        | (apply a_frz; (focus (simp; rfl)); (focus (intro u; first | rfl | (apply g_in; rfl; rfl; (focus (simp [*]; done))))); (focus (intro u; rfl)); (focus (intro H' u; simp [*]; refine ⟨_, _, ⟨rfl, rfl⟩, ?_, ?_⟩; (focus (simp; done)); (focus (first | exact Snap.flat (by simp) | exact Snap.ref_flat (by simp) rfl rfl rfl (by simp) (by simp) | exact Snap.slice_flat (by simp) rfl (by simp; rfl) (by simp) (by simp) | exact Snap.slice_flat (by simp) (by simp; exact ⟨rfl, rfl, rfl⟩) (by simp; rfl) (by simp) (by simp))))); (focus (simp only [List.nil_append, List.cons_append]; rfl)))
        | (apply a_mem; (focus (simp; rfl)); (focus (intro u; first | rfl | (apply g_in; rfl; rfl; (focus (simp [*]; done))))); (focus (intro u; rfl)); (focus (intro u; simp [*]; exact ⟨rfl, rfl⟩)); (focus (first | rfl | kernel_rfl)); (focus (simp only [List.nil_append, List.cons_append]; rfl)); (focus (simp; rfl))))
      all_goals (apply f_retf; (focus (simp [*]; rfl)); (focus (simp; done)); (focus (rw [hmay, asked, if_pos rfl, all_yes (by omega) hp']; simp [*]; done)))
  · by_cases hlt : i < e.heads.length
    · skip
      repeat' (first
        | apply w_seq
        | apply w_region
        | apply o_end
        | apply t_normal
        | (apply o_add; (focus (first | rfl | (apply g_in; rfl; rfl; (focus (simp [*]; done))))); (focus (simp [*]; rfl)); rfl; (focus (simp [*]; rfl)); rfl; (focus (apply wrap_i64 <;> omega)))
        | (apply o_sub; (focus (first | rfl | (apply g_in; rfl; rfl; (focus (simp [*]; done))))); (focus (simp [*]; rfl)); rfl; (focus (simp [*]; rfl)); rfl; (focus (apply wrap_i64 <;> omega)))
        | (apply o_val; (focus (first | rfl | (apply g_in; rfl; rfl; (focus (simp [*]; done))))); (focus (simp [*]; rfl)))
        | (apply o_fuse; (focus (first | rfl | (apply g_in; rfl; rfl; (focus (simp [*]; done))))); rfl; (focus (simp [*]; first | rfl | exact ⟨rfl, rfl⟩)); (focus (first | rfl | (apply g_in; rfl; rfl; (focus (simp [*]; done))))); rfl; (focus (simp [*]; first | rfl | exact ⟨rfl, rfl⟩ | exact ⟨rfl, rfl, rfl⟩)); (focus (intro d hd; apply Under.flat; revert hd; revert d; simp; done)))
        | (apply o_mem; (focus (first | rfl | (apply g_in; rfl; rfl; (focus (simp [*]; done))))); rfl; (focus (simp [*]; exact ⟨rfl, rfl⟩)))
        | apply w_skip
        | apply w_block
        | apply b_normal
        | apply w_ret
        | apply t_ret
        | apply b_ret
        | apply w_exit
        | apply t_exit
        | apply b_here
        | (apply b_on; (focus decide))
        | (apply w_true; (focus (simp [*]; done)))
        | (apply w_false; (focus (simp [*]; done)))
        | ((apply w_cond; (focus (simp [*]; rfl)); rfl) <;> (intro hc; have hc' := hc; try simp at hc'))
        | (apply o_no; (focus (first | (apply g_out; rfl; rfl; (focus (simp [*]; done))) | (apply g_un; rfl; rfl; (focus (simp [*]; done))))))
        | ((apply o_if; rfl; rfl; (focus (simp [*]; rfl)); rfl) <;> (intro hg; (fail_if_success (guard_hyp hg : true = true)); (fail_if_success (guard_hyp hg : false = false)); have hg' := hg; try simp at hg'))
        | (apply w_drawA; rfl; (focus kernel_rfl); (focus (simp; rfl)); (focus (simp; rfl)))
        | (apply a_end; (focus (simp; rfl)))
        | (apply a_val; (focus (simp; rfl)); (focus (intro u; first | rfl | (apply g_in; rfl; rfl; (focus (simp [*]; done))))); (focus (intro H' u; simp [*]; rfl)); (focus (simp only [List.nil_append, List.cons_append]; rfl)))
        | (apply a_tie; (focus (simp; rfl)); (focus (intro u; first | rfl | (apply g_in; rfl; rfl; (focus (simp [*]; done))))); (focus (intro u; simp [*]; rfl)); (focus (first | rfl | kernel_rfl)); (focus (simp only [List.nil_append, List.cons_append]; rfl)); (focus (simp; rfl)))
        | (apply a_no; (focus (simp; rfl)); (focus (intro u; first | (apply g_out; rfl; rfl; (focus (simp [*]; done))) | (apply g_un; rfl; rfl; (focus (simp [*]; done))))); (focus (simp only [List.nil_append, List.cons_append]; rfl)))
        | ((apply a_if; (focus (simp; rfl)); rfl; rfl; (focus (intro u; simp [*]; rfl)); rfl) <;> (intro hg; (fail_if_success (guard_hyp hg : true = true)); (fail_if_success (guard_hyp hg : false = false)); have hg' := hg; try simp at hg'))
        | (apply a_frz; (focus (simp; rfl)); (focus (intro u; first | rfl | (apply g_in; rfl; rfl; (focus (simp [*]; done))))); (focus (intro u; rfl)); (focus (intro H' u; simp [*]; refine ⟨_, _, ⟨rfl, rfl⟩, ?_, ?_⟩; (focus (simp; done)); (focus (first | exact Snap.flat (by simp) | exact Snap.ref_flat (by simp) rfl rfl rfl (by simp) (by simp) | exact Snap.slice_flat (by simp) rfl (by simp; rfl) (by simp) (by simp) | exact Snap.slice_flat (by simp) (by simp; exact ⟨rfl, rfl, rfl⟩) (by simp; rfl) (by simp) (by simp))))); (focus (simp only [List.nil_append, List.cons_append]; rfl)))
        | (apply a_mem; (focus (simp; rfl)); (focus (intro u; first | rfl | (apply g_in; rfl; rfl; (focus (simp [*]; done))))); (focus (intro u; rfl)); (focus (intro u; simp [*]; exact ⟨rfl, rfl⟩)); (focus (first | rfl | kernel_rfl)); (focus (simp only [List.nil_append, List.cons_append]; rfl)); (focus (simp; rfl))))
      all_goals (apply f_retf; (focus (simp [*]; rfl)); (focus (simp; done)); (focus (rw [hmay]; simp [asked, *]; done)))
    · skip
      repeat' (first
        | apply w_seq
        | apply w_region
        | apply o_end
        | apply t_normal
        | (apply o_add; (focus (first | rfl | (apply g_in; rfl; rfl; (focus (simp [*]; done))))); (focus (simp [*]; rfl)); rfl; (focus (simp [*]; rfl)); rfl; (focus (apply wrap_i64 <;> omega)))
        | (apply o_sub; (focus (first | rfl | (apply g_in; rfl; rfl; (focus (simp [*]; done))))); (focus (simp [*]; rfl)); rfl; (focus (simp [*]; rfl)); rfl; (focus (apply wrap_i64 <;> omega)))
        | (apply o_val; (focus (first | rfl | (apply g_in; rfl; rfl; (focus (simp [*]; done))))); (focus (simp [*]; rfl)))
        | (apply o_fuse; (focus (first | rfl | (apply g_in; rfl; rfl; (focus (simp [*]; done))))); rfl; (focus (simp [*]; first | rfl | exact ⟨rfl, rfl⟩)); (focus (first | rfl | (apply g_in; rfl; rfl; (focus (simp [*]; done))))); rfl; (focus (simp [*]; first | rfl | exact ⟨rfl, rfl⟩ | exact ⟨rfl, rfl, rfl⟩)); (focus (intro d hd; apply Under.flat; revert hd; revert d; simp; done)))
        | (apply o_mem; (focus (first | rfl | (apply g_in; rfl; rfl; (focus (simp [*]; done))))); rfl; (focus (simp [*]; exact ⟨rfl, rfl⟩)))
        | apply w_skip
        | apply w_block
        | apply b_normal
        | apply w_ret
        | apply t_ret
        | apply b_ret
        | apply w_exit
        | apply t_exit
        | apply b_here
        | (apply b_on; (focus decide))
        | (apply w_true; (focus (simp [*]; done)))
        | (apply w_false; (focus (simp [*]; done)))
        | ((apply w_cond; (focus (simp [*]; rfl)); rfl) <;> (intro hc; have hc' := hc; try simp at hc'))
        | (apply o_no; (focus (first | (apply g_out; rfl; rfl; (focus (simp [*]; done))) | (apply g_un; rfl; rfl; (focus (simp [*]; done))))))
        | ((apply o_if; rfl; rfl; (focus (simp [*]; rfl)); rfl) <;> (intro hg; (fail_if_success (guard_hyp hg : true = true)); (fail_if_success (guard_hyp hg : false = false)); have hg' := hg; try simp at hg'))
        | (apply w_drawA; rfl; (focus kernel_rfl); (focus (simp; rfl)); (focus (simp; rfl)))
        | (apply a_end; (focus (simp; rfl)))
        | (apply a_val; (focus (simp; rfl)); (focus (intro u; first | rfl | (apply g_in; rfl; rfl; (focus (simp [*]; done))))); (focus (intro H' u; simp [*]; rfl)); (focus (simp only [List.nil_append, List.cons_append]; rfl)))
        | (apply a_tie; (focus (simp; rfl)); (focus (intro u; first | rfl | (apply g_in; rfl; rfl; (focus (simp [*]; done))))); (focus (intro u; simp [*]; rfl)); (focus (first | rfl | kernel_rfl)); (focus (simp only [List.nil_append, List.cons_append]; rfl)); (focus (simp; rfl)))
        | (apply a_no; (focus (simp; rfl)); (focus (intro u; first | (apply g_out; rfl; rfl; (focus (simp [*]; done))) | (apply g_un; rfl; rfl; (focus (simp [*]; done))))); (focus (simp only [List.nil_append, List.cons_append]; rfl)))
        | ((apply a_if; (focus (simp; rfl)); rfl; rfl; (focus (intro u; simp [*]; rfl)); rfl) <;> (intro hg; (fail_if_success (guard_hyp hg : true = true)); (fail_if_success (guard_hyp hg : false = false)); have hg' := hg; try simp at hg'))
        | (apply a_frz; (focus (simp; rfl)); (focus (intro u; first | rfl | (apply g_in; rfl; rfl; (focus (simp [*]; done))))); (focus (intro u; rfl)); (focus (intro H' u; simp [*]; refine ⟨_, _, ⟨rfl, rfl⟩, ?_, ?_⟩; (focus (simp; done)); (focus (first | exact Snap.flat (by simp) | exact Snap.ref_flat (by simp) rfl rfl rfl (by simp) (by simp) | exact Snap.slice_flat (by simp) rfl (by simp; rfl) (by simp) (by simp) | exact Snap.slice_flat (by simp) (by simp; exact ⟨rfl, rfl, rfl⟩) (by simp; rfl) (by simp) (by simp))))); (focus (simp only [List.nil_append, List.cons_append]; rfl)))
        | (apply a_mem; (focus (simp; rfl)); (focus (intro u; first | rfl | (apply g_in; rfl; rfl; (focus (simp [*]; done))))); (focus (intro u; rfl)); (focus (intro u; simp [*]; exact ⟨rfl, rfl⟩)); (focus (first | rfl | kernel_rfl)); (focus (simp only [List.nil_append, List.cons_append]; rfl)); (focus (simp; rfl))))
      all_goals (apply f_retf; (focus (simp [*]; rfl)); (focus (simp; done)); (focus (rw [hmay]; simp [asked, *]; done)))
  · have hp' := hp rfl
    clear hp
    by_cases hlt : i < e.heads.length
    · have hlen := hh _ (List.getElem_mem hlt)
      repeat' (first
        | apply w_seq
        | apply w_region
        | apply o_end
        | apply t_normal
        | (apply o_add; (focus (first | rfl | (apply g_in; rfl; rfl; (focus (simp [*]; done))))); (focus (simp [*]; rfl)); rfl; (focus (simp [*]; rfl)); rfl; (focus (apply wrap_i64 <;> omega)))
        | (apply o_sub; (focus (first | rfl | (apply g_in; rfl; rfl; (focus (simp [*]; done))))); (focus (simp [*]; rfl)); rfl; (focus (simp [*]; rfl)); rfl; (focus (apply wrap_i64 <;> omega)))
        | (apply o_val; (focus (first | rfl | (apply g_in; rfl; rfl; (focus (simp [*]; done))))); (focus (simp [*]; rfl)))
        | (apply o_fuse; (focus (first | rfl | (apply g_in; rfl; rfl; (focus (simp [*]; done))))); rfl; (focus (simp [*]; first | rfl | exact ⟨rfl, rfl⟩)); (focus (first | rfl | (apply g_in; rfl; rfl; (focus (simp [*]; done))))); rfl; (focus (simp [*]; first | rfl | exact ⟨rfl, rfl⟩ | exact ⟨rfl, rfl, rfl⟩)); (focus (intro d hd; apply Under.flat; revert hd; revert d; simp; done)))
        | (apply o_fn fine; (focus (first | rfl | (apply g_in; rfl; rfl; (focus (simp [*]; done))))); (focus (simp [*]; exact ⟨rfl, rfl⟩)); (focus (exact RefHead_as _ hlen)); (focus (simp [*]; done)))
        | (apply o_mem; (focus (first | rfl | (apply g_in; rfl; rfl; (focus (simp [*]; done))))); rfl; (focus (simp [*]; exact ⟨rfl, rfl⟩)))
        | apply w_skip
        | apply w_block
        | apply b_normal
        | apply w_ret
        | apply t_ret
        | apply b_ret
        | apply w_exit
        | apply t_exit
        | apply b_here
        | (apply b_on; (focus decide))
        | (apply w_true; (focus (simp [*]; done)))
        | (apply w_false; (focus (simp [*]; done)))
        | ((apply w_cond; (focus (simp [*]; rfl)); rfl) <;> (intro hc; have hc' := hc; try simp at hc'))
        | (apply o_no; (focus (first | (apply g_out; rfl; rfl; (focus (simp [*]; done))) | (apply g_un; rfl; rfl; (focus (simp [*]; done))))))
        | ((apply o_if; rfl; rfl; (focus (simp [*]; rfl)); rfl) <;> (intro hg; (fail_if_success (guard_hyp hg : true = true)); (fail_if_success (guard_hyp hg : false = false)); have hg' := hg; try simp at hg'))
        | (apply w_drawA; rfl; (focus kernel_rfl); (focus (simp; rfl)); (focus (simp; rfl)))
        | (apply a_end; (focus (simp; rfl)))
        | (apply a_val; (focus (simp; rfl)); (focus (intro u; first | rfl | (apply g_in; rfl; rfl; (focus (simp [*]; done))))); (focus (intro H' u; simp [*]; rfl)); (focus (simp only [List.nil_append, List.cons_append]; rfl)))
        | (apply a_fn fine; (focus (simp; rfl)); (focus (intro u; first | rfl | (apply g_in; rfl; rfl; (focus (simp [*]; done))))); (focus (intro u; simp [*]; exact ⟨rfl, rfl⟩)); (focus (exact RefHead_as _ hlen)); (focus (simp [*]; done)); (focus (simp only [List.nil_append, List.cons_append]; rfl)))
        | (apply a_tie; (focus (simp; rfl)); (focus (intro u; first | rfl | (apply g_in; rfl; rfl; (focus (simp [*]; done))))); (focus (intro u; simp [*]; rfl)); (focus (first | rfl | kernel_rfl)); (focus (simp only [List.nil_append, List.cons_append]; rfl)); (focus (simp; rfl)))
        | (apply a_no; (focus (simp; rfl)); (focus (intro u; first | (apply g_out; rfl; rfl; (focus (simp [*]; done))) | (apply g_un; rfl; rfl; (focus (simp [*]; done))))); (focus (simp only [List.nil_append, List.cons_append]; rfl)))
        | ((apply a_if; (focus (simp; rfl)); rfl; rfl; (focus (intro u; simp [*]; rfl)); rfl) <;> (intro hg; (fail_if_success (guard_hyp hg : true = true)); (fail_if_success (guard_hyp hg : false = false)); have hg' := hg; try simp at hg'))
        | (apply a_frz; (focus (simp; rfl)); (focus (intro u; first | rfl | (apply g_in; rfl; rfl; (focus (simp [*]; done))))); (focus (intro u; rfl)); (focus (intro H' u; simp [*]; refine ⟨_, _, ⟨rfl, rfl⟩, ?_, ?_⟩; (focus (simp; done)); (focus (first | exact Snap.flat (by simp) | exact Snap.ref_flat (by simp) rfl rfl rfl (by simp) (by simp) | exact Snap.slice_flat (by simp) rfl (by simp; rfl) (by simp) (by simp) | exact Snap.slice_flat (by simp) (by simp; exact ⟨rfl, rfl, rfl⟩) (by simp; rfl) (by simp) (by simp))))); (focus (simp only [List.nil_append, List.cons_append]; rfl)))
        | (apply a_mem; (focus (simp; rfl)); (focus (intro u; first | rfl | (apply g_in; rfl; rfl; (focus (simp [*]; done))))); (focus (intro u; rfl)); (focus (intro u; simp [*]; exact ⟨rfl, rfl⟩)); (focus (first | rfl | kernel_rfl)); (focus (simp only [List.nil_append, List.cons_append]; rfl)); (focus (simp; rfl))))
      refine w_loop (fun n f H => ∃ (k : Nat), k ≤ e.allow.length ∧ n = e.allow.length - k ∧ H = [] ∧ f 3 = .bool true ∧ f 4 = .box (epC e) ∧ f 9 = .int .i64 i ∧ f 10 = .bool (isHead e.heads[i] || (e.allow.take k).any (fun s => lower s == lower e.heads[i])) ∧ f 11 = .int .i64 k) e.allow.length ⟨0, by simp [*]⟩ ?_
      rintro n f H ⟨k, hk, rfl, rfl, h3, h4, h9, h10, h11⟩
      by_cases hkt : k < e.allow.length
      · have hlen2 := ha _ (List.getElem_mem hkt)
        have hst : (e.allow.take (k + 1)).any (fun s => lower s == lower e.heads[i]) = ((e.allow.take k).any (fun s => lower s == lower e.heads[i]) || lower e.allow[k] == lower e.heads[i]) := by
          rw [List.take_succ_eq_append_getElem hkt, List.any_append]
          simp
        obtain ⟨t, ht⟩ : ∃ t, t = (e.allow.take k).any (fun s => lower s == lower e.heads[i]) := ⟨_, rfl⟩
        rw [← ht] at h10 hst
        clear ht
        repeat' (first
          | apply w_seq
          | apply w_region
          | apply o_end
          | apply t_normal
          | (apply o_add; (focus (first | rfl | (apply g_in; rfl; rfl; (focus (simp [*]; done))))); (focus (simp [*]; rfl)); rfl; (focus (simp [*]; rfl)); rfl; (focus (apply wrap_i64 <;> omega)))
          | (apply o_sub; (focus (first | rfl | (apply g_in; rfl; rfl; (focus (simp [*]; done))))); (focus (simp [*]; rfl)); rfl; (focus (simp [*]; rfl)); rfl; (focus (apply wrap_i64 <;> omega)))
          | (apply o_val; (focus (first | rfl | (apply g_in; rfl; rfl; (focus (simp [*]; done))))); (focus (simp [*]; rfl)))
          | (apply o_fuse; (focus (first | rfl | (apply g_in; rfl; rfl; (focus (simp [*]; done))))); rfl; (focus (simp [*]; first | rfl | exact ⟨rfl, rfl⟩)); (focus (first | rfl | (apply g_in; rfl; rfl; (focus (simp [*]; done))))); rfl; (focus (simp [*]; first | rfl | exact ⟨rfl, rfl⟩ | exact ⟨rfl, rfl, rfl⟩)); (focus (intro d hd; apply Under.flat; revert hd; revert d; simp; done)))
          | (apply o_fn fine; (focus (first | rfl | (apply g_in; rfl; rfl; (focus (simp [*]; done))))); (focus (simp [*]; exact ⟨rfl, rfl⟩)); (focus (exact RefLower_ok _ hlen2)); (focus (simp [*]; done)))
          | (apply o_fn fine; (focus (first | rfl | (apply g_in; rfl; rfl; (focus (simp [*]; done))))); (focus (simp [*]; exact ⟨rfl, rfl⟩)); (focus (exact RefLower_ok _ hlen)); (focus (simp [*]; done)))
          | (apply o_mem; (focus (first | rfl | (apply g_in; rfl; rfl; (focus (simp [*]; done))))); rfl; (focus (simp [*]; exact ⟨rfl, rfl⟩)))
          | apply w_skip
          | apply w_block
          | apply b_normal
          | apply w_ret
          | apply t_ret
          | apply b_ret
          | apply w_exit
          | apply t_exit
          | apply b_here
          | (apply b_on; (focus decide))
          | (apply w_true; (focus (simp [*]; done)))
          | (apply w_false; (focus (simp [*]; done)))
          | ((apply w_cond; (focus (simp [*]; rfl)); rfl) <;> (intro hc; have hc' := hc; try simp at hc'))
          | (apply o_no; (focus (first | (apply g_out; rfl; rfl; (focus (simp [*]; done))) | (apply g_un; rfl; rfl; (focus (simp [*]; done))))))
          | ((apply o_if; rfl; rfl; (focus (simp [*]; rfl)); rfl) <;> (intro hg; (fail_if_success (guard_hyp hg : true = true)); (fail_if_success (guard_hyp hg : false = false)); have hg' := hg; try simp at hg'))
          | (apply w_drawA; rfl; (focus kernel_rfl); (focus (simp; rfl)); (focus (simp; rfl)))
          | (apply a_end; (focus (simp; rfl)))
          | (apply a_val; (focus (simp; rfl)); (focus (intro u; first | rfl | (apply g_in; rfl; rfl; (focus (simp [*]; done))))); (focus (intro H' u; simp [*]; rfl)); (focus (simp only [List.nil_append, List.cons_append]; rfl)))
          | (apply a_fn fine; (focus (simp; rfl)); (focus (intro u; first | rfl | (apply g_in; rfl; rfl; (focus (simp [*]; done))))); (focus (intro u; simp [*]; exact ⟨rfl, rfl⟩)); (focus (exact RefLower_ok _ hlen2)); (focus (simp [*]; done)); (focus (simp only [List.nil_append, List.cons_append]; rfl)))
          | (apply a_fn fine; (focus (simp; rfl)); (focus (intro u; first | rfl | (apply g_in; rfl; rfl; (focus (simp [*]; done))))); (focus (intro u; simp [*]; exact ⟨rfl, rfl⟩)); (focus (exact RefLower_ok _ hlen)); (focus (simp [*]; done)); (focus (simp only [List.nil_append, List.cons_append]; rfl)))
          | (apply a_tie; (focus (simp; rfl)); (focus (intro u; first | rfl | (apply g_in; rfl; rfl; (focus (simp [*]; done))))); (focus (intro u; simp [*]; rfl)); (focus (first | rfl | kernel_rfl)); (focus (simp only [List.nil_append, List.cons_append]; rfl)); (focus (simp; rfl)))
          | (apply a_no; (focus (simp; rfl)); (focus (intro u; first | (apply g_out; rfl; rfl; (focus (simp [*]; done))) | (apply g_un; rfl; rfl; (focus (simp [*]; done))))); (focus (simp only [List.nil_append, List.cons_append]; rfl)))
          | ((apply a_if; (focus (simp; rfl)); rfl; rfl; (focus (intro u; simp [*]; rfl)); rfl) <;> (intro hg; (fail_if_success (guard_hyp hg : true = true)); (fail_if_success (guard_hyp hg : false = false)); have hg' := hg; try simp at hg'))
          | (apply a_frz; (focus (simp; rfl)); (focus (intro u; first | rfl | (apply g_in; rfl; rfl; (focus (simp [*]; done))))); (focus (intro u; rfl)); (focus (intro H' u; simp [*]; refine ⟨_, _, ⟨rfl, rfl⟩, ?_, ?_⟩; (focus (simp; done)); (focus (first | exact Snap.flat (by simp) | exact Snap.ref_flat (by simp) rfl rfl rfl (by simp) (by simp) | exact Snap.slice_flat (by simp) rfl (by simp; rfl) (by simp) (by simp) | exact Snap.slice_flat (by simp) (by simp; exact ⟨rfl, rfl, rfl⟩) (by simp; rfl) (by simp) (by simp))))); (focus (simp only [List.nil_append, List.cons_append]; rfl)))
          | (apply a_mem; (focus (simp; rfl)); (focus (intro u; first | rfl | (apply g_in; rfl; rfl; (focus (simp [*]; done))))); (focus (intro u; rfl)); (focus (intro u; simp [*]; exact ⟨rfl, rfl⟩)); (focus (first | rfl | kernel_rfl)); (focus (simp only [List.nil_append, List.cons_append]; rfl)); (focus (simp; rfl))))
        all_goals refine ⟨e.allow.length - (k + 1), by omega, k + 1, by omega, rfl, rfl, by simp [*], by simp [*], by simp [*], ?_, by simp [*]⟩
        all_goals rw [hst]
        all_goals first | (simp [*]; done) | (simp_all; done) | (simp_all; rcases hg' with z | z <;> simp [z])
      · have hst : isAllowed e e.heads[i] = (isHead e.heads[i] || (e.allow.take k).any (fun s => lower s == lower e.heads[i])) := by
          rw [List.take_of_length_le (by omega), isAllowed]
        rw [← hst] at h10
        clear hst
        repeat' (first
          | apply w_seq
          | apply w_region
          | apply o_end
          | apply t_normal
          | (apply o_add; (focus (first | rfl | (apply g_in; rfl; rfl; (focus (simp [*]; done))))); (focus (simp [*]; rfl)); rfl; (focus (simp [*]; rfl)); rfl; (focus (apply wrap_i64 <;> omega)))
          | (apply o_sub; (focus (first | rfl | (apply g_in; rfl; rfl; (focus (simp [*]; done))))); (focus (simp [*]; rfl)); rfl; (focus (simp [*]; rfl)); rfl; (focus (apply wrap_i64 <;> omega)))
          | (apply o_val; (focus (first | rfl | (apply g_in; rfl; rfl; (focus (simp [*]; done))))); (focus (simp [*]; rfl)))
          | (apply o_fuse; (focus (first | rfl | (apply g_in; rfl; rfl; (focus (simp [*]; done))))); rfl; (focus (simp [*]; first | rfl | exact ⟨rfl, rfl⟩)); (focus (first | rfl | (apply g_in; rfl; rfl; (focus (simp [*]; done))))); rfl; (focus (simp [*]; first | rfl | exact ⟨rfl, rfl⟩ | exact ⟨rfl, rfl, rfl⟩)); (focus (intro d hd; apply Under.flat; revert hd; revert d; simp; done)))
          | (apply o_mem; (focus (first | rfl | (apply g_in; rfl; rfl; (focus (simp [*]; done))))); rfl; (focus (simp [*]; exact ⟨rfl, rfl⟩)))
          | apply w_skip
          | apply w_block
          | apply b_normal
          | apply w_ret
          | apply t_ret
          | apply b_ret
          | apply w_exit
          | apply t_exit
          | apply b_here
          | (apply b_on; (focus decide))
          | (apply w_true; (focus (simp [*]; done)))
          | (apply w_false; (focus (simp [*]; done)))
          | ((apply w_cond; (focus (simp [*]; rfl)); rfl) <;> (intro hc; have hc' := hc; try simp at hc'))
          | (apply o_no; (focus (first | (apply g_out; rfl; rfl; (focus (simp [*]; done))) | (apply g_un; rfl; rfl; (focus (simp [*]; done))))))
          | ((apply o_if; rfl; rfl; (focus (simp [*]; rfl)); rfl) <;> (intro hg; (fail_if_success (guard_hyp hg : true = true)); (fail_if_success (guard_hyp hg : false = false)); have hg' := hg; try simp at hg'))
          | (apply w_drawA; rfl; (focus kernel_rfl); (focus (simp; rfl)); (focus (simp; rfl)))
          | (apply a_end; (focus (simp; rfl)))
          | (apply a_val; (focus (simp; rfl)); (focus (intro u; first | rfl | (apply g_in; rfl; rfl; (focus (simp [*]; done))))); (focus (intro H' u; simp [*]; rfl)); (focus (simp only [List.nil_append, List.cons_append]; rfl)))
          | (apply a_tie; (focus (simp; rfl)); (focus (intro u; first | rfl | (apply g_in; rfl; rfl; (focus (simp [*]; done))))); (focus (intro u; simp [*]; rfl)); (focus (first | rfl | kernel_rfl)); (focus (simp only [List.nil_append, List.cons_append]; rfl)); (focus (simp; rfl)))
          | (apply a_no; (focus (simp; rfl)); (focus (intro u; first | (apply g_out; rfl; rfl; (focus (simp [*]; done))) | (apply g_un; rfl; rfl; (focus (simp [*]; done))))); (focus (simp only [List.nil_append, List.cons_append]; rfl)))
          | ((apply a_if; (focus (simp; rfl)); rfl; rfl; (focus (intro u; simp [*]; rfl)); rfl) <;> (intro hg; (fail_if_success (guard_hyp hg : true = true)); (fail_if_success (guard_hyp hg : false = false)); have hg' := hg; try simp at hg'))
          | (apply a_frz; (focus (simp; rfl)); (focus (intro u; first | rfl | (apply g_in; rfl; rfl; (focus (simp [*]; done))))); (focus (intro u; rfl)); (focus (intro H' u; simp [*]; refine ⟨_, _, ⟨rfl, rfl⟩, ?_, ?_⟩; (focus (simp; done)); (focus (first | exact Snap.flat (by simp) | exact Snap.ref_flat (by simp) rfl rfl rfl (by simp) (by simp) | exact Snap.slice_flat (by simp) rfl (by simp; rfl) (by simp) (by simp) | exact Snap.slice_flat (by simp) (by simp; exact ⟨rfl, rfl, rfl⟩) (by simp; rfl) (by simp) (by simp))))); (focus (simp only [List.nil_append, List.cons_append]; rfl)))
          | (apply a_mem; (focus (simp; rfl)); (focus (intro u; first | rfl | (apply g_in; rfl; rfl; (focus (simp [*]; done))))); (focus (intro u; rfl)); (focus (intro u; simp [*]; exact ⟨rfl, rfl⟩)); (focus (first | rfl | kernel_rfl)); (focus (simp only [List.nil_append, List.cons_append]; rfl)); (focus (simp; rfl))))
        · (apply f_retf; (focus (simp [*]; rfl)); (focus (simp; done)); (focus (rw [hmay, asked, if_pos rfl, all_no hlt (by assumption)]; simp [*]; done)))
        · exact ⟨e.heads.length - (i + 1), by omega, i + 1, by omega, rfl, rfl, fun _ => all_more hlt hp' (by assumption), by simp [*]⟩
    · skip
      repeat' (first
        | apply w_seq
        | apply w_region
        | apply o_end
        | apply t_normal
        | (apply o_add; (focus (first | rfl | (apply g_in; rfl; rfl; (focus (simp [*]; done))))); (focus (simp [*]; rfl)); rfl; (focus (simp [*]; rfl)); rfl; (focus (apply wrap_i64 <;> omega)))
        | (apply o_sub; (focus (first | rfl | (apply g_in; rfl; rfl; (focus (simp [*]; done))))); (focus (simp [*]; rfl)); rfl; (focus (simp [*]; rfl)); rfl; (focus (apply wrap_i64 <;> omega)))
        | (apply o_val; (focus (first | rfl | (apply g_in; rfl; rfl; (focus (simp [*]; done))))); (focus (simp [*]; rfl)))
        | (apply o_fuse; (focus (first | rfl | (apply g_in; rfl; rfl; (focus (simp [*]; done))))); rfl; (focus (simp [*]; first | rfl | exact ⟨rfl, rfl⟩)); (focus (first | rfl | (apply g_in; rfl; rfl; (focus (simp [*]; done))))); rfl; (focus (simp [*]; first | rfl | exact ⟨rfl, rfl⟩ | exact ⟨rfl, rfl, rfl⟩)); (focus (intro d hd; apply Under.flat; revert hd; revert d; simp; done)))
        | (apply o_mem; (focus (first | rfl | (apply g_in; rfl; rfl; (focus (simp [*]; done))))); rfl; (focus (simp [*]; exact ⟨rfl, rfl⟩)))
        | apply w_skip
        | apply w_block
        | apply b_normal
        | apply w_ret
        | apply t_ret
        | apply b_ret
        | apply w_exit
        | apply t_exit
        | apply b_here
        | (apply b_on; (focus decide))
        | (apply w_true; (focus (simp [*]; done)))
        | (apply w_false; (focus (simp [*]; done)))
        | ((apply w_cond; (focus (simp [*]; rfl)); rfl) <;> (intro hc; have hc' := hc; try simp at hc'))
        | (apply o_no; (focus (first | (apply g_out; rfl; rfl; (focus (simp [*]; done))) | (apply g_un; rfl; rfl; (focus (simp [*]; done))))))
        | ((apply o_if; rfl; rfl; (focus (simp [*]; rfl)); rfl) <;> (intro hg; (fail_if_success (guard_hyp hg : true = true)); (fail_if_success (guard_hyp hg : false = false)); have hg' := hg; try simp at hg'))
        | (apply w_drawA; rfl; (focus kernel_rfl); (focus (simp; rfl)); (focus (simp; rfl)))
        | (apply a_end; (focus (simp; rfl)))
        | (apply a_val; (focus (simp; rfl)); (focus (intro u; first | rfl | (apply g_in; rfl; rfl; (focus (simp [*]; done))))); (focus (intro H' u; simp [*]; rfl)); (focus (simp only [List.nil_append, List.cons_append]; rfl)))
        | (apply a_tie; (focus (simp; rfl)); (focus (intro u; first | rfl | (apply g_in; rfl; rfl; (focus (simp [*]; done))))); (focus (intro u; simp [*]; rfl)); (focus (first | rfl | kernel_rfl)); (focus (simp only [List.nil_append, List.cons_append]; rfl)); (focus (simp; rfl)))
        | (apply a_no; (focus (simp; rfl)); (focus (intro u; first | (apply g_out; rfl; rfl; (focus (simp [*]; done))) | (apply g_un; rfl; rfl; (focus (simp [*]; done))))); (focus (simp only [List.nil_append, List.cons_append]; rfl)))
        | ((apply a_if; (focus (simp; rfl)); rfl; rfl; (focus (intro u; simp [*]; rfl)); rfl) <;> (intro hg; (fail_if_success (guard_hyp hg : true = true)); (fail_if_success (guard_hyp hg : false = false)); have hg' := hg; try simp at hg'))
        | (apply a_frz; (focus (simp; rfl)); (focus (intro u; first | rfl | (apply g_in; rfl; rfl; (focus (simp [*]; done))))); (focus (intro u; rfl)); (focus (intro H' u; simp [*]; refine ⟨_, _, ⟨rfl, rfl⟩, ?_, ?_⟩; (focus (simp; done)); (focus (first | exact Snap.flat (by simp) | exact Snap.ref_flat (by simp) rfl rfl rfl (by simp) (by simp) | exact Snap.slice_flat (by simp) rfl (by simp; rfl) (by simp) (by simp) | exact Snap.slice_flat (by simp) (by simp; exact ⟨rfl, rfl, rfl⟩) (by simp; rfl) (by simp) (by simp))))); (focus (simp only [List.nil_append, List.cons_append]; rfl)))
        | (apply a_mem; (focus (simp; rfl)); (focus (intro u; first | rfl | (apply g_in; rfl; rfl; (focus (simp [*]; done))))); (focus (intro u; rfl)); (focus (intro u; simp [*]; exact ⟨rfl, rfl⟩)); (focus (first | rfl | kernel_rfl)); (focus (simp only [List.nil_append, List.cons_append]; rfl)); (focus (simp; rfl))))
      all_goals (apply f_retf; (focus (simp [*]; rfl)); (focus (simp; done)); (focus (rw [hmay, asked, if_pos rfl, all_yes (by omega) hp']; simp [*]; done)))

theorem Snap.aggL {S : Nat → Prop} {H : Heap} {x y : List D} (h : SnapL S H x y) : Snap S H (.agg x) (.agg y) := by
  refine .agg h.len.symm fun k d e hd he => ?_
  obtain ⟨d', h1, h2⟩ := h.get k e he
  rw [hd] at h1
  obtain rfl := Option.some.inj h1
  exact h2
def ep5 : Ep := { name := [], origin := 0, method := [80, 85, 84], path := [], page := false, inject := false, scripts := [], needs := [], heads := [], own := false, sets := [], gives := [], changes := false, opens := false, redirect := -1, any := true, creds := false, cors := [], allow := [], methods := [], policy := [] }
theorem ep5_ok : ep5.Ok := ⟨by decide, by decide, by decide, by decide, by simp [ep5], by simp [ep5]⟩
theorem awake5_ok : Ans L 22 [] (.bool true) := by
  refine fn_of_body L_ok (fn := Try.f22) rfl rfl rfl rfl (by kernel_rfl) ?_
  have a1 : Ans L 23 [epD ep5, .int .i64 0, .bool true] (.bool true) := Lets_ok ep5 0 true ep5_ok.cors
  have a2 : Ans L 23 [epD ep5, .int .i64 3, .bool false] (.bool true) := Lets_ok ep5 3 false ep5_ok.cors
  have a3 : Ans L 23 [epD ep5, .int .i64 3, .bool true] (.bool false) := Lets_ok ep5 3 true ep5_ok.cors
  have a4 : Ans L 25 [epD ep5, .int .i64 3, .bool false, .bool false] (.bool true) := Ahead_ok ep5 3 false false ep5_ok
  have a5 : Ans L 27 [epD ep5, .int .i64 3, .bool false, .bool false] (.bool false) := May_ok ep5 3 false false ep5_ok
  have a6 : Ans L 27 [epD ep5, .int .i64 0, .bool true, .bool true] (.bool true) := May_ok ep5 0 true true ep5_ok
  repeat' (first
    | apply w_seq
    | apply w_region
    | apply o_end
    | apply t_normal
    | (apply o_add; (focus (first | rfl | (apply g_in; rfl; rfl; (focus (simp [*]; done))))); (focus (simp [*]; rfl)); rfl; (focus (simp [*]; rfl)); rfl; (focus (apply wrap_i64 <;> omega)))
    | (apply o_sub; (focus (first | rfl | (apply g_in; rfl; rfl; (focus (simp [*]; done))))); (focus (simp [*]; rfl)); rfl; (focus (simp [*]; rfl)); rfl; (focus (apply wrap_i64 <;> omega)))
    | (apply o_val; (focus (first | rfl | (apply g_in; rfl; rfl; (focus (simp [*]; done))))); (focus (simp [*]; rfl)))
    | (apply o_fuse; (focus (first | rfl | (apply g_in; rfl; rfl; (focus (simp [*]; done))))); rfl; (focus (simp [*]; first | rfl | exact ⟨rfl, rfl⟩)); (focus (first | rfl | (apply g_in; rfl; rfl; (focus (simp [*]; done))))); rfl; (focus (simp [*]; first | rfl | exact ⟨rfl, rfl⟩ | exact ⟨rfl, rfl, rfl⟩)); (focus (intro d hd; apply Under.flat; revert hd; revert d; simp; done)))
    | (apply o_lend fine; (focus (first | rfl | (apply g_in; rfl; rfl; (focus (simp [*]; done))))); (focus (simp [*]; exact ⟨rfl, rfl⟩)); (focus (exact a1 )); (focus ( refine ⟨.aggL ?_, ?_⟩ <;> (repeat' (first | exact trivial | exact Snap.flat (by simp) | exact Snap.nil | refine ⟨?_, ?_⟩)))); (focus (simp; done)))
    | (apply o_lend fine; (focus (first | rfl | (apply g_in; rfl; rfl; (focus (simp [*]; done))))); (focus (simp [*]; exact ⟨rfl, rfl⟩)); (focus (exact a2 )); (focus ( refine ⟨.aggL ?_, ?_⟩ <;> (repeat' (first | exact trivial | exact Snap.flat (by simp) | exact Snap.nil | refine ⟨?_, ?_⟩)))); (focus (simp; done)))
    | (apply o_lend fine; (focus (first | rfl | (apply g_in; rfl; rfl; (focus (simp [*]; done))))); (focus (simp [*]; exact ⟨rfl, rfl⟩)); (focus (exact a3 )); (focus ( refine ⟨.aggL ?_, ?_⟩ <;> (repeat' (first | exact trivial | exact Snap.flat (by simp) | exact Snap.nil | refine ⟨?_, ?_⟩)))); (focus (simp; done)))
    | (apply o_lend fine; (focus (first | rfl | (apply g_in; rfl; rfl; (focus (simp [*]; done))))); (focus (simp [*]; exact ⟨rfl, rfl⟩)); (focus (exact a4 )); (focus ( refine ⟨.aggL ?_, ?_⟩ <;> (repeat' (first | exact trivial | exact Snap.flat (by simp) | exact Snap.nil | refine ⟨?_, ?_⟩)))); (focus (simp; done)))
    | (apply o_lend fine; (focus (first | rfl | (apply g_in; rfl; rfl; (focus (simp [*]; done))))); (focus (simp [*]; exact ⟨rfl, rfl⟩)); (focus (exact a5 )); (focus ( refine ⟨.aggL ?_, ?_⟩ <;> (repeat' (first | exact trivial | exact Snap.flat (by simp) | exact Snap.nil | refine ⟨?_, ?_⟩)))); (focus (simp; done)))
    | (apply o_lend fine; (focus (first | rfl | (apply g_in; rfl; rfl; (focus (simp [*]; done))))); (focus (simp [*]; exact ⟨rfl, rfl⟩)); (focus (exact a6 )); (focus ( refine ⟨.aggL ?_, ?_⟩ <;> (repeat' (first | exact trivial | exact Snap.flat (by simp) | exact Snap.nil | refine ⟨?_, ?_⟩)))); (focus (simp; done)))
    | (apply f_retf; (focus (simp [*]; rfl)); (focus (simp; done)); (focus (simp [*]; done)))
    | (apply o_mem; (focus (first | rfl | (apply g_in; rfl; rfl; (focus (simp [*]; done))))); rfl; (focus (simp [*]; exact ⟨rfl, rfl⟩)))
    | apply w_skip
    | apply w_block
    | apply b_normal
    | apply w_ret
    | apply t_ret
    | apply b_ret
    | apply w_exit
    | apply t_exit
    | apply b_here
    | (apply b_on; (focus decide))
    | (apply w_true; (focus (simp [*]; done)))
    | (apply w_false; (focus (simp [*]; done)))
    | ((apply w_cond; (focus (simp [*]; rfl)); rfl) <;> (intro hc; have hc' := hc; try simp at hc'))
    | (apply o_no; (focus (first | (apply g_out; rfl; rfl; (focus (simp [*]; done))) | (apply g_un; rfl; rfl; (focus (simp [*]; done))))))
    | ((apply o_if; rfl; rfl; (focus (simp [*]; rfl)); rfl) <;> (intro hg; (fail_if_success (guard_hyp hg : true = true)); (fail_if_success (guard_hyp hg : false = false)); have hg' := hg; try simp at hg'))
    | (apply w_drawA; rfl; (focus kernel_rfl); (focus (simp; rfl)); (focus (simp; rfl)))
    | (apply a_end; (focus (simp; rfl)))
    | (apply a_val; (focus (simp; rfl)); (focus (intro u; first | rfl | (apply g_in; rfl; rfl; (focus (simp [*]; done))))); (focus (intro H' u; simp [*]; rfl)); (focus (simp only [List.nil_append, List.cons_append]; rfl)))
    | (apply a_tie; (focus (simp; rfl)); (focus (intro u; first | rfl | (apply g_in; rfl; rfl; (focus (simp [*]; done))))); (focus (intro u; simp [*]; rfl)); (focus (first | rfl | kernel_rfl)); (focus (simp only [List.nil_append, List.cons_append]; rfl)); (focus (simp; rfl)))
    | (apply a_no; (focus (simp; rfl)); (focus (intro u; first | (apply g_out; rfl; rfl; (focus (simp [*]; done))) | (apply g_un; rfl; rfl; (focus (simp [*]; done))))); (focus (simp only [List.nil_append, List.cons_append]; rfl)))
    | ((apply a_if; (focus (simp; rfl)); rfl; rfl; (focus (intro u; simp [*]; rfl)); rfl) <;> (intro hg; (fail_if_success (guard_hyp hg : true = true)); (fail_if_success (guard_hyp hg : false = false)); have hg' := hg; try simp at hg'))
    | (apply a_frz; (focus (simp; rfl)); (focus (intro u; first | rfl | (apply g_in; rfl; rfl; (focus (simp [*]; done))))); (focus (intro u; rfl)); (focus (intro H' u; simp [*]; refine ⟨_, _, ⟨rfl, rfl⟩, ?_, ?_⟩; (focus (simp; done)); (focus (first | exact Snap.flat (by simp) | exact Snap.ref_flat (by simp) rfl rfl rfl (by simp) (by simp) | exact Snap.slice_flat (by simp) rfl (by simp; rfl) (by simp) (by simp) | exact Snap.slice_flat (by simp) (by simp; exact ⟨rfl, rfl, rfl⟩) (by simp; rfl) (by simp) (by simp))))); (focus (simp only [List.nil_append, List.cons_append]; rfl)))
    | (apply a_mem; (focus (simp; rfl)); (focus (intro u; first | rfl | (apply g_in; rfl; rfl; (focus (simp [*]; done))))); (focus (intro u; rfl)); (focus (intro u; simp [*]; exact ⟨rfl, rfl⟩)); (focus (first | rfl | kernel_rfl)); (focus (simp only [List.nil_append, List.cons_append]; rfl)); (focus (simp; rfl))))
  all_goals trace_state
end Go.Proofs.Ytefhaeaakidaiaa.Vm
