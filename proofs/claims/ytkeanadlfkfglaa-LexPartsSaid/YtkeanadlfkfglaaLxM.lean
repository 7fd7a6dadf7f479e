/- Walks: names, texts and lengths of lex. -/
import Derived.Test.YtkeanadlfkfglaaLxJ
import Derived.Test.YtkeanadlfkfglaaLxL
set_option linter.unusedSimpArgs false
set_option linter.unusedVariables false
set_option maxRecDepth 100000
set_option maxHeartbeats 4000000
namespace Go.Proofs.Ytkeanadlfkfglaa.Vm
open Go
variable {m : Int}
attribute [local irreducible] wpD opsD thenD blockD planD planA
attribute [local simp] List.take_of_length_le List.drop_of_length_le bne mvD

def lowN (x : Int) (n : Nat) : Nat := ((x % 18446744073709551616) % n).toNat
theorem lowN_lt (x : Int) {n : Nat} (hn : 0 < n) : lowN x n < n := by
  have h1 := Int.emod_lt_of_pos (x % 18446744073709551616) (show (0 : Int) < n by omega)
  have h2 := Int.emod_nonneg (x % 18446744073709551616) (show (n : Int) ≠ 0 by omega)
  unfold lowN
  omega
theorem Low_ok (x : Int) (n : Nat) (h0 : 0 < n) (h1 : n < 1000000000000) : Ans (L m) 14 [.int .i64 x, .int .i64 n] (.int .i64 (lowN x n)) := by
  refine fn_of_body L_ok (fn := Try.f14) rfl rfl rfl rfl (by kernel_rfl) ?_
  have e1 : IntKind.u64.wrap n = n := by rw [wrap_u64]; omega
  have e2 : IntKind.u64.wrap x = x % 18446744073709551616 := wrap_u64
  have e3 : ¬ n = 0 := by omega
  have h2 := Int.emod_lt_of_pos (x % 18446744073709551616) (show (0 : Int) < n by omega)
  have h3 := Int.emod_nonneg (x % 18446744073709551616) (show (n : Int) ≠ 0 by omega)
  have e4 : (x % 18446744073709551616).tmod n = lowN x n := by
    rw [Int.tmod_eq_emod_of_nonneg (by omega)]
    unfold lowN
    omega
  have e5 : IntKind.i64.wrap (lowN x n) = lowN x n := by
    have := lowN_lt x h0
    exact wrap_i64 (by omega) (by omega)
  repeat' (first
    | apply w_seq
    | apply w_region
    | apply o_end
    | apply t_normal
    | (apply o_add; (focus (first | rfl | (apply g_in; rfl; rfl; (focus (simp [*]; done))))); (focus (simp [*]; rfl)); rfl; (focus (simp [*]; rfl)); rfl; (focus (apply wrap_i64 <;> omega)))
    | (apply o_sub; (focus (first | rfl | (apply g_in; rfl; rfl; (focus (simp [*]; done))))); (focus (simp [*]; rfl)); rfl; (focus (simp [*]; rfl)); rfl; (focus (apply wrap_i64 <;> omega)))
    | (apply o_cat; (focus (first | rfl | (apply g_in; rfl; rfl; (focus (simp [*]; done))))); (focus (simp [*]; rfl)); rfl; (focus (simp [*]; rfl)); rfl; (focus (first | omega | (simp; omega))); (focus (first | (simp; rfl) | rfl)))
    | (apply o_val; (focus (first | rfl | (apply g_in; rfl; rfl; (focus (simp [*]; done))))); (focus (simp [*]; rfl)))
    | (apply o_fuse; (focus (first | rfl | (apply g_in; rfl; rfl; (focus (simp [*]; done))))); rfl; (focus (simp [*]; first | rfl | exact ⟨rfl, rfl⟩)); (focus (first | rfl | (apply g_in; rfl; rfl; (focus (simp [*]; done))))); rfl; (focus (simp [*]; first | rfl | exact ⟨rfl, rfl⟩ | exact ⟨rfl, rfl, rfl⟩)); (focus (intro d hd; apply Under.flat; revert hd; revert d; simp; done)))
    | (apply f_retf; (focus (simp [*]; rfl)); (focus (simp; done)); (focus (simp [*]; done)))
    | (apply o_mem; (focus (first | rfl | (apply g_in; rfl; rfl; (focus (simp [*]; done))))); rfl; (focus (simp [*]; exact ⟨rfl, rfl⟩)))
    | apply w_skip
    | apply w_block
    | apply b_normal
    | apply w_ret
    | apply t_ret
    | apply b_ret
    | apply w_exit
    | apply t_exit
    | apply b_here
    | (apply b_on; (focus decide))
    | (apply w_true; (focus (simp [*]; done)))
    | (apply w_false; (focus (simp [*]; done)))
    | ((apply w_cond; (focus (simp [*]; rfl)); rfl) <;> (intro hc; have hc' := hc; try simp at hc'))
    | (apply o_no; (focus (first | (apply g_out; rfl; rfl; (focus (simp [*]; done))) | (apply g_un; rfl; rfl; (focus (simp [*]; done))))))
    | ((apply o_if; rfl; rfl; (focus (simp [*]; rfl)); rfl) <;> (intro hg; (fail_if_success (guard_hyp hg : true = true)); (fail_if_success (guard_hyp hg : false = false)); have hg' := hg; (try simp at hg'); have hg2 := hg; (try simp only [bne, Bool.not_not, Bool.not_true, Bool.not_false, Bool.not_or, Bool.not_and, Bool.not_eq_true', Bool.not_eq_false', Bool.and_eq_true, Bool.or_eq_false_iff] at hg2)))
    | (apply w_drawA; rfl; (focus (decide +kernel)); (focus (simp; rfl)); (focus (simp; rfl)))
    | (apply w_drawN; rfl; (focus (decide +kernel)); (focus (simp; rfl)))
    | (apply a_end; (focus (simp; rfl)))
    | (apply a_val; (focus (simp; rfl)); (focus (intro u; first | rfl | (apply g_in; rfl; rfl; (focus (simp [*]; done))))); (focus (intro H' u; simp [*]; rfl)); (focus (simp only [List.nil_append, List.cons_append]; rfl)))
    | (apply a_tie; (focus (simp; rfl)); (focus (intro u; first | rfl | (apply g_in; rfl; rfl; (focus (simp [*]; done))))); (focus (intro u; simp [*]; rfl)); (focus (first | rfl | kernel_rfl)); (focus (simp only [List.nil_append, List.cons_append]; rfl)); (focus (simp; rfl)))
    | (apply a_no; (focus (simp; rfl)); (focus (intro u; first | (apply g_out; rfl; rfl; (focus (simp [*]; done))) | (apply g_un; rfl; rfl; (focus (simp [*]; done))))); (focus (simp only [List.nil_append, List.cons_append]; rfl)))
    | ((apply a_if; (focus (simp; rfl)); rfl; rfl; (focus (intro u; simp [*]; rfl)); rfl) <;> (intro hg; (fail_if_success (guard_hyp hg : true = true)); (fail_if_success (guard_hyp hg : false = false)); have hg' := hg; (try simp at hg'); have hg2 := hg; (try simp only [bne, Bool.not_not, Bool.not_true, Bool.not_false, Bool.not_or, Bool.not_and, Bool.not_eq_true', Bool.not_eq_false', Bool.and_eq_true, Bool.or_eq_false_iff] at hg2)))
    | (apply a_frz; (focus (simp; rfl)); (focus (intro u; first | rfl | (apply g_in; rfl; rfl; (focus (simp [*]; done))))); (focus (intro u; rfl)); (focus (intro H' u; simp [*]; refine ⟨_, _, ⟨rfl, rfl⟩, ?_, ?_⟩; (focus (simp; done)); (focus (first | exact Snap.flat (by simp) | exact Snap.ref_flat (by simp) rfl rfl rfl (by simp) (by simp) | exact Snap.slice_flat (by simp) rfl (by simp; rfl) (by simp) (by simp) | exact Snap.slice_flat (by simp) (by simp; exact ⟨rfl, rfl, rfl⟩) (by simp; rfl) (by simp) (by simp))))); (focus (simp only [List.nil_append, List.cons_append]; rfl)))
    | (apply a_mem; (focus (simp; rfl)); (focus (intro u; first | rfl | (apply g_in; rfl; rfl; (focus (simp [*]; done))))); (focus (intro u; rfl)); (focus (intro u; simp [*]; exact ⟨rfl, rfl⟩)); (focus (first | rfl | kernel_rfl)); (focus (simp only [List.nil_append, List.cons_append]; rfl)); (focus (simp; rfl))))

def allL : List UInt8 := [97, 98, 99, 100, 101, 102, 103, 104, 105, 106, 107, 108, 109, 110, 111, 112, 113, 114, 115, 116, 117, 118, 119, 120, 121, 122, 48, 49, 50, 51, 52, 53, 54, 55, 56, 57, 95]
def ltL (k : Nat) : UInt8 := allL.getD k 0
theorem lt_cut : ∀ k, k < 37 → (allL.take (k + 1)).drop k = [ltL k] := by decide
theorem lt_inner : ∀ k, k < 37 → isInner (ltL k) = true := by decide
theorem lt_small : ∀ k, k < 26 → isSmall (ltL k) = true := by decide
theorem LexNames_ok (ns : List Int) : Ans (L m) 6 [intsL ns] (.bool true) := by
  refine fn_of_body L_ok (fn := Try.f6) rfl rfl rfl rfl (by kernel_rfl) ?_
  by_cases h0 : ns.length = 0
  · obtain rfl := List.eq_nil_of_length_eq_zero h0
    repeat' (first
      | apply w_seq
      | apply w_region
      | apply o_end
      | apply t_normal
      | (apply o_add; (focus (first | rfl | (apply g_in; rfl; rfl; (focus (simp [*]; done))))); (focus (simp [*]; rfl)); rfl; (focus (simp [*]; rfl)); rfl; (focus (apply wrap_i64 <;> omega)))
      | (apply o_sub; (focus (first | rfl | (apply g_in; rfl; rfl; (focus (simp [*]; done))))); (focus (simp [*]; rfl)); rfl; (focus (simp [*]; rfl)); rfl; (focus (apply wrap_i64 <;> omega)))
      | (apply o_cat; (focus (first | rfl | (apply g_in; rfl; rfl; (focus (simp [*]; done))))); (focus (simp [*]; rfl)); rfl; (focus (simp [*]; rfl)); rfl; (focus (first | omega | (simp; omega))); (focus (first | (simp; rfl) | rfl)))
      | (apply o_mpick; (focus (first | (apply g_none; rfl) | (apply g_sym; rfl; rfl; (focus (simp [*]; rfl)); (focus (simp only [gOf_bool, gOf_cond, gOf_cond', gOf_un, beq_true, beq_false, Bool.and_true]; rfl))))); (focus (intro hb; (try simp only [Bool.not_or, Bool.not_and, Bool.not_not, Bool.and_eq_true, Bool.not_eq_true', Bool.not_eq_false', Bool.not_eq_true, Bool.not_eq_false] at hb); simp [*]; rfl)); rfl; (focus (intro hb hp; (try simp only [Bool.not_or, Bool.not_and, Bool.not_not, Bool.and_eq_true, Bool.not_eq_true', Bool.not_eq_false', Bool.not_eq_true, Bool.not_eq_false] at hb); (try simp only [Bool.not_or, Bool.not_and, Bool.not_not, Bool.and_eq_true, Bool.not_eq_true', Bool.not_eq_false', Bool.not_eq_true, Bool.not_eq_false] at hp); simp [*]; rfl)); rfl; (focus (intro hb hp; (try simp only [Bool.not_or, Bool.not_and, Bool.not_not, Bool.and_eq_true, Bool.not_eq_true', Bool.not_eq_false', Bool.not_eq_true, Bool.not_eq_false] at hb); (try simp only [Bool.not_or, Bool.not_and, Bool.not_not, Bool.and_eq_true, Bool.not_eq_true', Bool.not_eq_false', Bool.not_eq_true, Bool.not_eq_false] at hp); simp [*]; rfl)); rfl)
      | (apply o_val; (focus (first | rfl | (apply g_in; rfl; rfl; (focus (simp [*]; done))))); (focus (simp [*]; rfl)))
      | (apply o_fn fine; (focus (first | rfl | (apply g_in; rfl; rfl; (focus (simp [*]; done))))); (focus (simp [*]; exact ⟨rfl, rfl⟩)); (focus (exact awake9_ok)); (focus (simp [*]; done)))
      | (apply o_mem; (focus (first | rfl | (apply g_in; rfl; rfl; (focus (simp [*]; done))))); rfl; (focus (simp [*]; exact ⟨rfl, rfl⟩)))
      | apply w_skip
      | apply w_block
      | apply b_normal
      | apply w_ret
      | apply t_ret
      | apply b_ret
      | apply w_exit
      | apply t_exit
      | apply b_here
      | (apply b_on; (focus decide))
      | (apply w_true; (focus (simp [*]; done)))
      | (apply w_false; (focus (simp [*]; done)))
      | ((apply w_cond; (focus (simp [*]; rfl)); rfl) <;> (intro hc; have hc' := hc; try simp at hc'))
      | (apply o_no; (focus (first | (apply g_out; rfl; rfl; (focus (simp [*]; done))) | (apply g_un; rfl; rfl; (focus (simp [*]; done))))))
      | (apply o_maybe; (focus (first | (apply g_none; rfl) | (apply g_sym; rfl; rfl; (focus (simp [*]; rfl)); (focus (simp only [gOf_bool, gOf_cond, gOf_cond', gOf_un, beq_true, beq_false, Bool.and_true]; rfl))))); (focus (intro hb; (try simp only [Bool.not_or, Bool.not_and, Bool.not_not, Bool.and_eq_true, Bool.not_eq_true', Bool.not_eq_false', Bool.not_eq_true, Bool.not_eq_false] at hb); simp [*]; rfl)))
      | (apply o_mfn fine; (focus (first | (apply g_none; rfl) | (apply g_sym; rfl; rfl; (focus (simp [*]; rfl)); (focus (simp only [gOf_bool, gOf_cond, gOf_cond', gOf_un, beq_true, beq_false, Bool.and_true]; rfl))))); (focus (intro hb; (try simp only [Bool.not_or, Bool.not_and, Bool.not_not, Bool.and_eq_true, Bool.not_eq_true', Bool.not_eq_false', Bool.not_eq_true, Bool.not_eq_false] at hb); simp [*]; exact ⟨rfl, rfl⟩)); (focus (intro _; exact awake9_ok)); (focus (intro _; simp [*]; done)))
      | ((apply o_if; rfl; rfl; (focus (simp [*]; rfl)); rfl) <;> (intro hg; (fail_if_success (guard_hyp hg : true = true)); (fail_if_success (guard_hyp hg : false = false)); have hg' := hg; (try simp at hg'); have hg2 := hg; (try simp only [bne, Bool.not_not, Bool.not_true, Bool.not_false, Bool.not_or, Bool.not_and, Bool.not_eq_true', Bool.not_eq_false', Bool.and_eq_true, Bool.or_eq_false_iff] at hg2)))
      | (apply w_drawA; rfl; (focus (decide +kernel)); (focus (simp; rfl)); (focus (simp; rfl)))
      | (apply w_drawN; rfl; (focus (decide +kernel)); (focus (simp; rfl)))
      | (apply a_end; (focus (simp; rfl)))
      | (apply a_val; (focus (simp; rfl)); (focus (intro u; first | rfl | (apply g_in; rfl; rfl; (focus (simp [*]; done))))); (focus (intro H' u; simp [*]; rfl)); (focus (simp only [List.nil_append, List.cons_append]; rfl)))
      | (apply a_fn fine; (focus (simp; rfl)); (focus (intro u; first | rfl | (apply g_in; rfl; rfl; (focus (simp [*]; done))))); (focus (intro u; simp [*]; exact ⟨rfl, rfl⟩)); (focus (exact awake9_ok)); (focus (simp [*]; done)); (focus (simp only [List.nil_append, List.cons_append]; rfl)))
      | (apply a_tie; (focus (simp; rfl)); (focus (intro u; first | rfl | (apply g_in; rfl; rfl; (focus (simp [*]; done))))); (focus (intro u; simp [*]; rfl)); (focus (first | rfl | kernel_rfl)); (focus (simp only [List.nil_append, List.cons_append]; rfl)); (focus (simp; rfl)))
      | (apply a_no; (focus (simp; rfl)); (focus (intro u; first | (apply g_out; rfl; rfl; (focus (simp [*]; done))) | (apply g_un; rfl; rfl; (focus (simp [*]; done))))); (focus (simp only [List.nil_append, List.cons_append]; rfl)))
      | ((apply a_if; (focus (simp; rfl)); rfl; rfl; (focus (intro u; simp [*]; rfl)); rfl) <;> (intro hg; (fail_if_success (guard_hyp hg : true = true)); (fail_if_success (guard_hyp hg : false = false)); have hg' := hg; (try simp at hg'); have hg2 := hg; (try simp only [bne, Bool.not_not, Bool.not_true, Bool.not_false, Bool.not_or, Bool.not_and, Bool.not_eq_true', Bool.not_eq_false', Bool.and_eq_true, Bool.or_eq_false_iff] at hg2)))
      | (apply a_frz; (focus (simp; rfl)); (focus (intro u; first | rfl | (apply g_in; rfl; rfl; (focus (simp [*]; done))))); (focus (intro u; rfl)); (focus (intro H' u; simp [*]; refine ⟨_, _, ⟨rfl, rfl⟩, ?_, ?_⟩; (focus (simp; done)); (focus (first | exact Snap.flat (by simp) | exact Snap.ref_flat (by simp) rfl rfl rfl (by simp) (by simp) | exact Snap.slice_flat (by simp) rfl (by simp; rfl) (by simp) (by simp) | exact Snap.slice_flat (by simp) (by simp; exact ⟨rfl, rfl, rfl⟩) (by simp; rfl) (by simp) (by simp))))); (focus (simp only [List.nil_append, List.cons_append]; rfl)))
      | (apply a_mem; (focus (simp; rfl)); (focus (intro u; first | rfl | (apply g_in; rfl; rfl; (focus (simp [*]; done))))); (focus (intro u; rfl)); (focus (intro u; simp [*]; exact ⟨rfl, rfl⟩)); (focus (first | rfl | kernel_rfl)); (focus (simp only [List.nil_append, List.cons_append]; rfl)); (focus (simp; rfl))))
    · apply f_retf
      · simp [*]; rfl
      · simp
      · rfl
  · have h0' : ¬ ((ns.length : Int) = 0) := by omega
    have h0b : ((ns.length : Int) == 0) = false := by simpa using h0'
    by_cases h30 : 30 < ns.length
    · have h30' : (30 : Int) < ns.length := by omega
      repeat' (first
        | apply w_seq
        | apply w_region
        | apply o_end
        | apply t_normal
        | (apply o_add; (focus (first | rfl | (apply g_in; rfl; rfl; (focus (simp [*]; done))))); (focus (simp [*]; rfl)); rfl; (focus (simp [*]; rfl)); rfl; (focus (apply wrap_i64 <;> omega)))
        | (apply o_sub; (focus (first | rfl | (apply g_in; rfl; rfl; (focus (simp [*]; done))))); (focus (simp [*]; rfl)); rfl; (focus (simp [*]; rfl)); rfl; (focus (apply wrap_i64 <;> omega)))
        | (apply o_cat; (focus (first | rfl | (apply g_in; rfl; rfl; (focus (simp [*]; done))))); (focus (simp [*]; rfl)); rfl; (focus (simp [*]; rfl)); rfl; (focus (first | omega | (simp; omega))); (focus (first | (simp; rfl) | rfl)))
        | (apply o_mpick; (focus (first | (apply g_none; rfl) | (apply g_sym; rfl; rfl; (focus (simp [*]; rfl)); (focus (simp only [gOf_bool, gOf_cond, gOf_cond', gOf_un, beq_true, beq_false, Bool.and_true]; rfl))))); (focus (intro hb; (try simp only [Bool.not_or, Bool.not_and, Bool.not_not, Bool.and_eq_true, Bool.not_eq_true', Bool.not_eq_false', Bool.not_eq_true, Bool.not_eq_false] at hb); simp [*]; rfl)); rfl; (focus (intro hb hp; (try simp only [Bool.not_or, Bool.not_and, Bool.not_not, Bool.and_eq_true, Bool.not_eq_true', Bool.not_eq_false', Bool.not_eq_true, Bool.not_eq_false] at hb); (try simp only [Bool.not_or, Bool.not_and, Bool.not_not, Bool.and_eq_true, Bool.not_eq_true', Bool.not_eq_false', Bool.not_eq_true, Bool.not_eq_false] at hp); simp [*]; rfl)); rfl; (focus (intro hb hp; (try simp only [Bool.not_or, Bool.not_and, Bool.not_not, Bool.and_eq_true, Bool.not_eq_true', Bool.not_eq_false', Bool.not_eq_true, Bool.not_eq_false] at hb); (try simp only [Bool.not_or, Bool.not_and, Bool.not_not, Bool.and_eq_true, Bool.not_eq_true', Bool.not_eq_false', Bool.not_eq_true, Bool.not_eq_false] at hp); simp [*]; rfl)); rfl)
        | (apply o_val; (focus (first | rfl | (apply g_in; rfl; rfl; (focus (simp [*]; done))))); (focus (simp [*]; rfl)))
        | (apply o_fn fine; (focus (first | rfl | (apply g_in; rfl; rfl; (focus (simp [*]; done))))); (focus (simp [*]; exact ⟨rfl, rfl⟩)); (focus (exact awake9_ok)); (focus (simp [*]; done)))
        | (apply o_mem; (focus (first | rfl | (apply g_in; rfl; rfl; (focus (simp [*]; done))))); rfl; (focus (simp [*]; exact ⟨rfl, rfl⟩)))
        | apply w_skip
        | apply w_block
        | apply b_normal
        | apply w_ret
        | apply t_ret
        | apply b_ret
        | apply w_exit
        | apply t_exit
        | apply b_here
        | (apply b_on; (focus decide))
        | (apply w_true; (focus (simp [*]; done)))
        | (apply w_false; (focus (simp [*]; done)))
        | ((apply w_cond; (focus (simp [*]; rfl)); rfl) <;> (intro hc; have hc' := hc; try simp at hc'))
        | (apply o_no; (focus (first | (apply g_out; rfl; rfl; (focus (simp [*]; done))) | (apply g_un; rfl; rfl; (focus (simp [*]; done))))))
        | (apply o_maybe; (focus (first | (apply g_none; rfl) | (apply g_sym; rfl; rfl; (focus (simp [*]; rfl)); (focus (simp only [gOf_bool, gOf_cond, gOf_cond', gOf_un, beq_true, beq_false, Bool.and_true]; rfl))))); (focus (intro hb; (try simp only [Bool.not_or, Bool.not_and, Bool.not_not, Bool.and_eq_true, Bool.not_eq_true', Bool.not_eq_false', Bool.not_eq_true, Bool.not_eq_false] at hb); simp [*]; rfl)))
        | (apply o_mfn fine; (focus (first | (apply g_none; rfl) | (apply g_sym; rfl; rfl; (focus (simp [*]; rfl)); (focus (simp only [gOf_bool, gOf_cond, gOf_cond', gOf_un, beq_true, beq_false, Bool.and_true]; rfl))))); (focus (intro hb; (try simp only [Bool.not_or, Bool.not_and, Bool.not_not, Bool.and_eq_true, Bool.not_eq_true', Bool.not_eq_false', Bool.not_eq_true, Bool.not_eq_false] at hb); simp [*]; exact ⟨rfl, rfl⟩)); (focus (intro _; exact awake9_ok)); (focus (intro _; simp [*]; done)))
        | ((apply o_if; rfl; rfl; (focus (simp [*]; rfl)); rfl) <;> (intro hg; (fail_if_success (guard_hyp hg : true = true)); (fail_if_success (guard_hyp hg : false = false)); have hg' := hg; (try simp at hg'); have hg2 := hg; (try simp only [bne, Bool.not_not, Bool.not_true, Bool.not_false, Bool.not_or, Bool.not_and, Bool.not_eq_true', Bool.not_eq_false', Bool.and_eq_true, Bool.or_eq_false_iff] at hg2)))
        | (apply w_drawA; rfl; (focus (decide +kernel)); (focus (simp; rfl)); (focus (simp; rfl)))
        | (apply w_drawN; rfl; (focus (decide +kernel)); (focus (simp; rfl)))
        | (apply a_end; (focus (simp; rfl)))
        | (apply a_val; (focus (simp; rfl)); (focus (intro u; first | rfl | (apply g_in; rfl; rfl; (focus (simp [*]; done))))); (focus (intro H' u; simp [*]; rfl)); (focus (simp only [List.nil_append, List.cons_append]; rfl)))
        | (apply a_fn fine; (focus (simp; rfl)); (focus (intro u; first | rfl | (apply g_in; rfl; rfl; (focus (simp [*]; done))))); (focus (intro u; simp [*]; exact ⟨rfl, rfl⟩)); (focus (exact awake9_ok)); (focus (simp [*]; done)); (focus (simp only [List.nil_append, List.cons_append]; rfl)))
        | (apply a_tie; (focus (simp; rfl)); (focus (intro u; first | rfl | (apply g_in; rfl; rfl; (focus (simp [*]; done))))); (focus (intro u; simp [*]; rfl)); (focus (first | rfl | kernel_rfl)); (focus (simp only [List.nil_append, List.cons_append]; rfl)); (focus (simp; rfl)))
        | (apply a_no; (focus (simp; rfl)); (focus (intro u; first | (apply g_out; rfl; rfl; (focus (simp [*]; done))) | (apply g_un; rfl; rfl; (focus (simp [*]; done))))); (focus (simp only [List.nil_append, List.cons_append]; rfl)))
        | ((apply a_if; (focus (simp; rfl)); rfl; rfl; (focus (intro u; simp [*]; rfl)); rfl) <;> (intro hg; (fail_if_success (guard_hyp hg : true = true)); (fail_if_success (guard_hyp hg : false = false)); have hg' := hg; (try simp at hg'); have hg2 := hg; (try simp only [bne, Bool.not_not, Bool.not_true, Bool.not_false, Bool.not_or, Bool.not_and, Bool.not_eq_true', Bool.not_eq_false', Bool.and_eq_true, Bool.or_eq_false_iff] at hg2)))
        | (apply a_frz; (focus (simp; rfl)); (focus (intro u; first | rfl | (apply g_in; rfl; rfl; (focus (simp [*]; done))))); (focus (intro u; rfl)); (focus (intro H' u; simp [*]; refine ⟨_, _, ⟨rfl, rfl⟩, ?_, ?_⟩; (focus (simp; done)); (focus (first | exact Snap.flat (by simp) | exact Snap.ref_flat (by simp) rfl rfl rfl (by simp) (by simp) | exact Snap.slice_flat (by simp) rfl (by simp; rfl) (by simp) (by simp) | exact Snap.slice_flat (by simp) (by simp; exact ⟨rfl, rfl, rfl⟩) (by simp; rfl) (by simp) (by simp))))); (focus (simp only [List.nil_append, List.cons_append]; rfl)))
        | (apply a_mem; (focus (simp; rfl)); (focus (intro u; first | rfl | (apply g_in; rfl; rfl; (focus (simp [*]; done))))); (focus (intro u; rfl)); (focus (intro u; simp [*]; exact ⟨rfl, rfl⟩)); (focus (first | rfl | kernel_rfl)); (focus (simp only [List.nil_append, List.cons_append]; rfl)); (focus (simp; rfl))))
      · apply f_retf
        · simp [*]; rfl
        · simp
        · rfl
    · have h30' : ¬ ((30 : Int) < ns.length) := by omega
      repeat' (first
        | apply w_seq
        | apply w_region
        | apply o_end
        | apply t_normal
        | (apply o_add; (focus (first | rfl | (apply g_in; rfl; rfl; (focus (simp [*]; done))))); (focus (simp [*]; rfl)); rfl; (focus (simp [*]; rfl)); rfl; (focus (apply wrap_i64 <;> omega)))
        | (apply o_sub; (focus (first | rfl | (apply g_in; rfl; rfl; (focus (simp [*]; done))))); (focus (simp [*]; rfl)); rfl; (focus (simp [*]; rfl)); rfl; (focus (apply wrap_i64 <;> omega)))
        | (apply o_cat; (focus (first | rfl | (apply g_in; rfl; rfl; (focus (simp [*]; done))))); (focus (simp [*]; rfl)); rfl; (focus (simp [*]; rfl)); rfl; (focus (first | omega | (simp; omega))); (focus (first | (simp; rfl) | rfl)))
        | (apply o_mpick; (focus (first | (apply g_none; rfl) | (apply g_sym; rfl; rfl; (focus (simp [*]; rfl)); (focus (simp only [gOf_bool, gOf_cond, gOf_cond', gOf_un, beq_true, beq_false, Bool.and_true]; rfl))))); (focus (intro hb; (try simp only [Bool.not_or, Bool.not_and, Bool.not_not, Bool.and_eq_true, Bool.not_eq_true', Bool.not_eq_false', Bool.not_eq_true, Bool.not_eq_false] at hb); simp [*]; rfl)); rfl; (focus (intro hb hp; (try simp only [Bool.not_or, Bool.not_and, Bool.not_not, Bool.and_eq_true, Bool.not_eq_true', Bool.not_eq_false', Bool.not_eq_true, Bool.not_eq_false] at hb); (try simp only [Bool.not_or, Bool.not_and, Bool.not_not, Bool.and_eq_true, Bool.not_eq_true', Bool.not_eq_false', Bool.not_eq_true, Bool.not_eq_false] at hp); simp [*]; rfl)); rfl; (focus (intro hb hp; (try simp only [Bool.not_or, Bool.not_and, Bool.not_not, Bool.and_eq_true, Bool.not_eq_true', Bool.not_eq_false', Bool.not_eq_true, Bool.not_eq_false] at hb); (try simp only [Bool.not_or, Bool.not_and, Bool.not_not, Bool.and_eq_true, Bool.not_eq_true', Bool.not_eq_false', Bool.not_eq_true, Bool.not_eq_false] at hp); simp [*]; rfl)); rfl)
        | (apply o_val; (focus (first | rfl | (apply g_in; rfl; rfl; (focus (simp [*]; done))))); (focus (simp [*]; rfl)))
        | (apply o_mem; (focus (first | rfl | (apply g_in; rfl; rfl; (focus (simp [*]; done))))); rfl; (focus (simp [*]; exact ⟨rfl, rfl⟩)))
        | apply w_skip
        | apply w_block
        | apply b_normal
        | apply w_ret
        | apply t_ret
        | apply b_ret
        | apply w_exit
        | apply t_exit
        | apply b_here
        | (apply b_on; (focus decide))
        | (apply w_true; (focus (simp [*]; done)))
        | (apply w_false; (focus (simp [*]; done)))
        | ((apply w_cond; (focus (simp [*]; rfl)); rfl) <;> (intro hc; have hc' := hc; try simp at hc'))
        | (apply o_no; (focus (first | (apply g_out; rfl; rfl; (focus (simp [*]; done))) | (apply g_un; rfl; rfl; (focus (simp [*]; done))))))
        | (apply o_maybe; (focus (first | (apply g_none; rfl) | (apply g_sym; rfl; rfl; (focus (simp [*]; rfl)); (focus (simp only [gOf_bool, gOf_cond, gOf_cond', gOf_un, beq_true, beq_false, Bool.and_true]; rfl))))); (focus (intro hb; (try simp only [Bool.not_or, Bool.not_and, Bool.not_not, Bool.and_eq_true, Bool.not_eq_true', Bool.not_eq_false', Bool.not_eq_true, Bool.not_eq_false] at hb); simp [*]; rfl)))
        | ((apply o_if; rfl; rfl; (focus (simp [*]; rfl)); rfl) <;> (intro hg; (fail_if_success (guard_hyp hg : true = true)); (fail_if_success (guard_hyp hg : false = false)); have hg' := hg; (try simp at hg'); have hg2 := hg; (try simp only [bne, Bool.not_not, Bool.not_true, Bool.not_false, Bool.not_or, Bool.not_and, Bool.not_eq_true', Bool.not_eq_false', Bool.and_eq_true, Bool.or_eq_false_iff] at hg2)))
        | (apply w_drawA; rfl; (focus (decide +kernel)); (focus (simp; rfl)); (focus (simp; rfl)))
        | (apply w_drawN; rfl; (focus (decide +kernel)); (focus (simp; rfl)))
        | (apply a_end; (focus (simp; rfl)))
        | (apply a_val; (focus (simp; rfl)); (focus (intro u; first | rfl | (apply g_in; rfl; rfl; (focus (simp [*]; done))))); (focus (intro H' u; simp [*]; rfl)); (focus (simp only [List.nil_append, List.cons_append]; rfl)))
        | (apply a_tie; (focus (simp; rfl)); (focus (intro u; first | rfl | (apply g_in; rfl; rfl; (focus (simp [*]; done))))); (focus (intro u; simp [*]; rfl)); (focus (first | rfl | kernel_rfl)); (focus (simp only [List.nil_append, List.cons_append]; rfl)); (focus (simp; rfl)))
        | (apply a_no; (focus (simp; rfl)); (focus (intro u; first | (apply g_out; rfl; rfl; (focus (simp [*]; done))) | (apply g_un; rfl; rfl; (focus (simp [*]; done))))); (focus (simp only [List.nil_append, List.cons_append]; rfl)))
        | ((apply a_if; (focus (simp; rfl)); rfl; rfl; (focus (intro u; simp [*]; rfl)); rfl) <;> (intro hg; (fail_if_success (guard_hyp hg : true = true)); (fail_if_success (guard_hyp hg : false = false)); have hg' := hg; (try simp at hg'); have hg2 := hg; (try simp only [bne, Bool.not_not, Bool.not_true, Bool.not_false, Bool.not_or, Bool.not_and, Bool.not_eq_true', Bool.not_eq_false', Bool.and_eq_true, Bool.or_eq_false_iff] at hg2)))
        | (apply a_frz; (focus (simp; rfl)); (focus (intro u; first | rfl | (apply g_in; rfl; rfl; (focus (simp [*]; done))))); (focus (intro u; rfl)); (focus (intro H' u; simp [*]; refine ⟨_, _, ⟨rfl, rfl⟩, ?_, ?_⟩; (focus (simp; done)); (focus (first | exact Snap.flat (by simp) | exact Snap.ref_flat (by simp) rfl rfl rfl (by simp) (by simp) | exact Snap.slice_flat (by simp) rfl (by simp; rfl) (by simp) (by simp) | exact Snap.slice_flat (by simp) (by simp; exact ⟨rfl, rfl, rfl⟩) (by simp; rfl) (by simp) (by simp))))); (focus (simp only [List.nil_append, List.cons_append]; rfl)))
        | (apply a_mem; (focus (simp; rfl)); (focus (intro u; first | rfl | (apply g_in; rfl; rfl; (focus (simp [*]; done))))); (focus (intro u; rfl)); (focus (intro u; simp [*]; exact ⟨rfl, rfl⟩)); (focus (first | rfl | kernel_rfl)); (focus (simp only [List.nil_append, List.cons_append]; rfl)); (focus (simp; rfl))))
      refine w_loop (fun n f H => ∃ (i : Nat) (str : List UInt8), i ≤ ns.length ∧ n = ns.length - i ∧ str.length = i ∧ H = [] ∧ (0 < i → ∃ c x, str = c :: x ∧ isSmall c = true ∧ ∀ b, b ∈ x → isInner b = true) ∧ f 0 = intsL ns ∧ f 3 = .str str ∧ f 4 = .int .i64 i) ns.length ⟨0, [], by simp⟩ ?_
      rintro n f H ⟨i, str, hi, rfl, hsl, rfl, hstr, g0, g3, g4⟩
      by_cases hlt : i < ns.length
      · have hlt' : (i : Int) < ns.length := by omega
        have hk := lowN_lt ns[i] (show 0 < 37 by decide)
        have hL := Low_ok (m := m) ns[i] 37 (by decide) (by decide)
        generalize lowN ns[i] 37 = k at hk hL
        have hb1 : str.length + 1 ≤ 9223372036854775807 := by omega
        have hb2 : i + 1 ≤ 9223372036854775807 := by omega
        have hb3 : i ≤ 9223372036854775806 := by omega
        by_cases hi0 : i = 0
        · subst hi0
          obtain rfl := List.eq_nil_of_length_eq_zero hsl
          have hm : (k : Int).tmod 26 = ((k % 26 : Nat) : Int) := by rw [Int.tmod_eq_emod_of_nonneg (by omega)]; rfl
          have hq : k % 26 < 26 := Nat.mod_lt _ (by decide)
          have hcut := lt_cut (k % 26) (by omega)
          have hsm := lt_small (k % 26) hq
          generalize k % 26 = q at hm hq hcut hsm
          simp only [allL, List.take_succ_cons] at hcut
          have q0 : (0 : Int) ≤ (q : Int) + 1 := by omega
          have q1 : ((q : Int) + 1).toNat = q + 1 := by omega
          have q2 : (q : Int) + 1 ≤ 37 := by omega
          have q3 : (q : Int) ≤ (q : Int) + 1 := by omega
          repeat' (first
            | apply w_seq
            | apply w_region
            | apply o_end
            | apply t_normal
            | (apply o_add; (focus (first | rfl | (apply g_in; rfl; rfl; (focus (simp [*]; done))))); (focus (simp [*]; rfl)); rfl; (focus (simp [*]; rfl)); rfl; (focus (apply wrap_i64 <;> omega)))
            | (apply o_sub; (focus (first | rfl | (apply g_in; rfl; rfl; (focus (simp [*]; done))))); (focus (simp [*]; rfl)); rfl; (focus (simp [*]; rfl)); rfl; (focus (apply wrap_i64 <;> omega)))
            | (apply o_cat; (focus (first | rfl | (apply g_in; rfl; rfl; (focus (simp [*]; done))))); (focus (simp [*]; rfl)); rfl; (focus (simp [*]; rfl)); rfl; (focus (first | omega | (simp; omega))); (focus (first | (simp; rfl) | rfl)))
            | (apply o_mpick; (focus (first | (apply g_none; rfl) | (apply g_sym; rfl; rfl; (focus (simp [*]; rfl)); (focus (simp only [gOf_bool, gOf_cond, gOf_cond', gOf_un, beq_true, beq_false, Bool.and_true]; rfl))))); (focus (intro hb; (try simp only [Bool.not_or, Bool.not_and, Bool.not_not, Bool.and_eq_true, Bool.not_eq_true', Bool.not_eq_false', Bool.not_eq_true, Bool.not_eq_false] at hb); simp [*]; rfl)); rfl; (focus (intro hb hp; (try simp only [Bool.not_or, Bool.not_and, Bool.not_not, Bool.and_eq_true, Bool.not_eq_true', Bool.not_eq_false', Bool.not_eq_true, Bool.not_eq_false] at hb); (try simp only [Bool.not_or, Bool.not_and, Bool.not_not, Bool.and_eq_true, Bool.not_eq_true', Bool.not_eq_false', Bool.not_eq_true, Bool.not_eq_false] at hp); simp [*]; rfl)); rfl; (focus (intro hb hp; (try simp only [Bool.not_or, Bool.not_and, Bool.not_not, Bool.and_eq_true, Bool.not_eq_true', Bool.not_eq_false', Bool.not_eq_true, Bool.not_eq_false] at hb); (try simp only [Bool.not_or, Bool.not_and, Bool.not_not, Bool.and_eq_true, Bool.not_eq_true', Bool.not_eq_false', Bool.not_eq_true, Bool.not_eq_false] at hp); simp [*]; rfl)); rfl)
            | (apply o_val; (focus (first | rfl | (apply g_in; rfl; rfl; (focus (simp [*]; done))))); (focus (simp [*]; rfl)))
            | (apply o_fn fine; (focus (first | rfl | (apply g_in; rfl; rfl; (focus (simp [*]; done))))); (focus (simp [*]; exact ⟨rfl, rfl⟩)); (focus (exact hL)); (focus (simp [*]; done)))
            | (apply o_mem; (focus (first | rfl | (apply g_in; rfl; rfl; (focus (simp [*]; done))))); rfl; (focus (simp [*]; exact ⟨rfl, rfl⟩)))
            | apply w_skip
            | apply w_block
            | apply b_normal
            | apply w_ret
            | apply t_ret
            | apply b_ret
            | apply w_exit
            | apply t_exit
            | apply b_here
            | (apply b_on; (focus decide))
            | (apply w_true; (focus (simp [*]; done)))
            | (apply w_false; (focus (simp [*]; done)))
            | ((apply w_cond; (focus (simp [*]; rfl)); rfl) <;> (intro hc; have hc' := hc; try simp at hc'))
            | (apply o_no; (focus (first | (apply g_out; rfl; rfl; (focus (simp [*]; done))) | (apply g_un; rfl; rfl; (focus (simp [*]; done))))))
            | (apply o_maybe; (focus (first | (apply g_none; rfl) | (apply g_sym; rfl; rfl; (focus (simp [*]; rfl)); (focus (simp only [gOf_bool, gOf_cond, gOf_cond', gOf_un, beq_true, beq_false, Bool.and_true]; rfl))))); (focus (intro hb; (try simp only [Bool.not_or, Bool.not_and, Bool.not_not, Bool.and_eq_true, Bool.not_eq_true', Bool.not_eq_false', Bool.not_eq_true, Bool.not_eq_false] at hb); simp [*]; rfl)))
            | (apply o_mfn fine; (focus (first | (apply g_none; rfl) | (apply g_sym; rfl; rfl; (focus (simp [*]; rfl)); (focus (simp only [gOf_bool, gOf_cond, gOf_cond', gOf_un, beq_true, beq_false, Bool.and_true]; rfl))))); (focus (intro hb; (try simp only [Bool.not_or, Bool.not_and, Bool.not_not, Bool.and_eq_true, Bool.not_eq_true', Bool.not_eq_false', Bool.not_eq_true, Bool.not_eq_false] at hb); simp [*]; exact ⟨rfl, rfl⟩)); (focus (intro _; exact hL)); (focus (intro _; simp [*]; done)))
            | ((apply o_if; rfl; rfl; (focus (simp [*]; rfl)); rfl) <;> (intro hg; (fail_if_success (guard_hyp hg : true = true)); (fail_if_success (guard_hyp hg : false = false)); have hg' := hg; (try simp at hg'); have hg2 := hg; (try simp only [bne, Bool.not_not, Bool.not_true, Bool.not_false, Bool.not_or, Bool.not_and, Bool.not_eq_true', Bool.not_eq_false', Bool.and_eq_true, Bool.or_eq_false_iff] at hg2)))
            | (apply w_drawA; rfl; (focus (decide +kernel)); (focus (simp; rfl)); (focus (simp; rfl)))
            | (apply w_drawN; rfl; (focus (decide +kernel)); (focus (simp; rfl)))
            | (apply a_end; (focus (simp; rfl)))
            | (apply a_val; (focus (simp; rfl)); (focus (intro u; first | rfl | (apply g_in; rfl; rfl; (focus (simp [*]; done))))); (focus (intro H' u; simp [*]; rfl)); (focus (simp only [List.nil_append, List.cons_append]; rfl)))
            | (apply a_fn fine; (focus (simp; rfl)); (focus (intro u; first | rfl | (apply g_in; rfl; rfl; (focus (simp [*]; done))))); (focus (intro u; simp [*]; exact ⟨rfl, rfl⟩)); (focus (exact hL)); (focus (simp [*]; done)); (focus (simp only [List.nil_append, List.cons_append]; rfl)))
            | (apply a_tie; (focus (simp; rfl)); (focus (intro u; first | rfl | (apply g_in; rfl; rfl; (focus (simp [*]; done))))); (focus (intro u; simp [*]; rfl)); (focus (first | rfl | kernel_rfl)); (focus (simp only [List.nil_append, List.cons_append]; rfl)); (focus (simp; rfl)))
            | (apply a_no; (focus (simp; rfl)); (focus (intro u; first | (apply g_out; rfl; rfl; (focus (simp [*]; done))) | (apply g_un; rfl; rfl; (focus (simp [*]; done))))); (focus (simp only [List.nil_append, List.cons_append]; rfl)))
            | ((apply a_if; (focus (simp; rfl)); rfl; rfl; (focus (intro u; simp [*]; rfl)); rfl) <;> (intro hg; (fail_if_success (guard_hyp hg : true = true)); (fail_if_success (guard_hyp hg : false = false)); have hg' := hg; (try simp at hg'); have hg2 := hg; (try simp only [bne, Bool.not_not, Bool.not_true, Bool.not_false, Bool.not_or, Bool.not_and, Bool.not_eq_true', Bool.not_eq_false', Bool.and_eq_true, Bool.or_eq_false_iff] at hg2)))
            | (apply a_frz; (focus (simp; rfl)); (focus (intro u; first | rfl | (apply g_in; rfl; rfl; (focus (simp [*]; done))))); (focus (intro u; rfl)); (focus (intro H' u; simp [*]; refine ⟨_, _, ⟨rfl, rfl⟩, ?_, ?_⟩; (focus (simp; done)); (focus (first | exact Snap.flat (by simp) | exact Snap.ref_flat (by simp) rfl rfl rfl (by simp) (by simp) | exact Snap.slice_flat (by simp) rfl (by simp; rfl) (by simp) (by simp) | exact Snap.slice_flat (by simp) (by simp; exact ⟨rfl, rfl, rfl⟩) (by simp; rfl) (by simp) (by simp))))); (focus (simp only [List.nil_append, List.cons_append]; rfl)))
            | (apply a_mem; (focus (simp; rfl)); (focus (intro u; first | rfl | (apply g_in; rfl; rfl; (focus (simp [*]; done))))); (focus (intro u; rfl)); (focus (intro u; simp [*]; exact ⟨rfl, rfl⟩)); (focus (first | rfl | kernel_rfl)); (focus (simp only [List.nil_append, List.cons_append]; rfl)); (focus (simp; rfl))))
          all_goals first | (exfalso; simp_all; done) | exact ⟨ns.length - 1, by omega, 1, [ltL q], by omega, rfl, rfl, rfl, fun _ => ⟨_, [], rfl, hsm, by simp⟩, by simp [*], by simp [*], by simp [*]⟩
        · have hib : ((i : Int) == 0) = false := by simp; exact hi0
          have hcut := lt_cut k hk
          have hin := lt_inner k hk
          simp only [allL, List.take_succ_cons] at hcut
          have q0 : (0 : Int) ≤ (k : Int) + 1 := by omega
          have q1 : ((k : Int) + 1).toNat = k + 1 := by omega
          have q2 : (k : Int) + 1 ≤ 37 := by omega
          have q3 : (k : Int) ≤ (k : Int) + 1 := by omega
          obtain ⟨c, x, hcx, hc, hx⟩ := hstr (by omega)
          have hnew : 0 < i + 1 → ∃ c x, str ++ [ltL k] = c :: x ∧ isSmall c = true ∧ ∀ b, b ∈ x → isInner b = true := fun _ => ⟨c, x ++ [ltL k], by rw [hcx]; rfl, hc, fun b hb => by
            rcases List.mem_append.1 hb with hb | hb
            · exact hx b hb
            · rw [List.mem_singleton.1 hb]; exact hin⟩
          clear hstr hcx hc hx hin
          have hsl2 : (str ++ [ltL k]).length = i + 1 := by simp; exact hsl
          repeat' (first
            | apply w_seq
            | apply w_region
            | apply o_end
            | apply t_normal
            | (apply o_add; (focus (first | rfl | (apply g_in; rfl; rfl; (focus (simp [*]; done))))); (focus (simp [*]; rfl)); rfl; (focus (simp [*]; rfl)); rfl; (focus (apply wrap_i64 <;> omega)))
            | (apply o_sub; (focus (first | rfl | (apply g_in; rfl; rfl; (focus (simp [*]; done))))); (focus (simp [*]; rfl)); rfl; (focus (simp [*]; rfl)); rfl; (focus (apply wrap_i64 <;> omega)))
            | (apply o_cat; (focus (first | rfl | (apply g_in; rfl; rfl; (focus (simp [*]; done))))); (focus (simp [*]; rfl)); rfl; (focus (simp [*]; rfl)); rfl; (focus (first | omega | (simp; omega))); (focus (first | (simp; rfl) | rfl)))
            | (apply o_mpick; (focus (first | (apply g_none; rfl) | (apply g_sym; rfl; rfl; (focus (simp [*]; rfl)); (focus (simp only [gOf_bool, gOf_cond, gOf_cond', gOf_un, beq_true, beq_false, Bool.and_true]; rfl))))); (focus (intro hb; (try simp only [Bool.not_or, Bool.not_and, Bool.not_not, Bool.and_eq_true, Bool.not_eq_true', Bool.not_eq_false', Bool.not_eq_true, Bool.not_eq_false] at hb); simp [*]; rfl)); rfl; (focus (intro hb hp; (try simp only [Bool.not_or, Bool.not_and, Bool.not_not, Bool.and_eq_true, Bool.not_eq_true', Bool.not_eq_false', Bool.not_eq_true, Bool.not_eq_false] at hb); (try simp only [Bool.not_or, Bool.not_and, Bool.not_not, Bool.and_eq_true, Bool.not_eq_true', Bool.not_eq_false', Bool.not_eq_true, Bool.not_eq_false] at hp); simp [*]; rfl)); rfl; (focus (intro hb hp; (try simp only [Bool.not_or, Bool.not_and, Bool.not_not, Bool.and_eq_true, Bool.not_eq_true', Bool.not_eq_false', Bool.not_eq_true, Bool.not_eq_false] at hb); (try simp only [Bool.not_or, Bool.not_and, Bool.not_not, Bool.and_eq_true, Bool.not_eq_true', Bool.not_eq_false', Bool.not_eq_true, Bool.not_eq_false] at hp); simp [*]; rfl)); rfl)
            | (apply o_val; (focus (first | rfl | (apply g_in; rfl; rfl; (focus (simp [*]; done))))); (focus (simp [*]; rfl)))
            | (apply o_fn fine; (focus (first | rfl | (apply g_in; rfl; rfl; (focus (simp [*]; done))))); (focus (simp [*]; exact ⟨rfl, rfl⟩)); (focus (exact hL)); (focus (simp [*]; done)))
            | (apply o_mem; (focus (first | rfl | (apply g_in; rfl; rfl; (focus (simp [*]; done))))); rfl; (focus (simp [*]; exact ⟨rfl, rfl⟩)))
            | apply w_skip
            | apply w_block
            | apply b_normal
            | apply w_ret
            | apply t_ret
            | apply b_ret
            | apply w_exit
            | apply t_exit
            | apply b_here
            | (apply b_on; (focus decide))
            | (apply w_true; (focus (simp [*]; done)))
            | (apply w_false; (focus (simp [*]; done)))
            | ((apply w_cond; (focus (simp [*]; rfl)); rfl) <;> (intro hc; have hc' := hc; try simp at hc'))
            | (apply o_no; (focus (first | (apply g_out; rfl; rfl; (focus (simp [*]; done))) | (apply g_un; rfl; rfl; (focus (simp [*]; done))))))
            | (apply o_maybe; (focus (first | (apply g_none; rfl) | (apply g_sym; rfl; rfl; (focus (simp [*]; rfl)); (focus (simp only [gOf_bool, gOf_cond, gOf_cond', gOf_un, beq_true, beq_false, Bool.and_true]; rfl))))); (focus (intro hb; (try simp only [Bool.not_or, Bool.not_and, Bool.not_not, Bool.and_eq_true, Bool.not_eq_true', Bool.not_eq_false', Bool.not_eq_true, Bool.not_eq_false] at hb); simp [*]; rfl)))
            | (apply o_mfn fine; (focus (first | (apply g_none; rfl) | (apply g_sym; rfl; rfl; (focus (simp [*]; rfl)); (focus (simp only [gOf_bool, gOf_cond, gOf_cond', gOf_un, beq_true, beq_false, Bool.and_true]; rfl))))); (focus (intro hb; (try simp only [Bool.not_or, Bool.not_and, Bool.not_not, Bool.and_eq_true, Bool.not_eq_true', Bool.not_eq_false', Bool.not_eq_true, Bool.not_eq_false] at hb); simp [*]; exact ⟨rfl, rfl⟩)); (focus (intro _; exact hL)); (focus (intro _; simp [*]; done)))
            | ((apply o_if; rfl; rfl; (focus (simp [*]; rfl)); rfl) <;> (intro hg; (fail_if_success (guard_hyp hg : true = true)); (fail_if_success (guard_hyp hg : false = false)); have hg' := hg; (try simp at hg'); have hg2 := hg; (try simp only [bne, Bool.not_not, Bool.not_true, Bool.not_false, Bool.not_or, Bool.not_and, Bool.not_eq_true', Bool.not_eq_false', Bool.and_eq_true, Bool.or_eq_false_iff] at hg2)))
            | (apply w_drawA; rfl; (focus (decide +kernel)); (focus (simp; rfl)); (focus (simp; rfl)))
            | (apply w_drawN; rfl; (focus (decide +kernel)); (focus (simp; rfl)))
            | (apply a_end; (focus (simp; rfl)))
            | (apply a_val; (focus (simp; rfl)); (focus (intro u; first | rfl | (apply g_in; rfl; rfl; (focus (simp [*]; done))))); (focus (intro H' u; simp [*]; rfl)); (focus (simp only [List.nil_append, List.cons_append]; rfl)))
            | (apply a_fn fine; (focus (simp; rfl)); (focus (intro u; first | rfl | (apply g_in; rfl; rfl; (focus (simp [*]; done))))); (focus (intro u; simp [*]; exact ⟨rfl, rfl⟩)); (focus (exact hL)); (focus (simp [*]; done)); (focus (simp only [List.nil_append, List.cons_append]; rfl)))
            | (apply a_tie; (focus (simp; rfl)); (focus (intro u; first | rfl | (apply g_in; rfl; rfl; (focus (simp [*]; done))))); (focus (intro u; simp [*]; rfl)); (focus (first | rfl | kernel_rfl)); (focus (simp only [List.nil_append, List.cons_append]; rfl)); (focus (simp; rfl)))
            | (apply a_no; (focus (simp; rfl)); (focus (intro u; first | (apply g_out; rfl; rfl; (focus (simp [*]; done))) | (apply g_un; rfl; rfl; (focus (simp [*]; done))))); (focus (simp only [List.nil_append, List.cons_append]; rfl)))
            | ((apply a_if; (focus (simp; rfl)); rfl; rfl; (focus (intro u; simp [*]; rfl)); rfl) <;> (intro hg; (fail_if_success (guard_hyp hg : true = true)); (fail_if_success (guard_hyp hg : false = false)); have hg' := hg; (try simp at hg'); have hg2 := hg; (try simp only [bne, Bool.not_not, Bool.not_true, Bool.not_false, Bool.not_or, Bool.not_and, Bool.not_eq_true', Bool.not_eq_false', Bool.and_eq_true, Bool.or_eq_false_iff] at hg2)))
            | (apply a_frz; (focus (simp; rfl)); (focus (intro u; first | rfl | (apply g_in; rfl; rfl; (focus (simp [*]; done))))); (focus (intro u; rfl)); (focus (intro H' u; simp [*]; refine ⟨_, _, ⟨rfl, rfl⟩, ?_, ?_⟩; (focus (simp; done)); (focus (first | exact Snap.flat (by simp) | exact Snap.ref_flat (by simp) rfl rfl rfl (by simp) (by simp) | exact Snap.slice_flat (by simp) rfl (by simp; rfl) (by simp) (by simp) | exact Snap.slice_flat (by simp) (by simp; exact ⟨rfl, rfl, rfl⟩) (by simp; rfl) (by simp) (by simp))))); (focus (simp only [List.nil_append, List.cons_append]; rfl)))
            | (apply a_mem; (focus (simp; rfl)); (focus (intro u; first | rfl | (apply g_in; rfl; rfl; (focus (simp [*]; done))))); (focus (intro u; rfl)); (focus (intro u; simp [*]; exact ⟨rfl, rfl⟩)); (focus (first | rfl | kernel_rfl)); (focus (simp only [List.nil_append, List.cons_append]; rfl)); (focus (simp; rfl))))
          all_goals first | (exfalso; simp_all; done) | exact ⟨ns.length - (i + 1), by omega, i + 1, str ++ [ltL k], by omega, rfl, hsl2, rfl, hnew, by simp [*], by simp [*], by simp [*]⟩
      · have hin : i = ns.length := by omega
        obtain ⟨c, x, hcx, hc, hx⟩ := hstr (by omega)
        have htk := toks_names hc hx (by rw [← hcx]; omega)
        have hwd := Word_ok (m := m) str (by omega)
        rw [← hcx] at htk
        have htok := Tokens_ok (m := m) ([65, 66] ++ str ++ [67]) (by simp; omega)
        rw [htk] at htok
        clear hcx hc hx hstr htk
        have hlt' : ¬ ((i : Int) < ns.length) := by omega
        simp only [List.cons_append, List.nil_append] at htok
        have b1 : str.length + 2 ≤ 9223372036854775807 := by omega
        have b2 : str.length + 3 ≤ 9223372036854775807 := by omega
        have b3 : 2 + str.length ≤ 9223372036854775807 := by omega
        have b4 : str.length + 1 ≤ 9223372036854775807 := by omega
        have b5 : (2 : Int) + str.length < 9223372036854775808 := by omega
        have b6 : 1 + (str.length + 1) ≤ 9223372036854775807 := by omega
        clear hsl hin hi h0 h0' h0b h30 h30'
        by_cases h20 : 20 < str.length
        · rw [if_pos h20] at htok
          have h20' : (20 : Int) < str.length := by omega
          repeat' (first
            | apply w_seq
            | apply w_region
            | apply o_end
            | apply t_normal
            | (apply o_add; (focus (first | rfl | (apply g_in; rfl; rfl; (focus (simp [*]; done))))); (focus (simp [*]; rfl)); rfl; (focus (simp [*]; rfl)); rfl; (focus (apply wrap_i64 <;> omega)))
            | (apply o_sub; (focus (first | rfl | (apply g_in; rfl; rfl; (focus (simp [*]; done))))); (focus (simp [*]; rfl)); rfl; (focus (simp [*]; rfl)); rfl; (focus (apply wrap_i64 <;> omega)))
            | (apply o_cat; (focus (first | rfl | (apply g_in; rfl; rfl; (focus (simp [*]; done))))); (focus (simp [*]; rfl)); rfl; (focus (simp [*]; rfl)); rfl; (focus (first | omega | (simp; omega))); (focus (first | (simp; rfl) | rfl)))
            | (apply o_mpick; (focus (first | (apply g_none; rfl) | (apply g_sym; rfl; rfl; (focus (simp [*]; rfl)); (focus (simp only [gOf_bool, gOf_cond, gOf_cond', gOf_un, beq_true, beq_false, Bool.and_true]; rfl))))); (focus (intro hb; (try simp only [Bool.not_or, Bool.not_and, Bool.not_not, Bool.and_eq_true, Bool.not_eq_true', Bool.not_eq_false', Bool.not_eq_true, Bool.not_eq_false] at hb); simp [*]; rfl)); rfl; (focus (intro hb hp; (try simp only [Bool.not_or, Bool.not_and, Bool.not_not, Bool.and_eq_true, Bool.not_eq_true', Bool.not_eq_false', Bool.not_eq_true, Bool.not_eq_false] at hb); (try simp only [Bool.not_or, Bool.not_and, Bool.not_not, Bool.and_eq_true, Bool.not_eq_true', Bool.not_eq_false', Bool.not_eq_true, Bool.not_eq_false] at hp); simp [*]; rfl)); rfl; (focus (intro hb hp; (try simp only [Bool.not_or, Bool.not_and, Bool.not_not, Bool.and_eq_true, Bool.not_eq_true', Bool.not_eq_false', Bool.not_eq_true, Bool.not_eq_false] at hb); (try simp only [Bool.not_or, Bool.not_and, Bool.not_not, Bool.and_eq_true, Bool.not_eq_true', Bool.not_eq_false', Bool.not_eq_true, Bool.not_eq_false] at hp); simp [*]; rfl)); rfl)
            | (apply o_val; (focus (first | rfl | (apply g_in; rfl; rfl; (focus (simp [*]; done))))); (focus (simp [*]; rfl)))
            | (apply o_fn fine; (focus (first | rfl | (apply g_in; rfl; rfl; (focus (simp [*]; done))))); (focus (simp [*]; exact ⟨rfl, rfl⟩)); (focus (exact htok)); (focus (simp [*]; done)))
            | (apply o_fn fine; (focus (first | rfl | (apply g_in; rfl; rfl; (focus (simp [*]; done))))); (focus (simp [*]; exact ⟨rfl, rfl⟩)); (focus (exact awake9_ok)); (focus (simp [*]; done)))
            | (apply o_mem; (focus (first | rfl | (apply g_in; rfl; rfl; (focus (simp [*]; done))))); rfl; (focus (simp [*]; exact ⟨rfl, rfl⟩)))
            | apply w_skip
            | apply w_block
            | apply b_normal
            | apply w_ret
            | apply t_ret
            | apply b_ret
            | apply w_exit
            | apply t_exit
            | apply b_here
            | (apply b_on; (focus decide))
            | (apply w_true; (focus (simp [*]; done)))
            | (apply w_false; (focus (simp [*]; done)))
            | ((apply w_cond; (focus (simp [*]; rfl)); rfl) <;> (intro hc; have hc' := hc; try simp at hc'))
            | (apply o_no; (focus (first | (apply g_out; rfl; rfl; (focus (simp [*]; done))) | (apply g_un; rfl; rfl; (focus (simp [*]; done))))))
            | (apply o_maybe; (focus (first | (apply g_none; rfl) | (apply g_sym; rfl; rfl; (focus (simp [*]; rfl)); (focus (simp only [gOf_bool, gOf_cond, gOf_cond', gOf_un, beq_true, beq_false, Bool.and_true]; rfl))))); (focus (intro hb; (try simp only [Bool.not_or, Bool.not_and, Bool.not_not, Bool.and_eq_true, Bool.not_eq_true', Bool.not_eq_false', Bool.not_eq_true, Bool.not_eq_false] at hb); simp [*]; rfl)))
            | (apply o_mfn fine; (focus (first | (apply g_none; rfl) | (apply g_sym; rfl; rfl; (focus (simp [*]; rfl)); (focus (simp only [gOf_bool, gOf_cond, gOf_cond', gOf_un, beq_true, beq_false, Bool.and_true]; rfl))))); (focus (intro hb; (try simp only [Bool.not_or, Bool.not_and, Bool.not_not, Bool.and_eq_true, Bool.not_eq_true', Bool.not_eq_false', Bool.not_eq_true, Bool.not_eq_false] at hb); simp [*]; exact ⟨rfl, rfl⟩)); (focus (intro _; exact htok)); (focus (intro _; simp [*]; done)))
            | (apply o_mfn fine; (focus (first | (apply g_none; rfl) | (apply g_sym; rfl; rfl; (focus (simp [*]; rfl)); (focus (simp only [gOf_bool, gOf_cond, gOf_cond', gOf_un, beq_true, beq_false, Bool.and_true]; rfl))))); (focus (intro hb; (try simp only [Bool.not_or, Bool.not_and, Bool.not_not, Bool.and_eq_true, Bool.not_eq_true', Bool.not_eq_false', Bool.not_eq_true, Bool.not_eq_false] at hb); simp [*]; exact ⟨rfl, rfl⟩)); (focus (intro _; exact awake9_ok)); (focus (intro _; simp [*]; done)))
            | ((apply o_if; rfl; rfl; (focus (simp [*]; rfl)); rfl) <;> (intro hg; (fail_if_success (guard_hyp hg : true = true)); (fail_if_success (guard_hyp hg : false = false)); have hg' := hg; (try simp at hg'); have hg2 := hg; (try simp only [bne, Bool.not_not, Bool.not_true, Bool.not_false, Bool.not_or, Bool.not_and, Bool.not_eq_true', Bool.not_eq_false', Bool.and_eq_true, Bool.or_eq_false_iff] at hg2)))
            | (apply w_drawA; rfl; (focus (decide +kernel)); (focus (simp; rfl)); (focus (simp; rfl)))
            | (apply w_drawN; rfl; (focus (decide +kernel)); (focus (simp; rfl)))
            | (apply a_end; (focus (simp; rfl)))
            | (apply a_val; (focus (simp; rfl)); (focus (intro u; first | rfl | (apply g_in; rfl; rfl; (focus (simp [*]; done))))); (focus (intro H' u; simp [*]; rfl)); (focus (simp only [List.nil_append, List.cons_append]; rfl)))
            | (apply a_fn fine; (focus (simp; rfl)); (focus (intro u; first | rfl | (apply g_in; rfl; rfl; (focus (simp [*]; done))))); (focus (intro u; simp [*]; exact ⟨rfl, rfl⟩)); (focus (exact htok)); (focus (simp [*]; done)); (focus (simp only [List.nil_append, List.cons_append]; rfl)))
            | (apply a_fn fine; (focus (simp; rfl)); (focus (intro u; first | rfl | (apply g_in; rfl; rfl; (focus (simp [*]; done))))); (focus (intro u; simp [*]; exact ⟨rfl, rfl⟩)); (focus (exact awake9_ok)); (focus (simp [*]; done)); (focus (simp only [List.nil_append, List.cons_append]; rfl)))
            | (apply a_tie; (focus (simp; rfl)); (focus (intro u; first | rfl | (apply g_in; rfl; rfl; (focus (simp [*]; done))))); (focus (intro u; simp [*]; rfl)); (focus (first | rfl | kernel_rfl)); (focus (simp only [List.nil_append, List.cons_append]; rfl)); (focus (simp; rfl)))
            | (apply a_no; (focus (simp; rfl)); (focus (intro u; first | (apply g_out; rfl; rfl; (focus (simp [*]; done))) | (apply g_un; rfl; rfl; (focus (simp [*]; done))))); (focus (simp only [List.nil_append, List.cons_append]; rfl)))
            | ((apply a_if; (focus (simp; rfl)); rfl; rfl; (focus (intro u; simp [*]; rfl)); rfl) <;> (intro hg; (fail_if_success (guard_hyp hg : true = true)); (fail_if_success (guard_hyp hg : false = false)); have hg' := hg; (try simp at hg'); have hg2 := hg; (try simp only [bne, Bool.not_not, Bool.not_true, Bool.not_false, Bool.not_or, Bool.not_and, Bool.not_eq_true', Bool.not_eq_false', Bool.and_eq_true, Bool.or_eq_false_iff] at hg2)))
            | (apply a_frz; (focus (simp; rfl)); (focus (intro u; first | rfl | (apply g_in; rfl; rfl; (focus (simp [*]; done))))); (focus (intro u; rfl)); (focus (intro H' u; simp [*]; refine ⟨_, _, ⟨rfl, rfl⟩, ?_, ?_⟩; (focus (simp; done)); (focus (first | exact Snap.flat (by simp) | exact Snap.ref_flat (by simp) rfl rfl rfl (by simp) (by simp) | exact Snap.slice_flat (by simp) rfl (by simp; rfl) (by simp) (by simp) | exact Snap.slice_flat (by simp) (by simp; exact ⟨rfl, rfl, rfl⟩) (by simp; rfl) (by simp) (by simp))))); (focus (simp only [List.nil_append, List.cons_append]; rfl)))
            | (apply a_mem; (focus (simp; rfl)); (focus (intro u; first | rfl | (apply g_in; rfl; rfl; (focus (simp [*]; done))))); (focus (intro u; rfl)); (focus (intro u; simp [*]; exact ⟨rfl, rfl⟩)); (focus (first | rfl | kernel_rfl)); (focus (simp only [List.nil_append, List.cons_append]; rfl)); (focus (simp; rfl))))
          · apply f_retf
            · simp [*]; rfl
            · simp
            · rfl
        · rw [if_neg h20] at htok
          have h20' : ¬ ((20 : Int) < str.length) := by omega
          cases hw : isWord str
          · rw [hw] at htok hwd
            simp only [toksD, List.map_cons, List.map_nil, if_false, Bool.false_eq_true] at htok
            repeat' (first
              | apply w_seq
              | apply w_region
              | apply o_end
              | apply t_normal
              | (apply o_add; (focus (first | rfl | (apply g_in; rfl; rfl; (focus (simp [*]; done))))); (focus (simp [*]; rfl)); rfl; (focus (simp [*]; rfl)); rfl; (focus (apply wrap_i64 <;> omega)))
              | (apply o_sub; (focus (first | rfl | (apply g_in; rfl; rfl; (focus (simp [*]; done))))); (focus (simp [*]; rfl)); rfl; (focus (simp [*]; rfl)); rfl; (focus (apply wrap_i64 <;> omega)))
              | (apply o_cat; (focus (first | rfl | (apply g_in; rfl; rfl; (focus (simp [*]; done))))); (focus (simp [*]; rfl)); rfl; (focus (simp [*]; rfl)); rfl; (focus (first | omega | (simp; omega))); (focus (first | (simp; rfl) | rfl)))
              | (apply o_mpick; (focus (first | (apply g_none; rfl) | (apply g_sym; rfl; rfl; (focus (simp [*]; rfl)); (focus (simp only [gOf_bool, gOf_cond, gOf_cond', gOf_un, beq_true, beq_false, Bool.and_true]; rfl))))); (focus (intro hb; (try simp only [Bool.not_or, Bool.not_and, Bool.not_not, Bool.and_eq_true, Bool.not_eq_true', Bool.not_eq_false', Bool.not_eq_true, Bool.not_eq_false] at hb); simp [*]; rfl)); rfl; (focus (intro hb hp; (try simp only [Bool.not_or, Bool.not_and, Bool.not_not, Bool.and_eq_true, Bool.not_eq_true', Bool.not_eq_false', Bool.not_eq_true, Bool.not_eq_false] at hb); (try simp only [Bool.not_or, Bool.not_and, Bool.not_not, Bool.and_eq_true, Bool.not_eq_true', Bool.not_eq_false', Bool.not_eq_true, Bool.not_eq_false] at hp); simp [*]; rfl)); rfl; (focus (intro hb hp; (try simp only [Bool.not_or, Bool.not_and, Bool.not_not, Bool.and_eq_true, Bool.not_eq_true', Bool.not_eq_false', Bool.not_eq_true, Bool.not_eq_false] at hb); (try simp only [Bool.not_or, Bool.not_and, Bool.not_not, Bool.and_eq_true, Bool.not_eq_true', Bool.not_eq_false', Bool.not_eq_true, Bool.not_eq_false] at hp); simp [*]; rfl)); rfl)
              | (apply o_val; (focus (first | rfl | (apply g_in; rfl; rfl; (focus (simp [*]; done))))); (focus (simp [*]; rfl)))
              | (apply o_fn fine; (focus (first | rfl | (apply g_in; rfl; rfl; (focus (simp [*]; done))))); (focus (simp [*]; exact ⟨rfl, rfl⟩)); (focus (exact htok)); (focus (simp [*]; done)))
              | (apply o_fn fine; (focus (first | rfl | (apply g_in; rfl; rfl; (focus (simp [*]; done))))); (focus (simp [*]; exact ⟨rfl, rfl⟩)); (focus (exact hwd)); (focus (simp [*]; done)))
              | (apply o_fn fine; (focus (first | rfl | (apply g_in; rfl; rfl; (focus (simp [*]; done))))); (focus (simp [*]; exact ⟨rfl, rfl⟩)); (focus (exact awake9_ok)); (focus (simp [*]; done)))
              | (apply o_mem; (focus (first | rfl | (apply g_in; rfl; rfl; (focus (simp [*]; done))))); rfl; (focus (simp [*]; exact ⟨rfl, rfl⟩)))
              | apply w_skip
              | apply w_block
              | apply b_normal
              | apply w_ret
              | apply t_ret
              | apply b_ret
              | apply w_exit
              | apply t_exit
              | apply b_here
              | (apply b_on; (focus decide))
              | (apply w_true; (focus (simp [*]; done)))
              | (apply w_false; (focus (simp [*]; done)))
              | ((apply w_cond; (focus (simp [*]; rfl)); rfl) <;> (intro hc; have hc' := hc; try simp at hc'))
              | (apply o_no; (focus (first | (apply g_out; rfl; rfl; (focus (simp [*]; done))) | (apply g_un; rfl; rfl; (focus (simp [*]; done))))))
              | (apply o_maybe; (focus (first | (apply g_none; rfl) | (apply g_sym; rfl; rfl; (focus (simp [*]; rfl)); (focus (simp only [gOf_bool, gOf_cond, gOf_cond', gOf_un, beq_true, beq_false, Bool.and_true]; rfl))))); (focus (intro hb; (try simp only [Bool.not_or, Bool.not_and, Bool.not_not, Bool.and_eq_true, Bool.not_eq_true', Bool.not_eq_false', Bool.not_eq_true, Bool.not_eq_false] at hb); simp [*]; rfl)))
              | (apply o_mfn fine; (focus (first | (apply g_none; rfl) | (apply g_sym; rfl; rfl; (focus (simp [*]; rfl)); (focus (simp only [gOf_bool, gOf_cond, gOf_cond', gOf_un, beq_true, beq_false, Bool.and_true]; rfl))))); (focus (intro hb; (try simp only [Bool.not_or, Bool.not_and, Bool.not_not, Bool.and_eq_true, Bool.not_eq_true', Bool.not_eq_false', Bool.not_eq_true, Bool.not_eq_false] at hb); simp [*]; exact ⟨rfl, rfl⟩)); (focus (intro _; exact htok)); (focus (intro _; simp [*]; done)))
              | (apply o_mfn fine; (focus (first | (apply g_none; rfl) | (apply g_sym; rfl; rfl; (focus (simp [*]; rfl)); (focus (simp only [gOf_bool, gOf_cond, gOf_cond', gOf_un, beq_true, beq_false, Bool.and_true]; rfl))))); (focus (intro hb; (try simp only [Bool.not_or, Bool.not_and, Bool.not_not, Bool.and_eq_true, Bool.not_eq_true', Bool.not_eq_false', Bool.not_eq_true, Bool.not_eq_false] at hb); simp [*]; exact ⟨rfl, rfl⟩)); (focus (intro _; exact hwd)); (focus (intro _; simp [*]; done)))
              | (apply o_mfn fine; (focus (first | (apply g_none; rfl) | (apply g_sym; rfl; rfl; (focus (simp [*]; rfl)); (focus (simp only [gOf_bool, gOf_cond, gOf_cond', gOf_un, beq_true, beq_false, Bool.and_true]; rfl))))); (focus (intro hb; (try simp only [Bool.not_or, Bool.not_and, Bool.not_not, Bool.and_eq_true, Bool.not_eq_true', Bool.not_eq_false', Bool.not_eq_true, Bool.not_eq_false] at hb); simp [*]; exact ⟨rfl, rfl⟩)); (focus (intro _; exact awake9_ok)); (focus (intro _; simp [*]; done)))
              | ((apply o_if; rfl; rfl; (focus (simp [*]; rfl)); rfl) <;> (intro hg; (fail_if_success (guard_hyp hg : true = true)); (fail_if_success (guard_hyp hg : false = false)); have hg' := hg; (try simp at hg'); have hg2 := hg; (try simp only [bne, Bool.not_not, Bool.not_true, Bool.not_false, Bool.not_or, Bool.not_and, Bool.not_eq_true', Bool.not_eq_false', Bool.and_eq_true, Bool.or_eq_false_iff] at hg2)))
              | (apply w_drawA; rfl; (focus (decide +kernel)); (focus (simp; rfl)); (focus (simp; rfl)))
              | (apply w_drawN; rfl; (focus (decide +kernel)); (focus (simp; rfl)))
              | (apply a_end; (focus (simp; rfl)))
              | (apply a_val; (focus (simp; rfl)); (focus (intro u; first | rfl | (apply g_in; rfl; rfl; (focus (simp [*]; done))))); (focus (intro H' u; simp [*]; rfl)); (focus (simp only [List.nil_append, List.cons_append]; rfl)))
              | (apply a_fn fine; (focus (simp; rfl)); (focus (intro u; first | rfl | (apply g_in; rfl; rfl; (focus (simp [*]; done))))); (focus (intro u; simp [*]; exact ⟨rfl, rfl⟩)); (focus (exact htok)); (focus (simp [*]; done)); (focus (simp only [List.nil_append, List.cons_append]; rfl)))
              | (apply a_fn fine; (focus (simp; rfl)); (focus (intro u; first | rfl | (apply g_in; rfl; rfl; (focus (simp [*]; done))))); (focus (intro u; simp [*]; exact ⟨rfl, rfl⟩)); (focus (exact hwd)); (focus (simp [*]; done)); (focus (simp only [List.nil_append, List.cons_append]; rfl)))
              | (apply a_fn fine; (focus (simp; rfl)); (focus (intro u; first | rfl | (apply g_in; rfl; rfl; (focus (simp [*]; done))))); (focus (intro u; simp [*]; exact ⟨rfl, rfl⟩)); (focus (exact awake9_ok)); (focus (simp [*]; done)); (focus (simp only [List.nil_append, List.cons_append]; rfl)))
              | (apply a_tie; (focus (simp; rfl)); (focus (intro u; first | rfl | (apply g_in; rfl; rfl; (focus (simp [*]; done))))); (focus (intro u; simp [*]; rfl)); (focus (first | rfl | kernel_rfl)); (focus (simp only [List.nil_append, List.cons_append]; rfl)); (focus (simp; rfl)))
              | (apply a_no; (focus (simp; rfl)); (focus (intro u; first | (apply g_out; rfl; rfl; (focus (simp [*]; done))) | (apply g_un; rfl; rfl; (focus (simp [*]; done))))); (focus (simp only [List.nil_append, List.cons_append]; rfl)))
              | ((apply a_if; (focus (simp; rfl)); rfl; rfl; (focus (intro u; simp [*]; rfl)); rfl) <;> (intro hg; (fail_if_success (guard_hyp hg : true = true)); (fail_if_success (guard_hyp hg : false = false)); have hg' := hg; (try simp at hg'); have hg2 := hg; (try simp only [bne, Bool.not_not, Bool.not_true, Bool.not_false, Bool.not_or, Bool.not_and, Bool.not_eq_true', Bool.not_eq_false', Bool.and_eq_true, Bool.or_eq_false_iff] at hg2)))
              | (apply a_frz; (focus (simp; rfl)); (focus (intro u; first | rfl | (apply g_in; rfl; rfl; (focus (simp [*]; done))))); (focus (intro u; rfl)); (focus (intro H' u; simp [*]; refine ⟨_, _, ⟨rfl, rfl⟩, ?_, ?_⟩; (focus (simp; done)); (focus (first | exact Snap.flat (by simp) | exact Snap.ref_flat (by simp) rfl rfl rfl (by simp) (by simp) | exact Snap.slice_flat (by simp) rfl (by simp; rfl) (by simp) (by simp) | exact Snap.slice_flat (by simp) (by simp; exact ⟨rfl, rfl, rfl⟩) (by simp; rfl) (by simp) (by simp))))); (focus (simp only [List.nil_append, List.cons_append]; rfl)))
              | (apply a_mem; (focus (simp; rfl)); (focus (intro u; first | rfl | (apply g_in; rfl; rfl; (focus (simp [*]; done))))); (focus (intro u; rfl)); (focus (intro u; simp [*]; exact ⟨rfl, rfl⟩)); (focus (first | rfl | kernel_rfl)); (focus (simp only [List.nil_append, List.cons_append]; rfl)); (focus (simp; rfl))))
            apply f_retf
            · simp [*]; rfl
            · simp
            · simp [*]
          · rw [hw] at htok hwd
            simp only [toksD, List.map_cons, List.map_nil, if_true] at htok
            repeat' (first
              | apply w_seq
              | apply w_region
              | apply o_end
              | apply t_normal
              | (apply o_add; (focus (first | rfl | (apply g_in; rfl; rfl; (focus (simp [*]; done))))); (focus (simp [*]; rfl)); rfl; (focus (simp [*]; rfl)); rfl; (focus (apply wrap_i64 <;> omega)))
              | (apply o_sub; (focus (first | rfl | (apply g_in; rfl; rfl; (focus (simp [*]; done))))); (focus (simp [*]; rfl)); rfl; (focus (simp [*]; rfl)); rfl; (focus (apply wrap_i64 <;> omega)))
              | (apply o_cat; (focus (first | rfl | (apply g_in; rfl; rfl; (focus (simp [*]; done))))); (focus (simp [*]; rfl)); rfl; (focus (simp [*]; rfl)); rfl; (focus (first | omega | (simp; omega))); (focus (first | (simp; rfl) | rfl)))
              | (apply o_mpick; (focus (first | (apply g_none; rfl) | (apply g_sym; rfl; rfl; (focus (simp [*]; rfl)); (focus (simp only [gOf_bool, gOf_cond, gOf_cond', gOf_un, beq_true, beq_false, Bool.and_true]; rfl))))); (focus (intro hb; (try simp only [Bool.not_or, Bool.not_and, Bool.not_not, Bool.and_eq_true, Bool.not_eq_true', Bool.not_eq_false', Bool.not_eq_true, Bool.not_eq_false] at hb); simp [*]; rfl)); rfl; (focus (intro hb hp; (try simp only [Bool.not_or, Bool.not_and, Bool.not_not, Bool.and_eq_true, Bool.not_eq_true', Bool.not_eq_false', Bool.not_eq_true, Bool.not_eq_false] at hb); (try simp only [Bool.not_or, Bool.not_and, Bool.not_not, Bool.and_eq_true, Bool.not_eq_true', Bool.not_eq_false', Bool.not_eq_true, Bool.not_eq_false] at hp); simp [*]; rfl)); rfl; (focus (intro hb hp; (try simp only [Bool.not_or, Bool.not_and, Bool.not_not, Bool.and_eq_true, Bool.not_eq_true', Bool.not_eq_false', Bool.not_eq_true, Bool.not_eq_false] at hb); (try simp only [Bool.not_or, Bool.not_and, Bool.not_not, Bool.and_eq_true, Bool.not_eq_true', Bool.not_eq_false', Bool.not_eq_true, Bool.not_eq_false] at hp); simp [*]; rfl)); rfl)
              | (apply o_val; (focus (first | rfl | (apply g_in; rfl; rfl; (focus (simp [*]; done))))); (focus (simp [*]; rfl)))
              | (apply o_fn fine; (focus (first | rfl | (apply g_in; rfl; rfl; (focus (simp [*]; done))))); (focus (simp [*]; exact ⟨rfl, rfl⟩)); (focus (exact htok)); (focus (simp [*]; done)))
              | (apply o_fn fine; (focus (first | rfl | (apply g_in; rfl; rfl; (focus (simp [*]; done))))); (focus (simp [*]; exact ⟨rfl, rfl⟩)); (focus (exact hwd)); (focus (simp [*]; done)))
              | (apply o_fn fine; (focus (first | rfl | (apply g_in; rfl; rfl; (focus (simp [*]; done))))); (focus (simp [*]; exact ⟨rfl, rfl⟩)); (focus (exact awake9_ok)); (focus (simp [*]; done)))
              | (apply o_mem; (focus (first | rfl | (apply g_in; rfl; rfl; (focus (simp [*]; done))))); rfl; (focus (simp [*]; exact ⟨rfl, rfl⟩)))
              | apply w_skip
              | apply w_block
              | apply b_normal
              | apply w_ret
              | apply t_ret
              | apply b_ret
              | apply w_exit
              | apply t_exit
              | apply b_here
              | (apply b_on; (focus decide))
              | (apply w_true; (focus (simp [*]; done)))
              | (apply w_false; (focus (simp [*]; done)))
              | ((apply w_cond; (focus (simp [*]; rfl)); rfl) <;> (intro hc; have hc' := hc; try simp at hc'))
              | (apply o_no; (focus (first | (apply g_out; rfl; rfl; (focus (simp [*]; done))) | (apply g_un; rfl; rfl; (focus (simp [*]; done))))))
              | (apply o_maybe; (focus (first | (apply g_none; rfl) | (apply g_sym; rfl; rfl; (focus (simp [*]; rfl)); (focus (simp only [gOf_bool, gOf_cond, gOf_cond', gOf_un, beq_true, beq_false, Bool.and_true]; rfl))))); (focus (intro hb; (try simp only [Bool.not_or, Bool.not_and, Bool.not_not, Bool.and_eq_true, Bool.not_eq_true', Bool.not_eq_false', Bool.not_eq_true, Bool.not_eq_false] at hb); simp [*]; rfl)))
              | (apply o_mfn fine; (focus (first | (apply g_none; rfl) | (apply g_sym; rfl; rfl; (focus (simp [*]; rfl)); (focus (simp only [gOf_bool, gOf_cond, gOf_cond', gOf_un, beq_true, beq_false, Bool.and_true]; rfl))))); (focus (intro hb; (try simp only [Bool.not_or, Bool.not_and, Bool.not_not, Bool.and_eq_true, Bool.not_eq_true', Bool.not_eq_false', Bool.not_eq_true, Bool.not_eq_false] at hb); simp [*]; exact ⟨rfl, rfl⟩)); (focus (intro _; exact htok)); (focus (intro _; simp [*]; done)))
              | (apply o_mfn fine; (focus (first | (apply g_none; rfl) | (apply g_sym; rfl; rfl; (focus (simp [*]; rfl)); (focus (simp only [gOf_bool, gOf_cond, gOf_cond', gOf_un, beq_true, beq_false, Bool.and_true]; rfl))))); (focus (intro hb; (try simp only [Bool.not_or, Bool.not_and, Bool.not_not, Bool.and_eq_true, Bool.not_eq_true', Bool.not_eq_false', Bool.not_eq_true, Bool.not_eq_false] at hb); simp [*]; exact ⟨rfl, rfl⟩)); (focus (intro _; exact hwd)); (focus (intro _; simp [*]; done)))
              | (apply o_mfn fine; (focus (first | (apply g_none; rfl) | (apply g_sym; rfl; rfl; (focus (simp [*]; rfl)); (focus (simp only [gOf_bool, gOf_cond, gOf_cond', gOf_un, beq_true, beq_false, Bool.and_true]; rfl))))); (focus (intro hb; (try simp only [Bool.not_or, Bool.not_and, Bool.not_not, Bool.and_eq_true, Bool.not_eq_true', Bool.not_eq_false', Bool.not_eq_true, Bool.not_eq_false] at hb); simp [*]; exact ⟨rfl, rfl⟩)); (focus (intro _; exact awake9_ok)); (focus (intro _; simp [*]; done)))
              | ((apply o_if; rfl; rfl; (focus (simp [*]; rfl)); rfl) <;> (intro hg; (fail_if_success (guard_hyp hg : true = true)); (fail_if_success (guard_hyp hg : false = false)); have hg' := hg; (try simp at hg'); have hg2 := hg; (try simp only [bne, Bool.not_not, Bool.not_true, Bool.not_false, Bool.not_or, Bool.not_and, Bool.not_eq_true', Bool.not_eq_false', Bool.and_eq_true, Bool.or_eq_false_iff] at hg2)))
              | (apply w_drawA; rfl; (focus (decide +kernel)); (focus (simp; rfl)); (focus (simp; rfl)))
              | (apply w_drawN; rfl; (focus (decide +kernel)); (focus (simp; rfl)))
              | (apply a_end; (focus (simp; rfl)))
              | (apply a_val; (focus (simp; rfl)); (focus (intro u; first | rfl | (apply g_in; rfl; rfl; (focus (simp [*]; done))))); (focus (intro H' u; simp [*]; rfl)); (focus (simp only [List.nil_append, List.cons_append]; rfl)))
              | (apply a_fn fine; (focus (simp; rfl)); (focus (intro u; first | rfl | (apply g_in; rfl; rfl; (focus (simp [*]; done))))); (focus (intro u; simp [*]; exact ⟨rfl, rfl⟩)); (focus (exact htok)); (focus (simp [*]; done)); (focus (simp only [List.nil_append, List.cons_append]; rfl)))
              | (apply a_fn fine; (focus (simp; rfl)); (focus (intro u; first | rfl | (apply g_in; rfl; rfl; (focus (simp [*]; done))))); (focus (intro u; simp [*]; exact ⟨rfl, rfl⟩)); (focus (exact hwd)); (focus (simp [*]; done)); (focus (simp only [List.nil_append, List.cons_append]; rfl)))
              | (apply a_fn fine; (focus (simp; rfl)); (focus (intro u; first | rfl | (apply g_in; rfl; rfl; (focus (simp [*]; done))))); (focus (intro u; simp [*]; exact ⟨rfl, rfl⟩)); (focus (exact awake9_ok)); (focus (simp [*]; done)); (focus (simp only [List.nil_append, List.cons_append]; rfl)))
              | (apply a_tie; (focus (simp; rfl)); (focus (intro u; first | rfl | (apply g_in; rfl; rfl; (focus (simp [*]; done))))); (focus (intro u; simp [*]; rfl)); (focus (first | rfl | kernel_rfl)); (focus (simp only [List.nil_append, List.cons_append]; rfl)); (focus (simp; rfl)))
              | (apply a_no; (focus (simp; rfl)); (focus (intro u; first | (apply g_out; rfl; rfl; (focus (simp [*]; done))) | (apply g_un; rfl; rfl; (focus (simp [*]; done))))); (focus (simp only [List.nil_append, List.cons_append]; rfl)))
              | ((apply a_if; (focus (simp; rfl)); rfl; rfl; (focus (intro u; simp [*]; rfl)); rfl) <;> (intro hg; (fail_if_success (guard_hyp hg : true = true)); (fail_if_success (guard_hyp hg : false = false)); have hg' := hg; (try simp at hg'); have hg2 := hg; (try simp only [bne, Bool.not_not, Bool.not_true, Bool.not_false, Bool.not_or, Bool.not_and, Bool.not_eq_true', Bool.not_eq_false', Bool.and_eq_true, Bool.or_eq_false_iff] at hg2)))
              | (apply a_frz; (focus (simp; rfl)); (focus (intro u; first | rfl | (apply g_in; rfl; rfl; (focus (simp [*]; done))))); (focus (intro u; rfl)); (focus (intro H' u; simp [*]; refine ⟨_, _, ⟨rfl, rfl⟩, ?_, ?_⟩; (focus (simp; done)); (focus (first | exact Snap.flat (by simp) | exact Snap.ref_flat (by simp) rfl rfl rfl (by simp) (by simp) | exact Snap.slice_flat (by simp) rfl (by simp; rfl) (by simp) (by simp) | exact Snap.slice_flat (by simp) (by simp; exact ⟨rfl, rfl, rfl⟩) (by simp; rfl) (by simp) (by simp))))); (focus (simp only [List.nil_append, List.cons_append]; rfl)))
              | (apply a_mem; (focus (simp; rfl)); (focus (intro u; first | rfl | (apply g_in; rfl; rfl; (focus (simp [*]; done))))); (focus (intro u; rfl)); (focus (intro u; simp [*]; exact ⟨rfl, rfl⟩)); (focus (first | rfl | kernel_rfl)); (focus (simp only [List.nil_append, List.cons_append]; rfl)); (focus (simp; rfl))))
            apply f_retf
            · simp [*]; rfl
            · simp
            · simp [*]
end Go.Proofs.Ytkeanadlfkfglaa.Vm
