/- Walks: tokens, as lex reads them. -/
import Derived.Test.YtkeanadlfkfglaaLxD
set_option linter.unusedSimpArgs false
set_option linter.unusedVariables false
set_option maxRecDepth 100000
set_option maxHeartbeats 4000000
namespace Go.Proofs.Ytkeanadlfkfglaa.Vm
open Go
variable {m : Int}
attribute [local irreducible] wpD opsD thenD blockD planD planA
attribute [local simp] List.take_of_length_le List.drop_of_length_le bne

abbrev tokC (k : Nat) (a : Int) (t : List UInt8) : List D := [.int .i64 k, .int .i64 a, .str t]
theorem ite_cast (p : Prop) [Decidable p] (a b : Nat) : ((if p then a else b : Nat) : Int) = if p then (a : Int) else b := by split <;> rfl
theorem long_if (n k : Nat) : (if (k : Int) < (n : Int) then (6 : Int) else 0) = ((if k < n then 6 else 0 : Nat) : Int) := by
  by_cases h : k < n
  · rw [if_pos h, if_pos (by omega)]; rfl
  · rw [if_neg h, if_neg (by omega)]; rfl
theorem long_nat (n k : Nat) : Ans (L m) 24 [.int .i64 n, .int .i64 k] (.int .i64 ((if k < n then 6 else 0 : Nat) : Int)) := by
  have := long_ok (m := m) n k
  rw [long_if] at this
  exact this
def signsL : List UInt8 := [123, 125, 40, 41, 59, 61]
theorem sign_all : ∀ n : Fin 256, decide (0 ≤ Lib.indexByte signsL (UInt8.ofNat n.val)) = isSign (UInt8.ofNat n.val) := by decide +kernel
theorem sign_same (c : UInt8) : decide (0 ≤ Lib.indexByte signsL c) = isSign c := by
  have := sign_all ⟨c.toNat, c.toNat_lt⟩
  simpa using this
theorem sign_idx (c : UInt8) : ∃ x, Lib.indexByte signsL c = x ∧ (isSign c = true → 0 ≤ x) ∧ (isSign c = false → ¬ 0 ≤ x) :=
  ⟨_, rfl, fun h => of_decide_eq_true ((sign_same c).trans h), fun h => of_decide_eq_false ((sign_same c).trans h)⟩
theorem getD_succ (c : UInt8) (r : List UInt8) (n : Nat) : (c :: r).getD (n + 1) 0 = r.getD n 0 := rfl
theorem token_ok (c : UInt8) (r : List UInt8) (hn : r.length < 1000000) :
    Ans (L m) 16 [.str (c :: r)] (.tuple [.agg (tokC (tok (c :: r)).1 0 (tok (c :: r)).2.1), .int .i64 (tok (c :: r)).2.2.1, .int .i64 (tok (c :: r)).2.2.2]) := by
  refine fn_of_body L_ok (fn := Try.f16) rfl rfl rfl rfl (by kernel_rfl) ?_
  have hlen : (c :: r).length < 1000000000 := by simp; omega
  have hl1 : (0 : Int) ≤ r.length := by omega
  have hl0 : (1 : Int) ≤ (r.length : Int) + 1 := by omega
  have c1 := small_ok (m := m) c
  have c2 := capital_ok (m := m) c
  cases h1 : isSmall c
  · rw [h1] at c1
    cases h2 : isCap c
    · rw [h2] at c2
      cases h3 : isB c 34
      · have i1 := indexByte_ok (m := m) signsL c
        obtain ⟨x, hx, p1, p2⟩ := sign_idx c
        rw [hx] at i1
        simp only [signsL] at i1
        clear hx
        cases h4 : isSign c
        · have ht : tok (c :: r) = (0, [], 0, 3) := by
            simp only [tok, h1, h2, h3, h4, if_false, Bool.false_eq_true]
          rw [ht]
          have i3 := p2 h4
          clear p1 p2
          repeat' (first
            | apply w_seq
            | apply w_region
            | apply o_end
            | apply t_normal
            | (apply o_add; (focus (first | rfl | (apply g_in; rfl; rfl; (focus (simp [*]; done))))); (focus (simp [*]; rfl)); rfl; (focus (simp [*]; rfl)); rfl; (focus (apply wrap_i64 <;> omega)))
            | (apply o_sub; (focus (first | rfl | (apply g_in; rfl; rfl; (focus (simp [*]; done))))); (focus (simp [*]; rfl)); rfl; (focus (simp [*]; rfl)); rfl; (focus (apply wrap_i64 <;> omega)))
            | (apply o_val; (focus (first | rfl | (apply g_in; rfl; rfl; (focus (simp [*]; done))))); (focus (simp [*]; rfl)))
            | (apply o_fn fine; (focus (first | rfl | (apply g_in; rfl; rfl; (focus (simp [*]; done))))); (focus (simp [*]; exact ⟨rfl, rfl⟩)); (focus (exact c1)); (focus (simp [*]; done)))
            | (apply o_fn fine; (focus (first | rfl | (apply g_in; rfl; rfl; (focus (simp [*]; done))))); (focus (simp [*]; exact ⟨rfl, rfl⟩)); (focus (exact c2)); (focus (simp [*]; done)))
            | (apply o_fn fine; (focus (first | rfl | (apply g_in; rfl; rfl; (focus (simp [*]; done))))); (focus (simp [*]; exact ⟨rfl, rfl⟩)); (focus (exact i1)); (focus (simp [*]; done)))
            | (apply o_mem; (focus (first | rfl | (apply g_in; rfl; rfl; (focus (simp [*]; done))))); rfl; (focus (simp [*]; exact ⟨rfl, rfl⟩)))
            | apply w_skip
            | apply w_block
            | apply b_normal
            | apply w_ret
            | apply t_ret
            | apply b_ret
            | apply w_exit
            | apply t_exit
            | apply b_here
            | (apply b_on; (focus decide))
            | (apply w_true; (focus (simp [*]; done)))
            | (apply w_false; (focus (simp [*]; done)))
            | ((apply w_cond; (focus (simp [*]; rfl)); rfl) <;> (intro hc; have hc' := hc; try simp at hc'))
            | (apply o_no; (focus (first | (apply g_out; rfl; rfl; (focus (simp [*]; done))) | (apply g_un; rfl; rfl; (focus (simp [*]; done))))))
            | ((apply o_if; rfl; rfl; (focus (simp [*]; rfl)); rfl) <;> (intro hg; (fail_if_success (guard_hyp hg : true = true)); (fail_if_success (guard_hyp hg : false = false)); have hg' := hg; (try simp at hg'); have hg2 := hg; (try simp only [bne, Bool.not_not, Bool.not_true, Bool.not_false, Bool.not_or, Bool.not_and, Bool.not_eq_true', Bool.not_eq_false', Bool.and_eq_true, Bool.or_eq_false_iff] at hg2)))
            | (apply w_drawA; rfl; (focus (decide +kernel)); (focus (simp; rfl)); (focus (simp; rfl)))
            | (apply w_drawN; rfl; (focus (decide +kernel)); (focus (simp; rfl)))
            | (apply a_end; (focus (simp; rfl)))
            | (apply a_val; (focus (simp; rfl)); (focus (intro u; first | rfl | (apply g_in; rfl; rfl; (focus (simp [*]; done))))); (focus (intro H' u; simp [*]; rfl)); (focus (simp only [List.nil_append, List.cons_append]; rfl)))
            | (apply a_fn fine; (focus (simp; rfl)); (focus (intro u; first | rfl | (apply g_in; rfl; rfl; (focus (simp [*]; done))))); (focus (intro u; simp [*]; exact ⟨rfl, rfl⟩)); (focus (exact c1)); (focus (simp [*]; done)); (focus (simp only [List.nil_append, List.cons_append]; rfl)))
            | (apply a_fn fine; (focus (simp; rfl)); (focus (intro u; first | rfl | (apply g_in; rfl; rfl; (focus (simp [*]; done))))); (focus (intro u; simp [*]; exact ⟨rfl, rfl⟩)); (focus (exact c2)); (focus (simp [*]; done)); (focus (simp only [List.nil_append, List.cons_append]; rfl)))
            | (apply a_fn fine; (focus (simp; rfl)); (focus (intro u; first | rfl | (apply g_in; rfl; rfl; (focus (simp [*]; done))))); (focus (intro u; simp [*]; exact ⟨rfl, rfl⟩)); (focus (exact i1)); (focus (simp [*]; done)); (focus (simp only [List.nil_append, List.cons_append]; rfl)))
            | (apply a_tie; (focus (simp; rfl)); (focus (intro u; first | rfl | (apply g_in; rfl; rfl; (focus (simp [*]; done))))); (focus (intro u; simp [*]; rfl)); (focus (first | rfl | kernel_rfl)); (focus (simp only [List.nil_append, List.cons_append]; rfl)); (focus (simp; rfl)))
            | (apply a_no; (focus (simp; rfl)); (focus (intro u; first | (apply g_out; rfl; rfl; (focus (simp [*]; done))) | (apply g_un; rfl; rfl; (focus (simp [*]; done))))); (focus (simp only [List.nil_append, List.cons_append]; rfl)))
            | ((apply a_if; (focus (simp; rfl)); rfl; rfl; (focus (intro u; simp [*]; rfl)); rfl) <;> (intro hg; (fail_if_success (guard_hyp hg : true = true)); (fail_if_success (guard_hyp hg : false = false)); have hg' := hg; (try simp at hg'); have hg2 := hg; (try simp only [bne, Bool.not_not, Bool.not_true, Bool.not_false, Bool.not_or, Bool.not_and, Bool.not_eq_true', Bool.not_eq_false', Bool.and_eq_true, Bool.or_eq_false_iff] at hg2)))
            | (apply a_frz; (focus (simp; rfl)); (focus (intro u; first | rfl | (apply g_in; rfl; rfl; (focus (simp [*]; done))))); (focus (intro u; rfl)); (focus (intro H' u; simp [*]; refine ⟨_, _, ⟨rfl, rfl⟩, ?_, ?_⟩; (focus (simp; done)); (focus (first | exact Snap.flat (by simp) | exact Snap.ref_flat (by simp) rfl rfl rfl (by simp) (by simp) | exact Snap.slice_flat (by simp) rfl (by simp; rfl) (by simp) (by simp) | exact Snap.slice_flat (by simp) (by simp; exact ⟨rfl, rfl, rfl⟩) (by simp; rfl) (by simp) (by simp))))); (focus (simp only [List.nil_append, List.cons_append]; rfl)))
            | (apply a_mem; (focus (simp; rfl)); (focus (intro u; first | rfl | (apply g_in; rfl; rfl; (focus (simp [*]; done))))); (focus (intro u; rfl)); (focus (intro u; simp [*]; exact ⟨rfl, rfl⟩)); (focus (first | rfl | kernel_rfl)); (focus (simp only [List.nil_append, List.cons_append]; rfl)); (focus (simp; rfl))))
          · apply f_retf
            · simp [*]; rfl
            · simp
            · rfl
        · have ht : tok (c :: r) = (4, (c :: r).take 1, 1, 0) := by
            simp only [tok, h1, h2, h3, h4, if_true, if_false, Bool.false_eq_true]
          rw [ht]
          have i3 := p1 h4
          clear p1 p2
          repeat' (first
            | apply w_seq
            | apply w_region
            | apply o_end
            | apply t_normal
            | (apply o_add; (focus (first | rfl | (apply g_in; rfl; rfl; (focus (simp [*]; done))))); (focus (simp [*]; rfl)); rfl; (focus (simp [*]; rfl)); rfl; (focus (apply wrap_i64 <;> omega)))
            | (apply o_sub; (focus (first | rfl | (apply g_in; rfl; rfl; (focus (simp [*]; done))))); (focus (simp [*]; rfl)); rfl; (focus (simp [*]; rfl)); rfl; (focus (apply wrap_i64 <;> omega)))
            | (apply o_val; (focus (first | rfl | (apply g_in; rfl; rfl; (focus (simp [*]; done))))); (focus (simp [*]; rfl)))
            | (apply o_fn fine; (focus (first | rfl | (apply g_in; rfl; rfl; (focus (simp [*]; done))))); (focus (simp [*]; exact ⟨rfl, rfl⟩)); (focus (exact c1)); (focus (simp [*]; done)))
            | (apply o_fn fine; (focus (first | rfl | (apply g_in; rfl; rfl; (focus (simp [*]; done))))); (focus (simp [*]; exact ⟨rfl, rfl⟩)); (focus (exact c2)); (focus (simp [*]; done)))
            | (apply o_fn fine; (focus (first | rfl | (apply g_in; rfl; rfl; (focus (simp [*]; done))))); (focus (simp [*]; exact ⟨rfl, rfl⟩)); (focus (exact i1)); (focus (simp [*]; done)))
            | (apply o_mem; (focus (first | rfl | (apply g_in; rfl; rfl; (focus (simp [*]; done))))); rfl; (focus (simp [*]; exact ⟨rfl, rfl⟩)))
            | apply w_skip
            | apply w_block
            | apply b_normal
            | apply w_ret
            | apply t_ret
            | apply b_ret
            | apply w_exit
            | apply t_exit
            | apply b_here
            | (apply b_on; (focus decide))
            | (apply w_true; (focus (simp [*]; done)))
            | (apply w_false; (focus (simp [*]; done)))
            | ((apply w_cond; (focus (simp [*]; rfl)); rfl) <;> (intro hc; have hc' := hc; try simp at hc'))
            | (apply o_no; (focus (first | (apply g_out; rfl; rfl; (focus (simp [*]; done))) | (apply g_un; rfl; rfl; (focus (simp [*]; done))))))
            | ((apply o_if; rfl; rfl; (focus (simp [*]; rfl)); rfl) <;> (intro hg; (fail_if_success (guard_hyp hg : true = true)); (fail_if_success (guard_hyp hg : false = false)); have hg' := hg; (try simp at hg'); have hg2 := hg; (try simp only [bne, Bool.not_not, Bool.not_true, Bool.not_false, Bool.not_or, Bool.not_and, Bool.not_eq_true', Bool.not_eq_false', Bool.and_eq_true, Bool.or_eq_false_iff] at hg2)))
            | (apply w_drawA; rfl; (focus (decide +kernel)); (focus (simp; rfl)); (focus (simp; rfl)))
            | (apply w_drawN; rfl; (focus (decide +kernel)); (focus (simp; rfl)))
            | (apply a_end; (focus (simp; rfl)))
            | (apply a_val; (focus (simp; rfl)); (focus (intro u; first | rfl | (apply g_in; rfl; rfl; (focus (simp [*]; done))))); (focus (intro H' u; simp [*]; rfl)); (focus (simp only [List.nil_append, List.cons_append]; rfl)))
            | (apply a_fn fine; (focus (simp; rfl)); (focus (intro u; first | rfl | (apply g_in; rfl; rfl; (focus (simp [*]; done))))); (focus (intro u; simp [*]; exact ⟨rfl, rfl⟩)); (focus (exact c1)); (focus (simp [*]; done)); (focus (simp only [List.nil_append, List.cons_append]; rfl)))
            | (apply a_fn fine; (focus (simp; rfl)); (focus (intro u; first | rfl | (apply g_in; rfl; rfl; (focus (simp [*]; done))))); (focus (intro u; simp [*]; exact ⟨rfl, rfl⟩)); (focus (exact c2)); (focus (simp [*]; done)); (focus (simp only [List.nil_append, List.cons_append]; rfl)))
            | (apply a_fn fine; (focus (simp; rfl)); (focus (intro u; first | rfl | (apply g_in; rfl; rfl; (focus (simp [*]; done))))); (focus (intro u; simp [*]; exact ⟨rfl, rfl⟩)); (focus (exact i1)); (focus (simp [*]; done)); (focus (simp only [List.nil_append, List.cons_append]; rfl)))
            | (apply a_tie; (focus (simp; rfl)); (focus (intro u; first | rfl | (apply g_in; rfl; rfl; (focus (simp [*]; done))))); (focus (intro u; simp [*]; rfl)); (focus (first | rfl | kernel_rfl)); (focus (simp only [List.nil_append, List.cons_append]; rfl)); (focus (simp; rfl)))
            | (apply a_no; (focus (simp; rfl)); (focus (intro u; first | (apply g_out; rfl; rfl; (focus (simp [*]; done))) | (apply g_un; rfl; rfl; (focus (simp [*]; done))))); (focus (simp only [List.nil_append, List.cons_append]; rfl)))
            | ((apply a_if; (focus (simp; rfl)); rfl; rfl; (focus (intro u; simp [*]; rfl)); rfl) <;> (intro hg; (fail_if_success (guard_hyp hg : true = true)); (fail_if_success (guard_hyp hg : false = false)); have hg' := hg; (try simp at hg'); have hg2 := hg; (try simp only [bne, Bool.not_not, Bool.not_true, Bool.not_false, Bool.not_or, Bool.not_and, Bool.not_eq_true', Bool.not_eq_false', Bool.and_eq_true, Bool.or_eq_false_iff] at hg2)))
            | (apply a_frz; (focus (simp; rfl)); (focus (intro u; first | rfl | (apply g_in; rfl; rfl; (focus (simp [*]; done))))); (focus (intro u; rfl)); (focus (intro H' u; simp [*]; refine ⟨_, _, ⟨rfl, rfl⟩, ?_, ?_⟩; (focus (simp; done)); (focus (first | exact Snap.flat (by simp) | exact Snap.ref_flat (by simp) rfl rfl rfl (by simp) (by simp) | exact Snap.slice_flat (by simp) rfl (by simp; rfl) (by simp) (by simp) | exact Snap.slice_flat (by simp) (by simp; exact ⟨rfl, rfl, rfl⟩) (by simp; rfl) (by simp) (by simp))))); (focus (simp only [List.nil_append, List.cons_append]; rfl)))
            | (apply a_mem; (focus (simp; rfl)); (focus (intro u; first | rfl | (apply g_in; rfl; rfl; (focus (simp [*]; done))))); (focus (intro u; rfl)); (focus (intro u; simp [*]; exact ⟨rfl, rfl⟩)); (focus (first | rfl | kernel_rfl)); (focus (simp only [List.nil_append, List.cons_append]; rfl)); (focus (simp; rfl))))
          · apply f_retf
            · simp [*]; rfl
            · simp
            · rfl
      · have r3 := run_ok (m := m) r _ isQuoted (by omega) quoted_ok
        have l3 := runL_le isQuoted r
        have hl := long_nat (m := m) (runL isQuoted r) 200
        have ht : tok (c :: r) = if runL isQuoted r + 1 == r.length + 1 || !isB (r.getD (runL isQuoted r) 0) 34 then (0, [], 0, 3) else (3, r.take (runL isQuoted r), runL isQuoted r + 2, if 200 < runL isQuoted r then 6 else 0) := by
          simp only [tok, h1, h2, h3, if_true, if_false, Bool.false_eq_true, List.drop_succ_cons, List.drop_zero, getD_succ, List.length_cons, List.take_succ_cons]
        generalize runL isQuoted r = n at *
        have b1 : (n : Int) + 1 < 9223372036854775808 := by omega
        by_cases he : n = r.length
        · have ht' : tok (c :: r) = (0, [], 0, 3) := by rw [ht, he]; simp
          rw [ht']
          clear ht ht'
          subst he
          repeat' (first
            | apply w_seq
            | apply w_region
            | apply o_end
            | apply t_normal
            | (apply o_add; (focus (first | rfl | (apply g_in; rfl; rfl; (focus (simp [*]; done))))); (focus (simp [*]; rfl)); rfl; (focus (simp [*]; rfl)); rfl; (focus (apply wrap_i64 <;> omega)))
            | (apply o_sub; (focus (first | rfl | (apply g_in; rfl; rfl; (focus (simp [*]; done))))); (focus (simp [*]; rfl)); rfl; (focus (simp [*]; rfl)); rfl; (focus (apply wrap_i64 <;> omega)))
            | (apply o_mpick; (focus (first | (apply g_none; rfl) | (apply g_sym; rfl; rfl; (focus (simp [*]; rfl)); (focus (simp only [gOf_bool, gOf_cond, gOf_cond', gOf_un, beq_true, beq_false, Bool.and_true]; rfl))))); (focus (intro hb; (try simp only [Bool.not_or, Bool.not_and, Bool.not_not, Bool.and_eq_true, Bool.not_eq_true', Bool.not_eq_false', Bool.not_eq_true, Bool.not_eq_false] at hb); simp [*]; rfl)); rfl; (focus (intro hb hp; (try simp only [Bool.not_or, Bool.not_and, Bool.not_not, Bool.and_eq_true, Bool.not_eq_true', Bool.not_eq_false', Bool.not_eq_true, Bool.not_eq_false] at hb); (try simp only [Bool.not_or, Bool.not_and, Bool.not_not, Bool.and_eq_true, Bool.not_eq_true', Bool.not_eq_false', Bool.not_eq_true, Bool.not_eq_false] at hp); simp [*]; rfl)); rfl; (focus (intro hb hp; (try simp only [Bool.not_or, Bool.not_and, Bool.not_not, Bool.and_eq_true, Bool.not_eq_true', Bool.not_eq_false', Bool.not_eq_true, Bool.not_eq_false] at hb); (try simp only [Bool.not_or, Bool.not_and, Bool.not_not, Bool.and_eq_true, Bool.not_eq_true', Bool.not_eq_false', Bool.not_eq_true, Bool.not_eq_false] at hp); simp [*]; rfl)); rfl)
            | (apply o_val; (focus (first | rfl | (apply g_in; rfl; rfl; (focus (simp [*]; done))))); (focus (simp [*]; rfl)))
            | (apply o_fn fine; (focus (first | rfl | (apply g_in; rfl; rfl; (focus (simp [*]; done))))); (focus (simp [*]; exact ⟨rfl, rfl⟩)); (focus (exact c1)); (focus (simp [*]; done)))
            | (apply o_fn fine; (focus (first | rfl | (apply g_in; rfl; rfl; (focus (simp [*]; done))))); (focus (simp [*]; exact ⟨rfl, rfl⟩)); (focus (exact c2)); (focus (simp [*]; done)))
            | (apply o_fn fine; (focus (first | rfl | (apply g_in; rfl; rfl; (focus (simp [*]; done))))); (focus (simp [*]; exact ⟨rfl, rfl⟩)); (focus (exact r3)); (focus (simp [*]; done)))
            | (apply o_fn fine; (focus (first | rfl | (apply g_in; rfl; rfl; (focus (simp [*]; done))))); (focus (simp [*]; exact ⟨rfl, rfl⟩)); (focus (exact hl)); (focus (simp [*]; done)))
            | (apply o_mem; (focus (first | rfl | (apply g_in; rfl; rfl; (focus (simp [*]; done))))); rfl; (focus (simp [*]; exact ⟨rfl, rfl⟩)))
            | apply w_skip
            | apply w_block
            | apply b_normal
            | apply w_ret
            | apply t_ret
            | apply b_ret
            | apply w_exit
            | apply t_exit
            | apply b_here
            | (apply b_on; (focus decide))
            | (apply w_true; (focus (simp [*]; done)))
            | (apply w_false; (focus (simp [*]; done)))
            | ((apply w_cond; (focus (simp [*]; rfl)); rfl) <;> (intro hc; have hc' := hc; try simp at hc'))
            | (apply o_no; (focus (first | (apply g_out; rfl; rfl; (focus (simp [*]; done))) | (apply g_un; rfl; rfl; (focus (simp [*]; done))))))
            | (apply o_maybe; (focus (first | (apply g_none; rfl) | (apply g_sym; rfl; rfl; (focus (simp [*]; rfl)); (focus (simp only [gOf_bool, gOf_cond, gOf_cond', gOf_un, beq_true, beq_false, Bool.and_true]; rfl))))); (focus (intro hb; (try simp only [Bool.not_or, Bool.not_and, Bool.not_not, Bool.and_eq_true, Bool.not_eq_true', Bool.not_eq_false', Bool.not_eq_true, Bool.not_eq_false] at hb); simp [*]; rfl)))
            | (apply o_mfn fine; (focus (first | (apply g_none; rfl) | (apply g_sym; rfl; rfl; (focus (simp [*]; rfl)); (focus (simp only [gOf_bool, gOf_cond, gOf_cond', gOf_un, beq_true, beq_false, Bool.and_true]; rfl))))); (focus (intro hb; (try simp only [Bool.not_or, Bool.not_and, Bool.not_not, Bool.and_eq_true, Bool.not_eq_true', Bool.not_eq_false', Bool.not_eq_true, Bool.not_eq_false] at hb); simp [*]; exact ⟨rfl, rfl⟩)); (focus (intro _; exact c1)); (focus (intro _; simp [*]; done)))
            | (apply o_mfn fine; (focus (first | (apply g_none; rfl) | (apply g_sym; rfl; rfl; (focus (simp [*]; rfl)); (focus (simp only [gOf_bool, gOf_cond, gOf_cond', gOf_un, beq_true, beq_false, Bool.and_true]; rfl))))); (focus (intro hb; (try simp only [Bool.not_or, Bool.not_and, Bool.not_not, Bool.and_eq_true, Bool.not_eq_true', Bool.not_eq_false', Bool.not_eq_true, Bool.not_eq_false] at hb); simp [*]; exact ⟨rfl, rfl⟩)); (focus (intro _; exact c2)); (focus (intro _; simp [*]; done)))
            | (apply o_mfn fine; (focus (first | (apply g_none; rfl) | (apply g_sym; rfl; rfl; (focus (simp [*]; rfl)); (focus (simp only [gOf_bool, gOf_cond, gOf_cond', gOf_un, beq_true, beq_false, Bool.and_true]; rfl))))); (focus (intro hb; (try simp only [Bool.not_or, Bool.not_and, Bool.not_not, Bool.and_eq_true, Bool.not_eq_true', Bool.not_eq_false', Bool.not_eq_true, Bool.not_eq_false] at hb); simp [*]; exact ⟨rfl, rfl⟩)); (focus (intro _; exact r3)); (focus (intro _; simp [*]; done)))
            | (apply o_mfn fine; (focus (first | (apply g_none; rfl) | (apply g_sym; rfl; rfl; (focus (simp [*]; rfl)); (focus (simp only [gOf_bool, gOf_cond, gOf_cond', gOf_un, beq_true, beq_false, Bool.and_true]; rfl))))); (focus (intro hb; (try simp only [Bool.not_or, Bool.not_and, Bool.not_not, Bool.and_eq_true, Bool.not_eq_true', Bool.not_eq_false', Bool.not_eq_true, Bool.not_eq_false] at hb); simp [*]; exact ⟨rfl, rfl⟩)); (focus (intro _; exact hl)); (focus (intro _; simp [*]; done)))
            | ((apply o_if; rfl; rfl; (focus (simp [*]; rfl)); rfl) <;> (intro hg; (fail_if_success (guard_hyp hg : true = true)); (fail_if_success (guard_hyp hg : false = false)); have hg' := hg; (try simp at hg'); have hg2 := hg; (try simp only [bne, Bool.not_not, Bool.not_true, Bool.not_false, Bool.not_or, Bool.not_and, Bool.not_eq_true', Bool.not_eq_false', Bool.and_eq_true, Bool.or_eq_false_iff] at hg2)))
            | (apply w_drawA; rfl; (focus (decide +kernel)); (focus (simp; rfl)); (focus (simp; rfl)))
            | (apply w_drawN; rfl; (focus (decide +kernel)); (focus (simp; rfl)))
            | (apply a_end; (focus (simp; rfl)))
            | (apply a_val; (focus (simp; rfl)); (focus (intro u; first | rfl | (apply g_in; rfl; rfl; (focus (simp [*]; done))))); (focus (intro H' u; simp [*]; rfl)); (focus (simp only [List.nil_append, List.cons_append]; rfl)))
            | (apply a_fn fine; (focus (simp; rfl)); (focus (intro u; first | rfl | (apply g_in; rfl; rfl; (focus (simp [*]; done))))); (focus (intro u; simp [*]; exact ⟨rfl, rfl⟩)); (focus (exact c1)); (focus (simp [*]; done)); (focus (simp only [List.nil_append, List.cons_append]; rfl)))
            | (apply a_fn fine; (focus (simp; rfl)); (focus (intro u; first | rfl | (apply g_in; rfl; rfl; (focus (simp [*]; done))))); (focus (intro u; simp [*]; exact ⟨rfl, rfl⟩)); (focus (exact c2)); (focus (simp [*]; done)); (focus (simp only [List.nil_append, List.cons_append]; rfl)))
            | (apply a_fn fine; (focus (simp; rfl)); (focus (intro u; first | rfl | (apply g_in; rfl; rfl; (focus (simp [*]; done))))); (focus (intro u; simp [*]; exact ⟨rfl, rfl⟩)); (focus (exact r3)); (focus (simp [*]; done)); (focus (simp only [List.nil_append, List.cons_append]; rfl)))
            | (apply a_fn fine; (focus (simp; rfl)); (focus (intro u; first | rfl | (apply g_in; rfl; rfl; (focus (simp [*]; done))))); (focus (intro u; simp [*]; exact ⟨rfl, rfl⟩)); (focus (exact hl)); (focus (simp [*]; done)); (focus (simp only [List.nil_append, List.cons_append]; rfl)))
            | (apply a_tie; (focus (simp; rfl)); (focus (intro u; first | rfl | (apply g_in; rfl; rfl; (focus (simp [*]; done))))); (focus (intro u; simp [*]; rfl)); (focus (first | rfl | kernel_rfl)); (focus (simp only [List.nil_append, List.cons_append]; rfl)); (focus (simp; rfl)))
            | (apply a_no; (focus (simp; rfl)); (focus (intro u; first | (apply g_out; rfl; rfl; (focus (simp [*]; done))) | (apply g_un; rfl; rfl; (focus (simp [*]; done))))); (focus (simp only [List.nil_append, List.cons_append]; rfl)))
            | ((apply a_if; (focus (simp; rfl)); rfl; rfl; (focus (intro u; simp [*]; rfl)); rfl) <;> (intro hg; (fail_if_success (guard_hyp hg : true = true)); (fail_if_success (guard_hyp hg : false = false)); have hg' := hg; (try simp at hg'); have hg2 := hg; (try simp only [bne, Bool.not_not, Bool.not_true, Bool.not_false, Bool.not_or, Bool.not_and, Bool.not_eq_true', Bool.not_eq_false', Bool.and_eq_true, Bool.or_eq_false_iff] at hg2)))
            | (apply a_frz; (focus (simp; rfl)); (focus (intro u; first | rfl | (apply g_in; rfl; rfl; (focus (simp [*]; done))))); (focus (intro u; rfl)); (focus (intro H' u; simp [*]; refine ⟨_, _, ⟨rfl, rfl⟩, ?_, ?_⟩; (focus (simp; done)); (focus (first | exact Snap.flat (by simp) | exact Snap.ref_flat (by simp) rfl rfl rfl (by simp) (by simp) | exact Snap.slice_flat (by simp) rfl (by simp; rfl) (by simp) (by simp) | exact Snap.slice_flat (by simp) (by simp; exact ⟨rfl, rfl, rfl⟩) (by simp; rfl) (by simp) (by simp))))); (focus (simp only [List.nil_append, List.cons_append]; rfl)))
            | (apply a_mem; (focus (simp; rfl)); (focus (intro u; first | rfl | (apply g_in; rfl; rfl; (focus (simp [*]; done))))); (focus (intro u; rfl)); (focus (intro u; simp [*]; exact ⟨rfl, rfl⟩)); (focus (first | rfl | kernel_rfl)); (focus (simp only [List.nil_append, List.cons_append]; rfl)); (focus (simp; rfl))))
          · apply f_retf
            · simp [*]; rfl
            · simp
            · rfl
        · have hlt : n < r.length := by omega
          have hg : r.getD n 0 = r[n] := by simp [List.getD_eq_getElem?_getD, hlt]
          have hne : ((n : Int) + 1 == (r.length : Int) + 1) = false := by simp; omega
          have hx1 : (0 : Int) ≤ (n : Int) + 1 := by omega
          have hw1 : IntKind.i64.wrap ((n : Int) + 1) = (n : Int) + 1 := wrap_i64 (by omega) (by omega)
          have hw2 : IntKind.i64.wrap ((n : Int) + 2) = (n : Int) + 2 := wrap_i64 (by omega) (by omega)
          have hx5 : (1 : Int) ≤ (n : Int) + 1 := by omega
          have hx2 : ((n : Int) + 1).toNat = n + 1 := by omega
          have hx3 : (n : Int) < r.length := by omega
          have hx4 : ((n : Int) + 2).toNat = n + 2 := by omega
          have hne' : (n + 1 == r.length + 1) = false := by simp; omega
          cases hq : isB r[n] 34
          · have ht' : tok (c :: r) = (0, [], 0, 3) := by rw [ht, hg, hq]; simp
            rw [ht']
            clear ht ht'
            repeat' (first
              | apply w_seq
              | apply w_region
              | apply o_end
              | apply t_normal
              | (apply o_add; (focus (first | rfl | (apply g_in; rfl; rfl; (focus (simp [*]; done))))); (focus (simp [*]; rfl)); rfl; (focus (simp [*]; rfl)); rfl; (focus (apply wrap_i64 <;> omega)))
              | (apply o_sub; (focus (first | rfl | (apply g_in; rfl; rfl; (focus (simp [*]; done))))); (focus (simp [*]; rfl)); rfl; (focus (simp [*]; rfl)); rfl; (focus (apply wrap_i64 <;> omega)))
              | (apply o_mpick; (focus (first | (apply g_none; rfl) | (apply g_sym; rfl; rfl; (focus (simp [*]; rfl)); (focus (simp only [gOf_bool, gOf_cond, gOf_cond', gOf_un, beq_true, beq_false, Bool.and_true]; rfl))))); (focus (intro hb; (try simp only [Bool.not_or, Bool.not_and, Bool.not_not, Bool.and_eq_true, Bool.not_eq_true', Bool.not_eq_false', Bool.not_eq_true, Bool.not_eq_false] at hb); simp [*]; rfl)); rfl; (focus (intro hb hp; (try simp only [Bool.not_or, Bool.not_and, Bool.not_not, Bool.and_eq_true, Bool.not_eq_true', Bool.not_eq_false', Bool.not_eq_true, Bool.not_eq_false] at hb); (try simp only [Bool.not_or, Bool.not_and, Bool.not_not, Bool.and_eq_true, Bool.not_eq_true', Bool.not_eq_false', Bool.not_eq_true, Bool.not_eq_false] at hp); simp [*]; rfl)); rfl; (focus (intro hb hp; (try simp only [Bool.not_or, Bool.not_and, Bool.not_not, Bool.and_eq_true, Bool.not_eq_true', Bool.not_eq_false', Bool.not_eq_true, Bool.not_eq_false] at hb); (try simp only [Bool.not_or, Bool.not_and, Bool.not_not, Bool.and_eq_true, Bool.not_eq_true', Bool.not_eq_false', Bool.not_eq_true, Bool.not_eq_false] at hp); simp [*]; rfl)); rfl)
              | (apply o_val; (focus (first | rfl | (apply g_in; rfl; rfl; (focus (simp [*]; done))))); (focus (simp [*]; rfl)))
              | (apply o_fn fine; (focus (first | rfl | (apply g_in; rfl; rfl; (focus (simp [*]; done))))); (focus (simp [*]; exact ⟨rfl, rfl⟩)); (focus (exact c1)); (focus (simp [*]; done)))
              | (apply o_fn fine; (focus (first | rfl | (apply g_in; rfl; rfl; (focus (simp [*]; done))))); (focus (simp [*]; exact ⟨rfl, rfl⟩)); (focus (exact c2)); (focus (simp [*]; done)))
              | (apply o_fn fine; (focus (first | rfl | (apply g_in; rfl; rfl; (focus (simp [*]; done))))); (focus (simp [*]; exact ⟨rfl, rfl⟩)); (focus (exact r3)); (focus (simp [*]; done)))
              | (apply o_fn fine; (focus (first | rfl | (apply g_in; rfl; rfl; (focus (simp [*]; done))))); (focus (simp [*]; exact ⟨rfl, rfl⟩)); (focus (exact hl)); (focus (simp [*]; done)))
              | (apply o_mem; (focus (first | rfl | (apply g_in; rfl; rfl; (focus (simp [*]; done))))); rfl; (focus (simp [*]; exact ⟨rfl, rfl⟩)))
              | apply w_skip
              | apply w_block
              | apply b_normal
              | apply w_ret
              | apply t_ret
              | apply b_ret
              | apply w_exit
              | apply t_exit
              | apply b_here
              | (apply b_on; (focus decide))
              | (apply w_true; (focus (simp [*]; done)))
              | (apply w_false; (focus (simp [*]; done)))
              | ((apply w_cond; (focus (simp [*]; rfl)); rfl) <;> (intro hc; have hc' := hc; try simp at hc'))
              | (apply o_no; (focus (first | (apply g_out; rfl; rfl; (focus (simp [*]; done))) | (apply g_un; rfl; rfl; (focus (simp [*]; done))))))
              | (apply o_maybe; (focus (first | (apply g_none; rfl) | (apply g_sym; rfl; rfl; (focus (simp [*]; rfl)); (focus (simp only [gOf_bool, gOf_cond, gOf_cond', gOf_un, beq_true, beq_false, Bool.and_true]; rfl))))); (focus (intro hb; (try simp only [Bool.not_or, Bool.not_and, Bool.not_not, Bool.and_eq_true, Bool.not_eq_true', Bool.not_eq_false', Bool.not_eq_true, Bool.not_eq_false] at hb); simp [*]; rfl)))
              | (apply o_mfn fine; (focus (first | (apply g_none; rfl) | (apply g_sym; rfl; rfl; (focus (simp [*]; rfl)); (focus (simp only [gOf_bool, gOf_cond, gOf_cond', gOf_un, beq_true, beq_false, Bool.and_true]; rfl))))); (focus (intro hb; (try simp only [Bool.not_or, Bool.not_and, Bool.not_not, Bool.and_eq_true, Bool.not_eq_true', Bool.not_eq_false', Bool.not_eq_true, Bool.not_eq_false] at hb); simp [*]; exact ⟨rfl, rfl⟩)); (focus (intro _; exact c1)); (focus (intro _; simp [*]; done)))
              | (apply o_mfn fine; (focus (first | (apply g_none; rfl) | (apply g_sym; rfl; rfl; (focus (simp [*]; rfl)); (focus (simp only [gOf_bool, gOf_cond, gOf_cond', gOf_un, beq_true, beq_false, Bool.and_true]; rfl))))); (focus (intro hb; (try simp only [Bool.not_or, Bool.not_and, Bool.not_not, Bool.and_eq_true, Bool.not_eq_true', Bool.not_eq_false', Bool.not_eq_true, Bool.not_eq_false] at hb); simp [*]; exact ⟨rfl, rfl⟩)); (focus (intro _; exact c2)); (focus (intro _; simp [*]; done)))
              | (apply o_mfn fine; (focus (first | (apply g_none; rfl) | (apply g_sym; rfl; rfl; (focus (simp [*]; rfl)); (focus (simp only [gOf_bool, gOf_cond, gOf_cond', gOf_un, beq_true, beq_false, Bool.and_true]; rfl))))); (focus (intro hb; (try simp only [Bool.not_or, Bool.not_and, Bool.not_not, Bool.and_eq_true, Bool.not_eq_true', Bool.not_eq_false', Bool.not_eq_true, Bool.not_eq_false] at hb); simp [*]; exact ⟨rfl, rfl⟩)); (focus (intro _; exact r3)); (focus (intro _; simp [*]; done)))
              | (apply o_mfn fine; (focus (first | (apply g_none; rfl) | (apply g_sym; rfl; rfl; (focus (simp [*]; rfl)); (focus (simp only [gOf_bool, gOf_cond, gOf_cond', gOf_un, beq_true, beq_false, Bool.and_true]; rfl))))); (focus (intro hb; (try simp only [Bool.not_or, Bool.not_and, Bool.not_not, Bool.and_eq_true, Bool.not_eq_true', Bool.not_eq_false', Bool.not_eq_true, Bool.not_eq_false] at hb); simp [*]; exact ⟨rfl, rfl⟩)); (focus (intro _; exact hl)); (focus (intro _; simp [*]; done)))
              | ((apply o_if; rfl; rfl; (focus (simp [*]; rfl)); rfl) <;> (intro hg; (fail_if_success (guard_hyp hg : true = true)); (fail_if_success (guard_hyp hg : false = false)); have hg' := hg; (try simp at hg'); have hg2 := hg; (try simp only [bne, Bool.not_not, Bool.not_true, Bool.not_false, Bool.not_or, Bool.not_and, Bool.not_eq_true', Bool.not_eq_false', Bool.and_eq_true, Bool.or_eq_false_iff] at hg2)))
              | (apply w_drawA; rfl; (focus (decide +kernel)); (focus (simp; rfl)); (focus (simp; rfl)))
              | (apply w_drawN; rfl; (focus (decide +kernel)); (focus (simp; rfl)))
              | (apply a_end; (focus (simp; rfl)))
              | (apply a_val; (focus (simp; rfl)); (focus (intro u; first | rfl | (apply g_in; rfl; rfl; (focus (simp [*]; done))))); (focus (intro H' u; simp [*]; rfl)); (focus (simp only [List.nil_append, List.cons_append]; rfl)))
              | (apply a_fn fine; (focus (simp; rfl)); (focus (intro u; first | rfl | (apply g_in; rfl; rfl; (focus (simp [*]; done))))); (focus (intro u; simp [*]; exact ⟨rfl, rfl⟩)); (focus (exact c1)); (focus (simp [*]; done)); (focus (simp only [List.nil_append, List.cons_append]; rfl)))
              | (apply a_fn fine; (focus (simp; rfl)); (focus (intro u; first | rfl | (apply g_in; rfl; rfl; (focus (simp [*]; done))))); (focus (intro u; simp [*]; exact ⟨rfl, rfl⟩)); (focus (exact c2)); (focus (simp [*]; done)); (focus (simp only [List.nil_append, List.cons_append]; rfl)))
              | (apply a_fn fine; (focus (simp; rfl)); (focus (intro u; first | rfl | (apply g_in; rfl; rfl; (focus (simp [*]; done))))); (focus (intro u; simp [*]; exact ⟨rfl, rfl⟩)); (focus (exact r3)); (focus (simp [*]; done)); (focus (simp only [List.nil_append, List.cons_append]; rfl)))
              | (apply a_fn fine; (focus (simp; rfl)); (focus (intro u; first | rfl | (apply g_in; rfl; rfl; (focus (simp [*]; done))))); (focus (intro u; simp [*]; exact ⟨rfl, rfl⟩)); (focus (exact hl)); (focus (simp [*]; done)); (focus (simp only [List.nil_append, List.cons_append]; rfl)))
              | (apply a_tie; (focus (simp; rfl)); (focus (intro u; first | rfl | (apply g_in; rfl; rfl; (focus (simp [*]; done))))); (focus (intro u; simp [*]; rfl)); (focus (first | rfl | kernel_rfl)); (focus (simp only [List.nil_append, List.cons_append]; rfl)); (focus (simp; rfl)))
              | (apply a_no; (focus (simp; rfl)); (focus (intro u; first | (apply g_out; rfl; rfl; (focus (simp [*]; done))) | (apply g_un; rfl; rfl; (focus (simp [*]; done))))); (focus (simp only [List.nil_append, List.cons_append]; rfl)))
              | ((apply a_if; (focus (simp; rfl)); rfl; rfl; (focus (intro u; simp [*]; rfl)); rfl) <;> (intro hg; (fail_if_success (guard_hyp hg : true = true)); (fail_if_success (guard_hyp hg : false = false)); have hg' := hg; (try simp at hg'); have hg2 := hg; (try simp only [bne, Bool.not_not, Bool.not_true, Bool.not_false, Bool.not_or, Bool.not_and, Bool.not_eq_true', Bool.not_eq_false', Bool.and_eq_true, Bool.or_eq_false_iff] at hg2)))
              | (apply a_frz; (focus (simp; rfl)); (focus (intro u; first | rfl | (apply g_in; rfl; rfl; (focus (simp [*]; done))))); (focus (intro u; rfl)); (focus (intro H' u; simp [*]; refine ⟨_, _, ⟨rfl, rfl⟩, ?_, ?_⟩; (focus (simp; done)); (focus (first | exact Snap.flat (by simp) | exact Snap.ref_flat (by simp) rfl rfl rfl (by simp) (by simp) | exact Snap.slice_flat (by simp) rfl (by simp; rfl) (by simp) (by simp) | exact Snap.slice_flat (by simp) (by simp; exact ⟨rfl, rfl, rfl⟩) (by simp; rfl) (by simp) (by simp))))); (focus (simp only [List.nil_append, List.cons_append]; rfl)))
              | (apply a_mem; (focus (simp; rfl)); (focus (intro u; first | rfl | (apply g_in; rfl; rfl; (focus (simp [*]; done))))); (focus (intro u; rfl)); (focus (intro u; simp [*]; exact ⟨rfl, rfl⟩)); (focus (first | rfl | kernel_rfl)); (focus (simp only [List.nil_append, List.cons_append]; rfl)); (focus (simp; rfl))))
            · apply f_retf
              · simp [*]; rfl
              · simp
              · rfl
          · have ht' : tok (c :: r) = (3, r.take n, n + 2, if 200 < n then 6 else 0) := by rw [ht, hg, hq, hne']; simp
            rw [ht']
            clear ht ht'
            repeat' (first
              | apply w_seq
              | apply w_region
              | apply o_end
              | apply t_normal
              | (apply o_add; (focus (first | rfl | (apply g_in; rfl; rfl; (focus (simp [*]; done))))); (focus (simp [*]; rfl)); rfl; (focus (simp [*]; rfl)); rfl; (focus (apply wrap_i64 <;> omega)))
              | (apply o_sub; (focus (first | rfl | (apply g_in; rfl; rfl; (focus (simp [*]; done))))); (focus (simp [*]; rfl)); rfl; (focus (simp [*]; rfl)); rfl; (focus (apply wrap_i64 <;> omega)))
              | (apply o_mpick; (focus (first | (apply g_none; rfl) | (apply g_sym; rfl; rfl; (focus (simp [*]; rfl)); (focus (simp only [gOf_bool, gOf_cond, gOf_cond', gOf_un, beq_true, beq_false, Bool.and_true]; rfl))))); (focus (intro hb; (try simp only [Bool.not_or, Bool.not_and, Bool.not_not, Bool.and_eq_true, Bool.not_eq_true', Bool.not_eq_false', Bool.not_eq_true, Bool.not_eq_false] at hb); simp [*]; rfl)); rfl; (focus (intro hb hp; (try simp only [Bool.not_or, Bool.not_and, Bool.not_not, Bool.and_eq_true, Bool.not_eq_true', Bool.not_eq_false', Bool.not_eq_true, Bool.not_eq_false] at hb); (try simp only [Bool.not_or, Bool.not_and, Bool.not_not, Bool.and_eq_true, Bool.not_eq_true', Bool.not_eq_false', Bool.not_eq_true, Bool.not_eq_false] at hp); simp [*]; rfl)); rfl; (focus (intro hb hp; (try simp only [Bool.not_or, Bool.not_and, Bool.not_not, Bool.and_eq_true, Bool.not_eq_true', Bool.not_eq_false', Bool.not_eq_true, Bool.not_eq_false] at hb); (try simp only [Bool.not_or, Bool.not_and, Bool.not_not, Bool.and_eq_true, Bool.not_eq_true', Bool.not_eq_false', Bool.not_eq_true, Bool.not_eq_false] at hp); simp [*]; rfl)); rfl)
              | (apply o_val; (focus (first | rfl | (apply g_in; rfl; rfl; (focus (simp [*]; done))))); (focus (simp [*]; rfl)))
              | (apply o_fn fine; (focus (first | rfl | (apply g_in; rfl; rfl; (focus (simp [*]; done))))); (focus (simp [*]; exact ⟨rfl, rfl⟩)); (focus (exact c1)); (focus (simp [*]; done)))
              | (apply o_fn fine; (focus (first | rfl | (apply g_in; rfl; rfl; (focus (simp [*]; done))))); (focus (simp [*]; exact ⟨rfl, rfl⟩)); (focus (exact c2)); (focus (simp [*]; done)))
              | (apply o_fn fine; (focus (first | rfl | (apply g_in; rfl; rfl; (focus (simp [*]; done))))); (focus (simp [*]; exact ⟨rfl, rfl⟩)); (focus (exact r3)); (focus (simp [*]; done)))
              | (apply o_fn fine; (focus (first | rfl | (apply g_in; rfl; rfl; (focus (simp [*]; done))))); (focus (simp [*]; exact ⟨rfl, rfl⟩)); (focus (exact hl)); (focus (simp [*]; done)))
              | (apply o_mem; (focus (first | rfl | (apply g_in; rfl; rfl; (focus (simp [*]; done))))); rfl; (focus (simp [*]; exact ⟨rfl, rfl⟩)))
              | apply w_skip
              | apply w_block
              | apply b_normal
              | apply w_ret
              | apply t_ret
              | apply b_ret
              | apply w_exit
              | apply t_exit
              | apply b_here
              | (apply b_on; (focus decide))
              | (apply w_true; (focus (simp [*]; done)))
              | (apply w_false; (focus (simp [*]; done)))
              | ((apply w_cond; (focus (simp [*]; rfl)); rfl) <;> (intro hc; have hc' := hc; try simp at hc'))
              | (apply o_no; (focus (first | (apply g_out; rfl; rfl; (focus (simp [*]; done))) | (apply g_un; rfl; rfl; (focus (simp [*]; done))))))
              | (apply o_maybe; (focus (first | (apply g_none; rfl) | (apply g_sym; rfl; rfl; (focus (simp [*]; rfl)); (focus (simp only [gOf_bool, gOf_cond, gOf_cond', gOf_un, beq_true, beq_false, Bool.and_true]; rfl))))); (focus (intro hb; (try simp only [Bool.not_or, Bool.not_and, Bool.not_not, Bool.and_eq_true, Bool.not_eq_true', Bool.not_eq_false', Bool.not_eq_true, Bool.not_eq_false] at hb); simp [*]; rfl)))
              | (apply o_mfn fine; (focus (first | (apply g_none; rfl) | (apply g_sym; rfl; rfl; (focus (simp [*]; rfl)); (focus (simp only [gOf_bool, gOf_cond, gOf_cond', gOf_un, beq_true, beq_false, Bool.and_true]; rfl))))); (focus (intro hb; (try simp only [Bool.not_or, Bool.not_and, Bool.not_not, Bool.and_eq_true, Bool.not_eq_true', Bool.not_eq_false', Bool.not_eq_true, Bool.not_eq_false] at hb); simp [*]; exact ⟨rfl, rfl⟩)); (focus (intro _; exact c1)); (focus (intro _; simp [*]; done)))
              | (apply o_mfn fine; (focus (first | (apply g_none; rfl) | (apply g_sym; rfl; rfl; (focus (simp [*]; rfl)); (focus (simp only [gOf_bool, gOf_cond, gOf_cond', gOf_un, beq_true, beq_false, Bool.and_true]; rfl))))); (focus (intro hb; (try simp only [Bool.not_or, Bool.not_and, Bool.not_not, Bool.and_eq_true, Bool.not_eq_true', Bool.not_eq_false', Bool.not_eq_true, Bool.not_eq_false] at hb); simp [*]; exact ⟨rfl, rfl⟩)); (focus (intro _; exact c2)); (focus (intro _; simp [*]; done)))
              | (apply o_mfn fine; (focus (first | (apply g_none; rfl) | (apply g_sym; rfl; rfl; (focus (simp [*]; rfl)); (focus (simp only [gOf_bool, gOf_cond, gOf_cond', gOf_un, beq_true, beq_false, Bool.and_true]; rfl))))); (focus (intro hb; (try simp only [Bool.not_or, Bool.not_and, Bool.not_not, Bool.and_eq_true, Bool.not_eq_true', Bool.not_eq_false', Bool.not_eq_true, Bool.not_eq_false] at hb); simp [*]; exact ⟨rfl, rfl⟩)); (focus (intro _; exact r3)); (focus (intro _; simp [*]; done)))
              | (apply o_mfn fine; (focus (first | (apply g_none; rfl) | (apply g_sym; rfl; rfl; (focus (simp [*]; rfl)); (focus (simp only [gOf_bool, gOf_cond, gOf_cond', gOf_un, beq_true, beq_false, Bool.and_true]; rfl))))); (focus (intro hb; (try simp only [Bool.not_or, Bool.not_and, Bool.not_not, Bool.and_eq_true, Bool.not_eq_true', Bool.not_eq_false', Bool.not_eq_true, Bool.not_eq_false] at hb); simp [*]; exact ⟨rfl, rfl⟩)); (focus (intro _; exact hl)); (focus (intro _; simp [*]; done)))
              | ((apply o_if; rfl; rfl; (focus (simp [*]; rfl)); rfl) <;> (intro hg; (fail_if_success (guard_hyp hg : true = true)); (fail_if_success (guard_hyp hg : false = false)); have hg' := hg; (try simp at hg'); have hg2 := hg; (try simp only [bne, Bool.not_not, Bool.not_true, Bool.not_false, Bool.not_or, Bool.not_and, Bool.not_eq_true', Bool.not_eq_false', Bool.and_eq_true, Bool.or_eq_false_iff] at hg2)))
              | (apply w_drawA; rfl; (focus (decide +kernel)); (focus (simp; rfl)); (focus (simp; rfl)))
              | (apply w_drawN; rfl; (focus (decide +kernel)); (focus (simp; rfl)))
              | (apply a_end; (focus (simp; rfl)))
              | (apply a_val; (focus (simp; rfl)); (focus (intro u; first | rfl | (apply g_in; rfl; rfl; (focus (simp [*]; done))))); (focus (intro H' u; simp [*]; rfl)); (focus (simp only [List.nil_append, List.cons_append]; rfl)))
              | (apply a_fn fine; (focus (simp; rfl)); (focus (intro u; first | rfl | (apply g_in; rfl; rfl; (focus (simp [*]; done))))); (focus (intro u; simp [*]; exact ⟨rfl, rfl⟩)); (focus (exact c1)); (focus (simp [*]; done)); (focus (simp only [List.nil_append, List.cons_append]; rfl)))
              | (apply a_fn fine; (focus (simp; rfl)); (focus (intro u; first | rfl | (apply g_in; rfl; rfl; (focus (simp [*]; done))))); (focus (intro u; simp [*]; exact ⟨rfl, rfl⟩)); (focus (exact c2)); (focus (simp [*]; done)); (focus (simp only [List.nil_append, List.cons_append]; rfl)))
              | (apply a_fn fine; (focus (simp; rfl)); (focus (intro u; first | rfl | (apply g_in; rfl; rfl; (focus (simp [*]; done))))); (focus (intro u; simp [*]; exact ⟨rfl, rfl⟩)); (focus (exact r3)); (focus (simp [*]; done)); (focus (simp only [List.nil_append, List.cons_append]; rfl)))
              | (apply a_fn fine; (focus (simp; rfl)); (focus (intro u; first | rfl | (apply g_in; rfl; rfl; (focus (simp [*]; done))))); (focus (intro u; simp [*]; exact ⟨rfl, rfl⟩)); (focus (exact hl)); (focus (simp [*]; done)); (focus (simp only [List.nil_append, List.cons_append]; rfl)))
              | (apply a_tie; (focus (simp; rfl)); (focus (intro u; first | rfl | (apply g_in; rfl; rfl; (focus (simp [*]; done))))); (focus (intro u; simp [*]; rfl)); (focus (first | rfl | kernel_rfl)); (focus (simp only [List.nil_append, List.cons_append]; rfl)); (focus (simp; rfl)))
              | (apply a_no; (focus (simp; rfl)); (focus (intro u; first | (apply g_out; rfl; rfl; (focus (simp [*]; done))) | (apply g_un; rfl; rfl; (focus (simp [*]; done))))); (focus (simp only [List.nil_append, List.cons_append]; rfl)))
              | ((apply a_if; (focus (simp; rfl)); rfl; rfl; (focus (intro u; simp [*]; rfl)); rfl) <;> (intro hg; (fail_if_success (guard_hyp hg : true = true)); (fail_if_success (guard_hyp hg : false = false)); have hg' := hg; (try simp at hg'); have hg2 := hg; (try simp only [bne, Bool.not_not, Bool.not_true, Bool.not_false, Bool.not_or, Bool.not_and, Bool.not_eq_true', Bool.not_eq_false', Bool.and_eq_true, Bool.or_eq_false_iff] at hg2)))
              | (apply a_frz; (focus (simp; rfl)); (focus (intro u; first | rfl | (apply g_in; rfl; rfl; (focus (simp [*]; done))))); (focus (intro u; rfl)); (focus (intro H' u; simp [*]; refine ⟨_, _, ⟨rfl, rfl⟩, ?_, ?_⟩; (focus (simp; done)); (focus (first | exact Snap.flat (by simp) | exact Snap.ref_flat (by simp) rfl rfl rfl (by simp) (by simp) | exact Snap.slice_flat (by simp) rfl (by simp; rfl) (by simp) (by simp) | exact Snap.slice_flat (by simp) (by simp; exact ⟨rfl, rfl, rfl⟩) (by simp; rfl) (by simp) (by simp))))); (focus (simp only [List.nil_append, List.cons_append]; rfl)))
              | (apply a_mem; (focus (simp; rfl)); (focus (intro u; first | rfl | (apply g_in; rfl; rfl; (focus (simp [*]; done))))); (focus (intro u; rfl)); (focus (intro u; simp [*]; exact ⟨rfl, rfl⟩)); (focus (first | rfl | kernel_rfl)); (focus (simp only [List.nil_append, List.cons_append]; rfl)); (focus (simp; rfl))))
            · apply f_retf
              · simp [*]; rfl
              · simp
              · rfl
    · rw [h2] at c2
      have r2 := run_ok (m := m) (c :: r) _ isCap (by omega) capital_ok
      have l2 := runL_le isCap (c :: r)
      have ht : tok (c :: r) = (5, (c :: r).take (runL isCap (c :: r)), runL isCap (c :: r), if 20 < runL isCap (c :: r) then 6 else 0) := by
        simp only [tok, h1, h2, if_true, if_false, Bool.false_eq_true]
      rw [ht]
      have hl := long_nat (m := m) (runL isCap (c :: r)) 20
      clear ht
      generalize runL isCap (c :: r) = n at *
      have hl2 : (n : Int) ≤ (r.length : Int) + 1 := by simp at l2; omega
      repeat' (first
        | apply w_seq
        | apply w_region
        | apply o_end
        | apply t_normal
        | (apply o_add; (focus (first | rfl | (apply g_in; rfl; rfl; (focus (simp [*]; done))))); (focus (simp [*]; rfl)); rfl; (focus (simp [*]; rfl)); rfl; (focus (apply wrap_i64 <;> omega)))
        | (apply o_sub; (focus (first | rfl | (apply g_in; rfl; rfl; (focus (simp [*]; done))))); (focus (simp [*]; rfl)); rfl; (focus (simp [*]; rfl)); rfl; (focus (apply wrap_i64 <;> omega)))
        | (apply o_val; (focus (first | rfl | (apply g_in; rfl; rfl; (focus (simp [*]; done))))); (focus (simp [*]; rfl)))
        | (apply o_fn fine; (focus (first | rfl | (apply g_in; rfl; rfl; (focus (simp [*]; done))))); (focus (simp [*]; exact ⟨rfl, rfl⟩)); (focus (exact c1)); (focus (simp [*]; done)))
        | (apply o_fn fine; (focus (first | rfl | (apply g_in; rfl; rfl; (focus (simp [*]; done))))); (focus (simp [*]; exact ⟨rfl, rfl⟩)); (focus (exact c2)); (focus (simp [*]; done)))
        | (apply o_fn fine; (focus (first | rfl | (apply g_in; rfl; rfl; (focus (simp [*]; done))))); (focus (simp [*]; exact ⟨rfl, rfl⟩)); (focus (exact r2)); (focus (simp [*]; done)))
        | (apply o_fn fine; (focus (first | rfl | (apply g_in; rfl; rfl; (focus (simp [*]; done))))); (focus (simp [*]; exact ⟨rfl, rfl⟩)); (focus (exact hl)); (focus (simp [*]; done)))
        | (apply o_mem; (focus (first | rfl | (apply g_in; rfl; rfl; (focus (simp [*]; done))))); rfl; (focus (simp [*]; exact ⟨rfl, rfl⟩)))
        | apply w_skip
        | apply w_block
        | apply b_normal
        | apply w_ret
        | apply t_ret
        | apply b_ret
        | apply w_exit
        | apply t_exit
        | apply b_here
        | (apply b_on; (focus decide))
        | (apply w_true; (focus (simp [*]; done)))
        | (apply w_false; (focus (simp [*]; done)))
        | ((apply w_cond; (focus (simp [*]; rfl)); rfl) <;> (intro hc; have hc' := hc; try simp at hc'))
        | (apply o_no; (focus (first | (apply g_out; rfl; rfl; (focus (simp [*]; done))) | (apply g_un; rfl; rfl; (focus (simp [*]; done))))))
        | ((apply o_if; rfl; rfl; (focus (simp [*]; rfl)); rfl) <;> (intro hg; (fail_if_success (guard_hyp hg : true = true)); (fail_if_success (guard_hyp hg : false = false)); have hg' := hg; (try simp at hg'); have hg2 := hg; (try simp only [bne, Bool.not_not, Bool.not_true, Bool.not_false, Bool.not_or, Bool.not_and, Bool.not_eq_true', Bool.not_eq_false', Bool.and_eq_true, Bool.or_eq_false_iff] at hg2)))
        | (apply w_drawA; rfl; (focus (decide +kernel)); (focus (simp; rfl)); (focus (simp; rfl)))
        | (apply w_drawN; rfl; (focus (decide +kernel)); (focus (simp; rfl)))
        | (apply a_end; (focus (simp; rfl)))
        | (apply a_val; (focus (simp; rfl)); (focus (intro u; first | rfl | (apply g_in; rfl; rfl; (focus (simp [*]; done))))); (focus (intro H' u; simp [*]; rfl)); (focus (simp only [List.nil_append, List.cons_append]; rfl)))
        | (apply a_fn fine; (focus (simp; rfl)); (focus (intro u; first | rfl | (apply g_in; rfl; rfl; (focus (simp [*]; done))))); (focus (intro u; simp [*]; exact ⟨rfl, rfl⟩)); (focus (exact c1)); (focus (simp [*]; done)); (focus (simp only [List.nil_append, List.cons_append]; rfl)))
        | (apply a_fn fine; (focus (simp; rfl)); (focus (intro u; first | rfl | (apply g_in; rfl; rfl; (focus (simp [*]; done))))); (focus (intro u; simp [*]; exact ⟨rfl, rfl⟩)); (focus (exact c2)); (focus (simp [*]; done)); (focus (simp only [List.nil_append, List.cons_append]; rfl)))
        | (apply a_fn fine; (focus (simp; rfl)); (focus (intro u; first | rfl | (apply g_in; rfl; rfl; (focus (simp [*]; done))))); (focus (intro u; simp [*]; exact ⟨rfl, rfl⟩)); (focus (exact r2)); (focus (simp [*]; done)); (focus (simp only [List.nil_append, List.cons_append]; rfl)))
        | (apply a_fn fine; (focus (simp; rfl)); (focus (intro u; first | rfl | (apply g_in; rfl; rfl; (focus (simp [*]; done))))); (focus (intro u; simp [*]; exact ⟨rfl, rfl⟩)); (focus (exact hl)); (focus (simp [*]; done)); (focus (simp only [List.nil_append, List.cons_append]; rfl)))
        | (apply a_tie; (focus (simp; rfl)); (focus (intro u; first | rfl | (apply g_in; rfl; rfl; (focus (simp [*]; done))))); (focus (intro u; simp [*]; rfl)); (focus (first | rfl | kernel_rfl)); (focus (simp only [List.nil_append, List.cons_append]; rfl)); (focus (simp; rfl)))
        | (apply a_no; (focus (simp; rfl)); (focus (intro u; first | (apply g_out; rfl; rfl; (focus (simp [*]; done))) | (apply g_un; rfl; rfl; (focus (simp [*]; done))))); (focus (simp only [List.nil_append, List.cons_append]; rfl)))
        | ((apply a_if; (focus (simp; rfl)); rfl; rfl; (focus (intro u; simp [*]; rfl)); rfl) <;> (intro hg; (fail_if_success (guard_hyp hg : true = true)); (fail_if_success (guard_hyp hg : false = false)); have hg' := hg; (try simp at hg'); have hg2 := hg; (try simp only [bne, Bool.not_not, Bool.not_true, Bool.not_false, Bool.not_or, Bool.not_and, Bool.not_eq_true', Bool.not_eq_false', Bool.and_eq_true, Bool.or_eq_false_iff] at hg2)))
        | (apply a_frz; (focus (simp; rfl)); (focus (intro u; first | rfl | (apply g_in; rfl; rfl; (focus (simp [*]; done))))); (focus (intro u; rfl)); (focus (intro H' u; simp [*]; refine ⟨_, _, ⟨rfl, rfl⟩, ?_, ?_⟩; (focus (simp; done)); (focus (first | exact Snap.flat (by simp) | exact Snap.ref_flat (by simp) rfl rfl rfl (by simp) (by simp) | exact Snap.slice_flat (by simp) rfl (by simp; rfl) (by simp) (by simp) | exact Snap.slice_flat (by simp) (by simp; exact ⟨rfl, rfl, rfl⟩) (by simp; rfl) (by simp) (by simp))))); (focus (simp only [List.nil_append, List.cons_append]; rfl)))
        | (apply a_mem; (focus (simp; rfl)); (focus (intro u; first | rfl | (apply g_in; rfl; rfl; (focus (simp [*]; done))))); (focus (intro u; rfl)); (focus (intro u; simp [*]; exact ⟨rfl, rfl⟩)); (focus (first | rfl | kernel_rfl)); (focus (simp only [List.nil_append, List.cons_append]; rfl)); (focus (simp; rfl))))
      · apply f_retf
        · simp [*]; rfl
        · simp
        · rfl
  · rw [h1] at c1
    have r1 := run_ok (m := m) (c :: r) _ isInner (by omega) inner_ok
    have l1 := runL_le isInner (c :: r)
    have hw := Word_ok (m := m) ((c :: r).take (runL isInner (c :: r))) (by rw [List.length_take]; omega)
    have hl := long_nat (m := m) (runL isInner (c :: r)) 20
    have ht : tok (c :: r) = (if isWord ((c :: r).take (runL isInner (c :: r))) then 2 else 1, (c :: r).take (runL isInner (c :: r)), runL isInner (c :: r), if 20 < runL isInner (c :: r) then 6 else 0) := by
      simp only [tok, h1, if_true]
    rw [ht]
    clear ht
    generalize runL isInner (c :: r) = n at *
    have hl2 : (n : Int) ≤ (r.length : Int) + 1 := by simp at l1; omega
    cases hww : isWord ((c :: r).take n)
    · rw [hww] at hw
      repeat' (first
        | apply w_seq
        | apply w_region
        | apply o_end
        | apply t_normal
        | (apply o_add; (focus (first | rfl | (apply g_in; rfl; rfl; (focus (simp [*]; done))))); (focus (simp [*]; rfl)); rfl; (focus (simp [*]; rfl)); rfl; (focus (apply wrap_i64 <;> omega)))
        | (apply o_sub; (focus (first | rfl | (apply g_in; rfl; rfl; (focus (simp [*]; done))))); (focus (simp [*]; rfl)); rfl; (focus (simp [*]; rfl)); rfl; (focus (apply wrap_i64 <;> omega)))
        | (apply o_val; (focus (first | rfl | (apply g_in; rfl; rfl; (focus (simp [*]; done))))); (focus (simp [*]; rfl)))
        | (apply o_fn fine; (focus (first | rfl | (apply g_in; rfl; rfl; (focus (simp [*]; done))))); (focus (simp [*]; exact ⟨rfl, rfl⟩)); (focus (exact c1)); (focus (simp [*]; done)))
        | (apply o_fn fine; (focus (first | rfl | (apply g_in; rfl; rfl; (focus (simp [*]; done))))); (focus (simp [*]; exact ⟨rfl, rfl⟩)); (focus (exact r1)); (focus (simp [*]; done)))
        | (apply o_fn fine; (focus (first | rfl | (apply g_in; rfl; rfl; (focus (simp [*]; done))))); (focus (simp [*]; exact ⟨rfl, rfl⟩)); (focus (exact hl)); (focus (simp [*]; done)))
        | (apply o_fn fine; (focus (first | rfl | (apply g_in; rfl; rfl; (focus (simp [*]; done))))); (focus (simp [*]; exact ⟨rfl, rfl⟩)); (focus (exact hw)); (focus (simp [*]; done)))
        | (apply o_mem; (focus (first | rfl | (apply g_in; rfl; rfl; (focus (simp [*]; done))))); rfl; (focus (simp [*]; exact ⟨rfl, rfl⟩)))
        | apply w_skip
        | apply w_block
        | apply b_normal
        | apply w_ret
        | apply t_ret
        | apply b_ret
        | apply w_exit
        | apply t_exit
        | apply b_here
        | (apply b_on; (focus decide))
        | (apply w_true; (focus (simp [*]; done)))
        | (apply w_false; (focus (simp [*]; done)))
        | ((apply w_cond; (focus (simp [*]; rfl)); rfl) <;> (intro hc; have hc' := hc; try simp at hc'))
        | (apply o_no; (focus (first | (apply g_out; rfl; rfl; (focus (simp [*]; done))) | (apply g_un; rfl; rfl; (focus (simp [*]; done))))))
        | ((apply o_if; rfl; rfl; (focus (simp [*]; rfl)); rfl) <;> (intro hg; (fail_if_success (guard_hyp hg : true = true)); (fail_if_success (guard_hyp hg : false = false)); have hg' := hg; (try simp at hg'); have hg2 := hg; (try simp only [bne, Bool.not_not, Bool.not_true, Bool.not_false, Bool.not_or, Bool.not_and, Bool.not_eq_true', Bool.not_eq_false', Bool.and_eq_true, Bool.or_eq_false_iff] at hg2)))
        | (apply w_drawA; rfl; (focus (decide +kernel)); (focus (simp; rfl)); (focus (simp; rfl)))
        | (apply w_drawN; rfl; (focus (decide +kernel)); (focus (simp; rfl)))
        | (apply a_end; (focus (simp; rfl)))
        | (apply a_val; (focus (simp; rfl)); (focus (intro u; first | rfl | (apply g_in; rfl; rfl; (focus (simp [*]; done))))); (focus (intro H' u; simp [*]; rfl)); (focus (simp only [List.nil_append, List.cons_append]; rfl)))
        | (apply a_fn fine; (focus (simp; rfl)); (focus (intro u; first | rfl | (apply g_in; rfl; rfl; (focus (simp [*]; done))))); (focus (intro u; simp [*]; exact ⟨rfl, rfl⟩)); (focus (exact c1)); (focus (simp [*]; done)); (focus (simp only [List.nil_append, List.cons_append]; rfl)))
        | (apply a_fn fine; (focus (simp; rfl)); (focus (intro u; first | rfl | (apply g_in; rfl; rfl; (focus (simp [*]; done))))); (focus (intro u; simp [*]; exact ⟨rfl, rfl⟩)); (focus (exact r1)); (focus (simp [*]; done)); (focus (simp only [List.nil_append, List.cons_append]; rfl)))
        | (apply a_fn fine; (focus (simp; rfl)); (focus (intro u; first | rfl | (apply g_in; rfl; rfl; (focus (simp [*]; done))))); (focus (intro u; simp [*]; exact ⟨rfl, rfl⟩)); (focus (exact hl)); (focus (simp [*]; done)); (focus (simp only [List.nil_append, List.cons_append]; rfl)))
        | (apply a_fn fine; (focus (simp; rfl)); (focus (intro u; first | rfl | (apply g_in; rfl; rfl; (focus (simp [*]; done))))); (focus (intro u; simp [*]; exact ⟨rfl, rfl⟩)); (focus (exact hw)); (focus (simp [*]; done)); (focus (simp only [List.nil_append, List.cons_append]; rfl)))
        | (apply a_tie; (focus (simp; rfl)); (focus (intro u; first | rfl | (apply g_in; rfl; rfl; (focus (simp [*]; done))))); (focus (intro u; simp [*]; rfl)); (focus (first | rfl | kernel_rfl)); (focus (simp only [List.nil_append, List.cons_append]; rfl)); (focus (simp; rfl)))
        | (apply a_no; (focus (simp; rfl)); (focus (intro u; first | (apply g_out; rfl; rfl; (focus (simp [*]; done))) | (apply g_un; rfl; rfl; (focus (simp [*]; done))))); (focus (simp only [List.nil_append, List.cons_append]; rfl)))
        | ((apply a_if; (focus (simp; rfl)); rfl; rfl; (focus (intro u; simp [*]; rfl)); rfl) <;> (intro hg; (fail_if_success (guard_hyp hg : true = true)); (fail_if_success (guard_hyp hg : false = false)); have hg' := hg; (try simp at hg'); have hg2 := hg; (try simp only [bne, Bool.not_not, Bool.not_true, Bool.not_false, Bool.not_or, Bool.not_and, Bool.not_eq_true', Bool.not_eq_false', Bool.and_eq_true, Bool.or_eq_false_iff] at hg2)))
        | (apply a_frz; (focus (simp; rfl)); (focus (intro u; first | rfl | (apply g_in; rfl; rfl; (focus (simp [*]; done))))); (focus (intro u; rfl)); (focus (intro H' u; simp [*]; refine ⟨_, _, ⟨rfl, rfl⟩, ?_, ?_⟩; (focus (simp; done)); (focus (first | exact Snap.flat (by simp) | exact Snap.ref_flat (by simp) rfl rfl rfl (by simp) (by simp) | exact Snap.slice_flat (by simp) rfl (by simp; rfl) (by simp) (by simp) | exact Snap.slice_flat (by simp) (by simp; exact ⟨rfl, rfl, rfl⟩) (by simp; rfl) (by simp) (by simp))))); (focus (simp only [List.nil_append, List.cons_append]; rfl)))
        | (apply a_mem; (focus (simp; rfl)); (focus (intro u; first | rfl | (apply g_in; rfl; rfl; (focus (simp [*]; done))))); (focus (intro u; rfl)); (focus (intro u; simp [*]; exact ⟨rfl, rfl⟩)); (focus (first | rfl | kernel_rfl)); (focus (simp only [List.nil_append, List.cons_append]; rfl)); (focus (simp; rfl))))
      · apply f_retf
        · simp [*]; rfl
        · simp
        · rfl
    · rw [hww] at hw
      repeat' (first
        | apply w_seq
        | apply w_region
        | apply o_end
        | apply t_normal
        | (apply o_add; (focus (first | rfl | (apply g_in; rfl; rfl; (focus (simp [*]; done))))); (focus (simp [*]; rfl)); rfl; (focus (simp [*]; rfl)); rfl; (focus (apply wrap_i64 <;> omega)))
        | (apply o_sub; (focus (first | rfl | (apply g_in; rfl; rfl; (focus (simp [*]; done))))); (focus (simp [*]; rfl)); rfl; (focus (simp [*]; rfl)); rfl; (focus (apply wrap_i64 <;> omega)))
        | (apply o_val; (focus (first | rfl | (apply g_in; rfl; rfl; (focus (simp [*]; done))))); (focus (simp [*]; rfl)))
        | (apply o_fn fine; (focus (first | rfl | (apply g_in; rfl; rfl; (focus (simp [*]; done))))); (focus (simp [*]; exact ⟨rfl, rfl⟩)); (focus (exact c1)); (focus (simp [*]; done)))
        | (apply o_fn fine; (focus (first | rfl | (apply g_in; rfl; rfl; (focus (simp [*]; done))))); (focus (simp [*]; exact ⟨rfl, rfl⟩)); (focus (exact r1)); (focus (simp [*]; done)))
        | (apply o_fn fine; (focus (first | rfl | (apply g_in; rfl; rfl; (focus (simp [*]; done))))); (focus (simp [*]; exact ⟨rfl, rfl⟩)); (focus (exact hl)); (focus (simp [*]; done)))
        | (apply o_fn fine; (focus (first | rfl | (apply g_in; rfl; rfl; (focus (simp [*]; done))))); (focus (simp [*]; exact ⟨rfl, rfl⟩)); (focus (exact hw)); (focus (simp [*]; done)))
        | (apply o_mem; (focus (first | rfl | (apply g_in; rfl; rfl; (focus (simp [*]; done))))); rfl; (focus (simp [*]; exact ⟨rfl, rfl⟩)))
        | apply w_skip
        | apply w_block
        | apply b_normal
        | apply w_ret
        | apply t_ret
        | apply b_ret
        | apply w_exit
        | apply t_exit
        | apply b_here
        | (apply b_on; (focus decide))
        | (apply w_true; (focus (simp [*]; done)))
        | (apply w_false; (focus (simp [*]; done)))
        | ((apply w_cond; (focus (simp [*]; rfl)); rfl) <;> (intro hc; have hc' := hc; try simp at hc'))
        | (apply o_no; (focus (first | (apply g_out; rfl; rfl; (focus (simp [*]; done))) | (apply g_un; rfl; rfl; (focus (simp [*]; done))))))
        | ((apply o_if; rfl; rfl; (focus (simp [*]; rfl)); rfl) <;> (intro hg; (fail_if_success (guard_hyp hg : true = true)); (fail_if_success (guard_hyp hg : false = false)); have hg' := hg; (try simp at hg'); have hg2 := hg; (try simp only [bne, Bool.not_not, Bool.not_true, Bool.not_false, Bool.not_or, Bool.not_and, Bool.not_eq_true', Bool.not_eq_false', Bool.and_eq_true, Bool.or_eq_false_iff] at hg2)))
        | (apply w_drawA; rfl; (focus (decide +kernel)); (focus (simp; rfl)); (focus (simp; rfl)))
        | (apply w_drawN; rfl; (focus (decide +kernel)); (focus (simp; rfl)))
        | (apply a_end; (focus (simp; rfl)))
        | (apply a_val; (focus (simp; rfl)); (focus (intro u; first | rfl | (apply g_in; rfl; rfl; (focus (simp [*]; done))))); (focus (intro H' u; simp [*]; rfl)); (focus (simp only [List.nil_append, List.cons_append]; rfl)))
        | (apply a_fn fine; (focus (simp; rfl)); (focus (intro u; first | rfl | (apply g_in; rfl; rfl; (focus (simp [*]; done))))); (focus (intro u; simp [*]; exact ⟨rfl, rfl⟩)); (focus (exact c1)); (focus (simp [*]; done)); (focus (simp only [List.nil_append, List.cons_append]; rfl)))
        | (apply a_fn fine; (focus (simp; rfl)); (focus (intro u; first | rfl | (apply g_in; rfl; rfl; (focus (simp [*]; done))))); (focus (intro u; simp [*]; exact ⟨rfl, rfl⟩)); (focus (exact r1)); (focus (simp [*]; done)); (focus (simp only [List.nil_append, List.cons_append]; rfl)))
        | (apply a_fn fine; (focus (simp; rfl)); (focus (intro u; first | rfl | (apply g_in; rfl; rfl; (focus (simp [*]; done))))); (focus (intro u; simp [*]; exact ⟨rfl, rfl⟩)); (focus (exact hl)); (focus (simp [*]; done)); (focus (simp only [List.nil_append, List.cons_append]; rfl)))
        | (apply a_fn fine; (focus (simp; rfl)); (focus (intro u; first | rfl | (apply g_in; rfl; rfl; (focus (simp [*]; done))))); (focus (intro u; simp [*]; exact ⟨rfl, rfl⟩)); (focus (exact hw)); (focus (simp [*]; done)); (focus (simp only [List.nil_append, List.cons_append]; rfl)))
        | (apply a_tie; (focus (simp; rfl)); (focus (intro u; first | rfl | (apply g_in; rfl; rfl; (focus (simp [*]; done))))); (focus (intro u; simp [*]; rfl)); (focus (first | rfl | kernel_rfl)); (focus (simp only [List.nil_append, List.cons_append]; rfl)); (focus (simp; rfl)))
        | (apply a_no; (focus (simp; rfl)); (focus (intro u; first | (apply g_out; rfl; rfl; (focus (simp [*]; done))) | (apply g_un; rfl; rfl; (focus (simp [*]; done))))); (focus (simp only [List.nil_append, List.cons_append]; rfl)))
        | ((apply a_if; (focus (simp; rfl)); rfl; rfl; (focus (intro u; simp [*]; rfl)); rfl) <;> (intro hg; (fail_if_success (guard_hyp hg : true = true)); (fail_if_success (guard_hyp hg : false = false)); have hg' := hg; (try simp at hg'); have hg2 := hg; (try simp only [bne, Bool.not_not, Bool.not_true, Bool.not_false, Bool.not_or, Bool.not_and, Bool.not_eq_true', Bool.not_eq_false', Bool.and_eq_true, Bool.or_eq_false_iff] at hg2)))
        | (apply a_frz; (focus (simp; rfl)); (focus (intro u; first | rfl | (apply g_in; rfl; rfl; (focus (simp [*]; done))))); (focus (intro u; rfl)); (focus (intro H' u; simp [*]; refine ⟨_, _, ⟨rfl, rfl⟩, ?_, ?_⟩; (focus (simp; done)); (focus (first | exact Snap.flat (by simp) | exact Snap.ref_flat (by simp) rfl rfl rfl (by simp) (by simp) | exact Snap.slice_flat (by simp) rfl (by simp; rfl) (by simp) (by simp) | exact Snap.slice_flat (by simp) (by simp; exact ⟨rfl, rfl, rfl⟩) (by simp; rfl) (by simp) (by simp))))); (focus (simp only [List.nil_append, List.cons_append]; rfl)))
        | (apply a_mem; (focus (simp; rfl)); (focus (intro u; first | rfl | (apply g_in; rfl; rfl; (focus (simp [*]; done))))); (focus (intro u; rfl)); (focus (intro u; simp [*]; exact ⟨rfl, rfl⟩)); (focus (first | rfl | kernel_rfl)); (focus (simp only [List.nil_append, List.cons_append]; rfl)); (focus (simp; rfl))))
      · apply f_retf
        · simp [*]; rfl
        · simp
        · rfl
end Go.Proofs.Ytkeanadlfkfglaa.Vm
