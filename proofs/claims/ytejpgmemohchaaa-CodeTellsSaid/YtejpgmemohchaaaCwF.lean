/- Walks: what the statements share. -/
import Derived.Test.YtejpgmemohchaaaCwE
set_option linter.unusedSimpArgs false
set_option maxRecDepth 100000
set_option maxHeartbeats 4000000
namespace Go.Proofs.Ytejpgmemohchaaa.Vm
open Go
attribute [local irreducible] wpD opsD thenD blockD planD planA
attribute [local simp] List.take_of_length_le List.drop_of_length_le num_ne

theorem SameBytes_ok (a b : List UInt8) (ha : a.length < 1000000000000) : Ans L 12 [bytesL a, bytesL b] (.bool (a == b)) := by
  refine fn_of_body L_ok (fn := Try.f12) rfl rfl rfl rfl (by kernel_rfl) ?_
  by_cases hl : a.length = b.length
  · have hli : (a.length : Int) = (b.length : Int) := by omega
    repeat' (first
      | apply w_seq
      | apply w_region
      | apply o_end
      | apply t_normal
      | (apply o_val; exact kc0; exact kc2)
      | apply w_skip
      | apply w_block
      | (apply w_false; exact kc3)
      | fail)
    refine w_loop (fun n f H => ∃ (i : Nat), i ≤ a.length ∧ n = a.length - i ∧ H = [] ∧ a.take i = b.take i ∧ f 0 = bytesL a ∧ f 1 = bytesL b ∧ f 5 = .int .i64 i) a.length ⟨0, by simp⟩ ?_
    rintro n f H ⟨i, hi, rfl, rfl, hp, h0, h1, h5⟩
    by_cases hlt : i < a.length
    · have hlt2 : i < b.length := by omega
      clear hl hli
      by_cases he : a[i] = b[i]
      · have hp2 : a.take (i + 1) = b.take (i + 1) := by
          rw [List.take_succ_eq_append_getElem hlt, List.take_succ_eq_append_getElem hlt2, hp, he]
        clear hp
        repeat' (first
          | apply w_seq
          | apply w_region
          | apply o_end
          | apply t_normal
          | (apply o_add; exact kc0; exact kc2; rfl; exact kc2; rfl; exact ke2)
          | (apply o_val; exact kc0; exact kc2)
          | apply w_skip
          | apply w_block
          | apply b_normal
          | (apply w_true; exact kc3)
          | (apply w_false; exact kc3)
          | (apply w_drawA; rfl; exact ke3; exact kc4; exact kc4)
          | (apply a_end; exact kc4)
          | (apply a_val; exact kc4; exact kc5; exact kd9; exact kc6)
          | fail)
        exact ⟨a.length - (i + 1), by omega, i + 1, by omega, rfl, rfl, hp2, by simp [*], by simp [*], by simp [*]⟩
      · have hq : (a == b) = false := by
          rw [beq_eq_false_iff_ne]
          intro h
          subst h
          exact he rfl
        clear hp
        have he2 : ((a[i].toNat : Int) != (b[i].toNat : Int)) = true := by
          rw [bne_iff_ne]
          intro h
          exact he (UInt8.toNat_inj.1 (by omega))
        repeat' (first
          | apply w_seq
          | apply w_region
          | apply o_end
          | apply t_normal
          | (apply o_val; exact kc0; exact kc2)
          | (apply f_retf; exact kc2; (focus (simp; done)); exact kc3)
          | apply w_skip
          | apply w_block
          | apply w_ret
          | apply t_ret
          | apply b_ret
          | (apply w_true; exact kc3)
          | (apply w_drawA; rfl; exact ke3; exact kc4; exact kc4)
          | (apply a_end; exact kc4)
          | (apply a_val; exact kc4; exact kc5; exact kd9; exact kc6)
          | fail)
    · have hq : (a == b) = true := by
        rw [beq_iff_eq]
        rwa [List.take_of_length_le (by omega), List.take_of_length_le (by omega)] at hp
      clear hp hl hli
      repeat' (first
        | apply w_seq
        | apply w_region
        | apply o_end
        | apply t_normal
        | (apply o_val; exact kc0; exact kc2)
        | (apply f_retf; exact kc2; (focus (simp; done)); exact kc3)
        | apply w_ret
        | apply w_exit
        | apply t_exit
        | apply b_here
        | (apply w_false; exact kc3)
        | fail)
  · have hli : ¬ (a.length : Int) = (b.length : Int) := by omega
    have hq : (a == b) = false := by
      rw [beq_eq_false_iff_ne]
      intro h
      exact hl (congrArg List.length h)
    repeat' (first
      | apply w_seq
      | apply w_region
      | apply o_end
      | apply t_normal
      | (apply o_val; exact kc0; exact kc2)
      | (apply f_retf; exact kc2; (focus (simp; done)); exact kc3)
      | apply w_ret
      | apply t_ret
      | (apply w_true; exact kc3)
      | fail)
theorem SameInts_ok (a b : List Int) (ha : a.length < 1000000000000) : Ans L 17 [intsL a, intsL b] (.bool (a == b)) := by
  refine fn_of_body L_ok (fn := Try.f17) rfl rfl rfl rfl (by kernel_rfl) ?_
  by_cases hl : a.length = b.length
  · have hli : (a.length : Int) = (b.length : Int) := by omega
    repeat' (first
      | apply w_seq
      | apply w_region
      | apply o_end
      | apply t_normal
      | (apply o_val; exact kc0; exact kc2)
      | apply w_skip
      | apply w_block
      | (apply w_false; exact kc3)
      | fail)
    refine w_loop (fun n f H => ∃ (i : Nat), i ≤ a.length ∧ n = a.length - i ∧ H = [] ∧ a.take i = b.take i ∧ f 0 = intsL a ∧ f 1 = intsL b ∧ f 5 = .int .i64 i) a.length ⟨0, by simp⟩ ?_
    rintro n f H ⟨i, hi, rfl, rfl, hp, h0, h1, h5⟩
    by_cases hlt : i < a.length
    · have hlt2 : i < b.length := by omega
      clear hl hli
      by_cases he : a[i] = b[i]
      · have hp2 : a.take (i + 1) = b.take (i + 1) := by
          rw [List.take_succ_eq_append_getElem hlt, List.take_succ_eq_append_getElem hlt2, hp, he]
        clear hp
        repeat' (first
          | apply w_seq
          | apply w_region
          | apply o_end
          | apply t_normal
          | (apply o_add; exact kc0; exact kc2; rfl; exact kc2; rfl; exact ke2)
          | (apply o_val; exact kc0; exact kc2)
          | apply w_skip
          | apply w_block
          | apply b_normal
          | (apply w_true; exact kc3)
          | (apply w_false; exact kc3)
          | (apply w_drawA; rfl; exact ke3; exact kc4; exact kc4)
          | (apply a_end; exact kc4)
          | (apply a_val; exact kc4; exact kc5; exact kd9; exact kc6)
          | fail)
        exact ⟨a.length - (i + 1), by omega, i + 1, by omega, rfl, rfl, hp2, by simp [*], by simp [*], by simp [*]⟩
      · have hq : (a == b) = false := by
          rw [beq_eq_false_iff_ne]
          intro h
          subst h
          exact he rfl
        clear hp
        have he2 : (a[i] != b[i]) = true := by rw [bne_iff_ne]; exact he
        repeat' (first
          | apply w_seq
          | apply w_region
          | apply o_end
          | apply t_normal
          | (apply o_val; exact kc0; exact kc2)
          | (apply f_retf; exact kc2; (focus (simp; done)); exact kc3)
          | apply w_skip
          | apply w_block
          | apply w_ret
          | apply t_ret
          | apply b_ret
          | (apply w_true; exact kc3)
          | (apply w_drawA; rfl; exact ke3; exact kc4; exact kc4)
          | (apply a_end; exact kc4)
          | (apply a_val; exact kc4; exact kc5; exact kd9; exact kc6)
          | fail)
    · have hq : (a == b) = true := by
        rw [beq_iff_eq]
        rwa [List.take_of_length_le (by omega), List.take_of_length_le (by omega)] at hp
      clear hp hl hli
      repeat' (first
        | apply w_seq
        | apply w_region
        | apply o_end
        | apply t_normal
        | (apply o_val; exact kc0; exact kc2)
        | (apply f_retf; exact kc2; (focus (simp; done)); exact kc3)
        | apply w_ret
        | apply w_exit
        | apply t_exit
        | apply b_here
        | (apply w_false; exact kc3)
        | fail)
  · have hli : ¬ (a.length : Int) = (b.length : Int) := by omega
    have hq : (a == b) = false := by
      rw [beq_eq_false_iff_ne]
      intro h
      exact hl (congrArg List.length h)
    repeat' (first
      | apply w_seq
      | apply w_region
      | apply o_end
      | apply t_normal
      | (apply o_val; exact kc0; exact kc2)
      | (apply f_retf; exact kc2; (focus (simp; done)); exact kc3)
      | apply w_ret
      | apply t_ret
      | (apply w_true; exact kc3)
      | fail)
theorem truths_ok (a b : List Bool) (ha : a.length < 1000000000000) : Ans L 23 [boolsL a, boolsL b] (.bool (a == b)) := by
  refine fn_of_body L_ok (fn := Try.f23) rfl rfl rfl rfl (by kernel_rfl) ?_
  by_cases hl : a.length = b.length
  · have hli : (a.length : Int) = (b.length : Int) := by omega
    repeat' (first
      | apply w_seq
      | apply w_region
      | apply o_end
      | apply t_normal
      | (apply o_val; exact kc0; exact kc2)
      | apply w_skip
      | apply w_block
      | (apply w_false; exact kc3)
      | fail)
    refine w_loop (fun n f H => ∃ (i : Nat), i ≤ a.length ∧ n = a.length - i ∧ H = [] ∧ a.take i = b.take i ∧ f 0 = boolsL a ∧ f 1 = boolsL b ∧ f 5 = .int .i64 i) a.length ⟨0, by simp⟩ ?_
    rintro n f H ⟨i, hi, rfl, rfl, hp, h0, h1, h5⟩
    by_cases hlt : i < a.length
    · have hlt2 : i < b.length := by omega
      clear hl hli
      by_cases he : a[i] = b[i]
      · have hp2 : a.take (i + 1) = b.take (i + 1) := by
          rw [List.take_succ_eq_append_getElem hlt, List.take_succ_eq_append_getElem hlt2, hp, he]
        clear hp
        repeat' (first
          | apply w_seq
          | apply w_region
          | apply o_end
          | apply t_normal
          | (apply o_add; exact kc0; exact kc2; rfl; exact kc2; rfl; exact ke2)
          | (apply o_val; exact kc0; exact kc2)
          | apply w_skip
          | apply w_block
          | apply b_normal
          | (apply w_true; exact kc3)
          | (apply w_false; exact kc3)
          | (apply w_drawA; rfl; exact ke3; exact kc4; exact kc4)
          | (apply a_end; exact kc4)
          | (apply a_val; exact kc4; exact kc5; exact kd9; exact kc6)
          | fail)
        exact ⟨a.length - (i + 1), by omega, i + 1, by omega, rfl, rfl, hp2, by simp [*], by simp [*], by simp [*]⟩
      · have hq : (a == b) = false := by
          rw [beq_eq_false_iff_ne]
          intro h
          subst h
          exact he rfl
        clear hp
        have he2 : (a[i] != b[i]) = true := by rw [bne_iff_ne]; exact he
        repeat' (first
          | apply w_seq
          | apply w_region
          | apply o_end
          | apply t_normal
          | (apply o_val; exact kc0; exact kc2)
          | (apply f_retf; exact kc2; (focus (simp; done)); exact kc3)
          | apply w_skip
          | apply w_block
          | apply w_ret
          | apply t_ret
          | apply b_ret
          | (apply w_true; exact kc3)
          | (apply w_drawA; rfl; exact ke3; exact kc4; exact kc4)
          | (apply a_end; exact kc4)
          | (apply a_val; exact kc4; exact kc5; exact kd9; exact kc6)
          | fail)
    · have hq : (a == b) = true := by
        rw [beq_iff_eq]
        rwa [List.take_of_length_le (by omega), List.take_of_length_le (by omega)] at hp
      clear hp hl hli
      repeat' (first
        | apply w_seq
        | apply w_region
        | apply o_end
        | apply t_normal
        | (apply o_val; exact kc0; exact kc2)
        | (apply f_retf; exact kc2; (focus (simp; done)); exact kc3)
        | apply w_ret
        | apply w_exit
        | apply t_exit
        | apply b_here
        | (apply w_false; exact kc3)
        | fail)
  · have hli : ¬ (a.length : Int) = (b.length : Int) := by omega
    have hq : (a == b) = false := by
      rw [beq_eq_false_iff_ne]
      intro h
      exact hl (congrArg List.length h)
    repeat' (first
      | apply w_seq
      | apply w_region
      | apply o_end
      | apply t_normal
      | (apply o_val; exact kc0; exact kc2)
      | (apply f_retf; exact kc2; (focus (simp; done)); exact kc3)
      | apply w_ret
      | apply t_ret
      | (apply w_true; exact kc3)
      | fail)
def sameRq (a b : Rq) : Bool := a.endpoint == b.endpoint && a.by_ == b.by_ && a.kind == b.kind && a.creds == b.creds && a.heads == b.heads && a.forged == b.forged && a.hops == b.hops && a.sent == b.sent
theorem SameRequest_ok (a b : Rq) (ha : a.sent.length < 1000000000000) : Ans L 24 [rqD a, rqD b] (.bool (sameRq a b)) := by
  refine fn_of_body L_ok (fn := Try.f24) rfl rfl rfl rfl (by kernel_rfl) ?_
  have hc := SameInts_ok a.sent b.sent ha
  obtain ⟨e7, h7⟩ : ∃ e, (a.sent == b.sent) = e := ⟨_, rfl⟩
  rw [h7] at hc
  repeat' (first
    | apply w_seq
    | apply w_region
    | apply o_end
    | apply t_normal
    | (apply o_val; exact kc0; exact kc2)
    | (apply o_fn fine; exact kc0; exact kc1; exact hc; exact kc3)
    | (apply o_mem; exact kc0; rfl; exact kc1)
    | apply w_ret
    | (apply o_no; exact ke7)
    | ((apply o_if; rfl; rfl; exact kc2; rfl) <;> (intro hg; (fail_if_success (guard_hyp hg : true = true)); (fail_if_success (guard_hyp hg : false = false)); have hg' := hg; (try simp at hg'); have hg2 := hg; (try simp only [bne, Bool.not_not, Bool.not_true, Bool.not_false, Bool.not_or, Bool.not_and, Bool.not_eq_true', Bool.not_eq_false', Bool.and_eq_true, Bool.or_eq_false_iff] at hg2)))
    | fail)
  all_goals (apply f_retf; (focus (simp [*]; rfl)); (focus (simp; done)); (focus (first | (simp [sameRq, *]; done) | (simp_all [sameRq]; done))))
def greatSt (s : St) : Bool := decide (10 < s.jar.length) || decide (12 < s.changed.length) || decide (10 < s.knows.length) || decide (10 < s.stolen.length) || decide (10 < s.ran.length) || decide (6 < s.pending.length) || s.pending.any (fun r => decide (10 < r.sent.length))
theorem GreatState_ok (s : St) : Ans L 18 [stD s] (.bool (greatSt s)) := by
  refine fn_of_body L_ok (fn := Try.f18) rfl rfl rfl rfl (by kernel_rfl) ?_
  by_cases g0 : 10 < s.jar.length ∨ 12 < s.changed.length ∨ 10 < s.knows.length ∨ 10 < s.stolen.length ∨ 10 < s.ran.length ∨ 6 < s.pending.length
  · have hG : greatSt s = true := by
      simp only [greatSt, Bool.or_eq_true, decide_eq_true_eq]
      omega
    repeat' (first
      | apply w_seq
      | apply w_region
      | apply o_end
      | apply t_normal
      | (apply o_val; exact kc0; exact kc2)
      | (apply o_var; exact kc0; exact kc1; (focus (simp; done)); exact kd7)
      | apply w_skip
      | apply w_block
      | apply w_ret
      | apply t_ret
      | (apply w_true; exact kc3)
      | ((apply w_cond; exact kc2; rfl) <;> (intro hc; have hc' := hc; try simp at hc'))
      | (apply o_no; exact ke7)
      | ((apply o_if; rfl; rfl; exact kc2; rfl) <;> (intro hg; (fail_if_success (guard_hyp hg : true = true)); (fail_if_success (guard_hyp hg : false = false)); have hg' := hg; (try simp at hg'); have hg2 := hg; (try simp only [bne, Bool.not_not, Bool.not_true, Bool.not_false, Bool.not_or, Bool.not_and, Bool.not_eq_true', Bool.not_eq_false', Bool.and_eq_true, Bool.or_eq_false_iff] at hg2)))
      | fail)
    all_goals first
      | (apply f_retf; exact kc2; (focus (simp; done)); (focus (rw [hG])))
      | (exfalso; omega)
  · have hn : ¬ 10 < s.jar.length ∧ ¬ 12 < s.changed.length ∧ ¬ 10 < s.knows.length ∧ ¬ 10 < s.stolen.length ∧ ¬ 10 < s.ran.length ∧ ¬ 6 < s.pending.length := by omega
    obtain ⟨n1, n2, n3, n4, n5, n6⟩ := hn
    have i1 : ¬ (10 : Int) < (s.jar.length : Int) := by omega
    have i2 : ¬ (12 : Int) < (s.changed.length : Int) := by omega
    have i3 : ¬ (10 : Int) < (s.knows.length : Int) := by omega
    have i4 : ¬ (10 : Int) < (s.stolen.length : Int) := by omega
    have i5 : ¬ (10 : Int) < (s.ran.length : Int) := by omega
    have i6 : ¬ (6 : Int) < (s.pending.length : Int) := by omega
    have hg : greatSt s = s.pending.any (fun r => decide (10 < r.sent.length)) := by
      simp [greatSt, *]
    rw [hg]
    have hpl : s.pending.length < 1501 := by omega
    clear hg g0
    repeat' (first
      | apply w_seq
      | apply w_region
      | apply o_end
      | apply t_normal
      | (apply o_val; exact kc0; exact kc2)
      | (apply o_var; exact kc0; exact kc1; (focus (simp; done)); exact kd7)
      | apply w_skip
      | apply w_block
      | (apply w_false; exact kc3)
      | fail)
    refine w_loop (fun n f H => ∃ (i : Nat), i ≤ s.pending.length ∧ n = s.pending.length - i ∧ H = [] ∧ (s.pending.take i).any (fun r => decide (10 < r.sent.length)) = false ∧ f 1 = .box (stC s) ∧ f 3 = .int .i64 i) s.pending.length ⟨0, by simp⟩ ?_
    rintro n f H ⟨i, hi, rfl, rfl, hp, h1, h3⟩
    clear n1 n2 n3 n4 n5 n6 i1 i2 i3 i4 i5 i6
    by_cases hlt : i < s.pending.length
    · by_cases hg : 10 < s.pending[i].sent.length
      · have hg' : (10 : Int) < (s.pending[i].sent.length : Int) := by omega
        have hq : s.pending.any (fun r => decide (10 < r.sent.length)) = true := any_yes hlt (by simpa using hg)
        rw [hq]
        repeat' (first
          | apply w_seq
          | apply w_region
          | apply o_end
          | apply t_normal
          | (apply o_val; exact kc0; exact kc2)
          | (apply f_retf; exact kc2; (focus (simp; done)); exact kc3)
          | apply w_skip
          | apply w_block
          | apply w_ret
          | apply t_ret
          | apply b_ret
          | (apply w_true; exact kc3)
          | fail)
      · have hg' : ¬ (10 : Int) < (s.pending[i].sent.length : Int) := by omega
        have hp2 := any_more hlt hp (by simpa using hg)
        have h7 : IntKind.i64.wrap ((i : Int) + 1) = (i : Int) + 1 := wrap_i64 (by omega) (by omega)
        clear hp
        repeat' (first
          | apply w_seq
          | apply w_region
          | apply o_end
          | apply t_normal
          | (apply o_add; exact kc0; exact kc2; rfl; exact kc2; rfl; exact ke2)
          | (apply o_val; exact kc0; exact kc2)
          | apply w_skip
          | apply w_block
          | apply b_normal
          | (apply w_true; exact kc3)
          | (apply w_false; exact kc3)
          | fail)
        exact ⟨s.pending.length - (i + 1), by omega, i + 1, by omega, rfl, rfl, hp2, by simp [*], by simp [*]⟩
    · have hq := any_no (by omega) hp
      rw [hq]
      repeat' (first
        | apply w_seq
        | apply w_region
        | apply o_end
        | apply t_normal
        | (apply o_val; exact kc0; exact kc2)
        | (apply f_retf; exact kc2; (focus (simp; done)); exact kc3)
        | apply w_ret
        | apply w_exit
        | apply t_exit
        | apply b_here
        | (apply w_false; exact kc3)
        | fail)
end Go.Proofs.Ytejpgmemohchaaa.Vm
