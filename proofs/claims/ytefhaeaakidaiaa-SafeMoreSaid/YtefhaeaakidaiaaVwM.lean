/- Walks: SafeMore. -/
import Derived.Test.YtefhaeaakidaiaaVwB
import Derived.Test.YtefhaeaakidaiaaVmZd
set_option linter.unusedSimpArgs false
set_option linter.unusedVariables false
set_option maxRecDepth 100000
set_option maxHeartbeats 4000000
namespace Go.Proofs.Ytefhaeaakidaiaa.Vm
open Go
attribute [local irreducible] wpD opsD thenD blockD planD planA
attribute [local simp] List.take_of_length_le List.drop_of_length_le

/-- Each header twice, from the last one on. -/
def twice (l : List (List UInt8)) : List (List UInt8) := l.reverse.flatMap fun x => [x, x]
theorem twice_all (l : List (List UInt8)) (p : List UInt8 → Bool) : (twice l).all p = l.all p := by
  rw [Bool.eq_iff_iff, List.all_eq_true, List.all_eq_true]
  simp [twice]
theorem twice_cons (x : List UInt8) (l : List (List UInt8)) : twice (x :: l) = twice l ++ [x, x] := by simp [twice]
theorem twice_len (l : List (List UInt8)) : (twice l).length = 2 * l.length := by
  induction l with
  | nil => rfl
  | cons x l ih => rw [twice_cons, List.length_append, ih]; simp; omega
theorem twice_mem {l : List (List UInt8)} {x : List UInt8} (h : x ∈ twice l) : x ∈ l := by
  simp only [twice, List.mem_flatMap, List.mem_reverse, List.mem_cons, List.not_mem_nil, or_false, or_self] at h
  obtain ⟨y, h1, rfl⟩ := h
  exact h1
theorem flat_texts {l : List (List UInt8)} : ∀ y, y ∈ l.map encS → ∀ d, d ∈ y → Flat d := fun y hy d hd => by
  obtain ⟨a, _, rfl⟩ := List.mem_map.1 hy
  rw [List.mem_singleton.1 hd]
  exact .str a
theorem flat_more {l : List (List UInt8)} {x : List UInt8} : ∀ y, y ∈ (l ++ [x]).map encS → ∀ d, d ∈ y → Flat d := flat_texts
theorem SafeMore_ok (m : List UInt8) (hs : List (List UInt8)) (more : List UInt8) : Ans L 4 [.str m, textsL hs, .str more] (.bool true) := by
  refine fn_of_body L_ok (fn := Try.f4) rfl rfl rfl rfl (by kernel_rfl) ?_
  repeat' (first
    | apply w_seq
    | apply w_region
    | apply o_end
    | apply t_normal
    | (apply o_add; (focus (first | rfl | (apply g_in; rfl; rfl; (focus (simp [*]; done))))); (focus (simp [*]; rfl)); rfl; (focus (simp [*]; rfl)); rfl; (focus (apply wrap_i64 <;> omega)))
    | (apply o_sub; (focus (first | rfl | (apply g_in; rfl; rfl; (focus (simp [*]; done))))); (focus (simp [*]; rfl)); rfl; (focus (simp [*]; rfl)); rfl; (focus (apply wrap_i64 <;> omega)))
    | (apply o_mpick; (focus (first | (apply g_none; rfl) | (apply g_sym; rfl; rfl; (focus (simp [*]; rfl)); (focus (simp only [gOf_bool, gOf_cond, gOf_cond', gOf_un, beq_true, beq_false, Bool.and_true]; rfl))))); (focus (intro hb; (try simp only [Bool.not_or, Bool.not_and, Bool.not_not, Bool.and_eq_true, Bool.not_eq_true', Bool.not_eq_false', Bool.not_eq_true, Bool.not_eq_false] at hb); simp [*]; rfl)); rfl; (focus (intro hb hp; (try simp only [Bool.not_or, Bool.not_and, Bool.not_not, Bool.and_eq_true, Bool.not_eq_true', Bool.not_eq_false', Bool.not_eq_true, Bool.not_eq_false] at hb); (try simp only [Bool.not_or, Bool.not_and, Bool.not_not, Bool.and_eq_true, Bool.not_eq_true', Bool.not_eq_false', Bool.not_eq_true, Bool.not_eq_false] at hp); simp [*]; rfl)); rfl; (focus (intro hb hp; (try simp only [Bool.not_or, Bool.not_and, Bool.not_not, Bool.and_eq_true, Bool.not_eq_true', Bool.not_eq_false', Bool.not_eq_true, Bool.not_eq_false] at hb); (try simp only [Bool.not_or, Bool.not_and, Bool.not_not, Bool.and_eq_true, Bool.not_eq_true', Bool.not_eq_false', Bool.not_eq_true, Bool.not_eq_false] at hp); simp [*]; rfl)); rfl)
    | (apply o_val; (focus (first | rfl | (apply g_in; rfl; rfl; (focus (simp [*]; done))))); (focus (simp [*]; rfl)))
    | (apply o_fuse; (focus (first | rfl | (apply g_in; rfl; rfl; (focus (simp [*]; done))))); rfl; (focus (simp [*]; first | rfl | exact ⟨rfl, rfl⟩)); (focus (first | rfl | (apply g_in; rfl; rfl; (focus (simp [*]; done))))); rfl; (focus (simp [*]; first | rfl | exact ⟨rfl, rfl⟩ | exact ⟨rfl, rfl, rfl⟩)); (focus (intro d hd; apply Under.flat; revert hd; revert d; simp; done)))
    | (apply o_fn fine; (focus (first | rfl | (apply g_in; rfl; rfl; (focus (simp [*]; done))))); (focus (simp [*]; exact ⟨rfl, rfl⟩)); (focus (exact Great_ok hs 8 60 (by decide))); (focus (simp [*]; done)))
    | (apply o_fn fine; (focus (first | rfl | (apply g_in; rfl; rfl; (focus (simp [*]; done))))); (focus (simp [*]; exact ⟨rfl, rfl⟩)); (focus (exact awake4_ok)); (focus (simp [*]; done)))
    | (apply o_mem; (focus (first | rfl | (apply g_in; rfl; rfl; (focus (simp [*]; done))))); rfl; (focus (simp [*]; exact ⟨rfl, rfl⟩)))
    | apply w_skip
    | apply w_block
    | apply b_normal
    | apply w_ret
    | apply t_ret
    | apply b_ret
    | apply w_exit
    | apply t_exit
    | apply b_here
    | (apply b_on; (focus decide))
    | (apply w_true; (focus (simp [*]; done)))
    | (apply w_false; (focus (simp [*]; done)))
    | ((apply w_cond; (focus (simp [*]; rfl)); rfl) <;> (intro hc; have hc' := hc; try simp at hc'))
    | (apply o_no; (focus (first | (apply g_out; rfl; rfl; (focus (simp [*]; done))) | (apply g_un; rfl; rfl; (focus (simp [*]; done))))))
    | (apply o_maybe; (focus (first | (apply g_none; rfl) | (apply g_sym; rfl; rfl; (focus (simp [*]; rfl)); (focus (simp only [gOf_bool, gOf_cond, gOf_cond', gOf_un, beq_true, beq_false, Bool.and_true]; rfl))))); (focus (intro hb; (try simp only [Bool.not_or, Bool.not_and, Bool.not_not, Bool.and_eq_true, Bool.not_eq_true', Bool.not_eq_false', Bool.not_eq_true, Bool.not_eq_false] at hb); simp [*]; rfl)))
    | (apply o_mfn fine; (focus (first | (apply g_none; rfl) | (apply g_sym; rfl; rfl; (focus (simp [*]; rfl)); (focus (simp only [gOf_bool, gOf_cond, gOf_cond', gOf_un, beq_true, beq_false, Bool.and_true]; rfl))))); (focus (intro hb; (try simp only [Bool.not_or, Bool.not_and, Bool.not_not, Bool.and_eq_true, Bool.not_eq_true', Bool.not_eq_false', Bool.not_eq_true, Bool.not_eq_false] at hb); simp [*]; exact ⟨rfl, rfl⟩)); (focus (intro _; exact Great_ok hs 8 60 (by decide))); (focus (intro _; simp [*]; done)))
    | (apply o_mfn fine; (focus (first | (apply g_none; rfl) | (apply g_sym; rfl; rfl; (focus (simp [*]; rfl)); (focus (simp only [gOf_bool, gOf_cond, gOf_cond', gOf_un, beq_true, beq_false, Bool.and_true]; rfl))))); (focus (intro hb; (try simp only [Bool.not_or, Bool.not_and, Bool.not_not, Bool.and_eq_true, Bool.not_eq_true', Bool.not_eq_false', Bool.not_eq_true, Bool.not_eq_false] at hb); simp [*]; exact ⟨rfl, rfl⟩)); (focus (intro _; exact awake4_ok)); (focus (intro _; simp [*]; done)))
    | ((apply o_if; rfl; rfl; (focus (simp [*]; rfl)); rfl) <;> (intro hg; (fail_if_success (guard_hyp hg : true = true)); (fail_if_success (guard_hyp hg : false = false)); have hg' := hg; try simp at hg'))
    | (apply w_drawA; rfl; (focus kernel_rfl); (focus (simp; rfl)); (focus (simp; rfl)))
    | (apply a_end; (focus (simp; rfl)))
    | (apply a_val; (focus (simp; rfl)); (focus (intro u; first | rfl | (apply g_in; rfl; rfl; (focus (simp [*]; done))))); (focus (intro H' u; simp [*]; rfl)); (focus (simp only [List.nil_append, List.cons_append]; rfl)))
    | (apply a_fn fine; (focus (simp; rfl)); (focus (intro u; first | rfl | (apply g_in; rfl; rfl; (focus (simp [*]; done))))); (focus (intro u; simp [*]; exact ⟨rfl, rfl⟩)); (focus (exact Great_ok hs 8 60 (by decide))); (focus (simp [*]; done)); (focus (simp only [List.nil_append, List.cons_append]; rfl)))
    | (apply a_fn fine; (focus (simp; rfl)); (focus (intro u; first | rfl | (apply g_in; rfl; rfl; (focus (simp [*]; done))))); (focus (intro u; simp [*]; exact ⟨rfl, rfl⟩)); (focus (exact awake4_ok)); (focus (simp [*]; done)); (focus (simp only [List.nil_append, List.cons_append]; rfl)))
    | (apply a_tie; (focus (simp; rfl)); (focus (intro u; first | rfl | (apply g_in; rfl; rfl; (focus (simp [*]; done))))); (focus (intro u; simp [*]; rfl)); (focus (first | rfl | kernel_rfl)); (focus (simp only [List.nil_append, List.cons_append]; rfl)); (focus (simp; rfl)))
    | (apply a_no; (focus (simp; rfl)); (focus (intro u; first | (apply g_out; rfl; rfl; (focus (simp [*]; done))) | (apply g_un; rfl; rfl; (focus (simp [*]; done))))); (focus (simp only [List.nil_append, List.cons_append]; rfl)))
    | ((apply a_if; (focus (simp; rfl)); rfl; rfl; (focus (intro u; simp [*]; rfl)); rfl) <;> (intro hg; (fail_if_success (guard_hyp hg : true = true)); (fail_if_success (guard_hyp hg : false = false)); have hg' := hg; try simp at hg'))
    | (apply a_frz; (focus (simp; rfl)); (focus (intro u; first | rfl | (apply g_in; rfl; rfl; (focus (simp [*]; done))))); (focus (intro u; rfl)); (focus (intro H' u; simp [*]; refine ⟨_, _, ⟨rfl, rfl⟩, ?_, ?_⟩; (focus (simp; done)); (focus (first | exact Snap.flat (by simp) | exact Snap.ref_flat (by simp) rfl rfl rfl (by simp) (by simp) | exact Snap.slice_flat (by simp) rfl (by simp; rfl) (by simp) (by simp) | exact Snap.slice_flat (by simp) (by simp; exact ⟨rfl, rfl, rfl⟩) (by simp; rfl) (by simp) (by simp))))); (focus (simp only [List.nil_append, List.cons_append]; rfl)))
    | (apply a_mem; (focus (simp; rfl)); (focus (intro u; first | rfl | (apply g_in; rfl; rfl; (focus (simp [*]; done))))); (focus (intro u; rfl)); (focus (intro u; simp [*]; exact ⟨rfl, rfl⟩)); (focus (first | rfl | kernel_rfl)); (focus (simp only [List.nil_append, List.cons_append]; rfl)); (focus (simp; rfl))))
  · apply f_retf
    · simp [*]; rfl
    · simp
    · rfl
  have hg : isGreat hs 8 60 = false := hc'.2
  obtain ⟨hn, hl⟩ := great_not hg
  have hm1 : more.length < 1000000000000 := by omega
  have hl' : ∀ x, x ∈ hs → x.length < 1000000000000 := fun x hx => Nat.lt_of_le_of_lt (hl x hx) (by decide)
  have hl2 : ∀ x, x ∈ hs ++ [more] → x.length < 1000000000000 := fun x hx => by
    rcases List.mem_append.1 hx with hx | hx
    · exact hl' x hx
    · rw [List.mem_singleton.1 hx]; exact hm1
  have hl3 : ∀ x, x ∈ twice hs → x.length < 1000000000000 := fun x hx => hl' x (twice_mem hx)
  have hlen2 : (twice hs).length < 1000000000000 := by rw [twice_len]; omega
  clear hc hc' hg
  refine w_loop (fun n f H => ∃ (j : Nat) (bs : List (List UInt8)), j ≤ hs.length ∧ n = j ∧ bs = twice (hs.drop j) ∧
      ((bs = [] ∧ H = [] ∧ f 7 = .nilsl) ∨ (bs ≠ [] ∧ ∃ g, H = [.cells g 1 false (bs.map encS)] ∧ f 7 = .slice 0 0 bs.length g)) ∧
      f 0 = .str m ∧ f 1 = textsL hs ∧ f 2 = .str more ∧ f 8 = .int .i64 ((j : Int) - 1)) hs.length ⟨hs.length, [], by simp [twice]; exact wrap_i64 (by omega) (by omega)⟩ ?_
  rintro n f H ⟨j, bs, hj, rfl, hbs, hS, h0, h1, h2, h8⟩
  cases n with
  | zero =>
    have h8' : f 8 = .int .i64 (-1) := h8
    have hbs' : bs = twice hs := hbs
    clear h8 hbs
    have A0 := Simple_ok m hs (by omega) hl'
    have A1 := Simple_ok m (hs ++ [more]) (by simp; omega) hl2
    have A2 := Simple_ok m (twice hs) hlen2 hl3
    have AH := Head_ok more hm1
    have e1 : isSimple m (hs ++ [more]) = (isSimple m hs && isHead more) := by
      simp only [isSimple, List.all_append, List.all_cons, List.all_nil, Bool.and_true]
      cases isMethod m <;> simp
    have e2 : isSimple m (twice hs) = isSimple m hs := by rw [isSimple, twice_all]; rfl
    rw [e1] at A1
    rw [e2] at A2
    have b1 : hs.length * 16 ≤ 140737488355328 := by omega
    have b2 : hs.length ≤ 140737488355328 := by omega
    have b3 : (hs.length + 1) * 16 ≤ 140737488355328 := by omega
    have b4 : hs.length + 1 ≤ 140737488355328 := by omega
    rw [← hbs'] at A2
    have hh0 : bs ≠ [] → hs ≠ [] := fun h he => h (by rw [hbs', he]; rfl)
    clear hbs' hl hl2 hl3 hlen2
    rcases hS with ⟨rfl, rfl, h7⟩ | ⟨hne, g, rfl, h7⟩
    · by_cases hh : hs = []
      · subst hh
        clear hl' b1 b2 b3 b4 hn hh0
        repeat' (first
          | apply w_seq
          | apply w_region
          | apply o_end
          | apply t_normal
          | (apply o_add; (focus (first | rfl | (apply g_in; rfl; rfl; (focus (simp [*]; done))))); (focus (simp [*]; rfl)); rfl; (focus (simp [*]; rfl)); rfl; (focus (apply wrap_i64 <;> omega)))
          | (apply o_sub; (focus (first | rfl | (apply g_in; rfl; rfl; (focus (simp [*]; done))))); (focus (simp [*]; rfl)); rfl; (focus (simp [*]; rfl)); rfl; (focus (apply wrap_i64 <;> omega)))
          | (apply o_mpick; (focus (first | (apply g_none; rfl) | (apply g_sym; rfl; rfl; (focus (simp [*]; rfl)); (focus (simp only [gOf_bool, gOf_cond, gOf_cond', gOf_un, beq_true, beq_false, Bool.and_true]; rfl))))); (focus (intro hb; (try simp only [Bool.not_or, Bool.not_and, Bool.not_not, Bool.and_eq_true, Bool.not_eq_true', Bool.not_eq_false', Bool.not_eq_true, Bool.not_eq_false] at hb); simp [*]; rfl)); rfl; (focus (intro hb hp; (try simp only [Bool.not_or, Bool.not_and, Bool.not_not, Bool.and_eq_true, Bool.not_eq_true', Bool.not_eq_false', Bool.not_eq_true, Bool.not_eq_false] at hb); (try simp only [Bool.not_or, Bool.not_and, Bool.not_not, Bool.and_eq_true, Bool.not_eq_true', Bool.not_eq_false', Bool.not_eq_true, Bool.not_eq_false] at hp); simp [*]; rfl)); rfl; (focus (intro hb hp; (try simp only [Bool.not_or, Bool.not_and, Bool.not_not, Bool.and_eq_true, Bool.not_eq_true', Bool.not_eq_false', Bool.not_eq_true, Bool.not_eq_false] at hb); (try simp only [Bool.not_or, Bool.not_and, Bool.not_not, Bool.and_eq_true, Bool.not_eq_true', Bool.not_eq_false', Bool.not_eq_true, Bool.not_eq_false] at hp); simp [*]; rfl)); rfl)
          | (apply o_val; (focus (first | rfl | (apply g_in; rfl; rfl; (focus (simp [*]; done))))); (focus (simp [*]; rfl)))
          | (apply o_fuse; (focus (first | rfl | (apply g_in; rfl; rfl; (focus (simp [*]; done))))); rfl; (focus (simp [*]; first | rfl | exact ⟨rfl, rfl⟩)); (focus (first | rfl | (apply g_in; rfl; rfl; (focus (simp [*]; done))))); rfl; (focus (simp [*]; first | rfl | exact ⟨rfl, rfl⟩ | exact ⟨rfl, rfl, rfl⟩)); (focus (intro d hd; apply Under.flat; revert hd; revert d; simp; done)))
          | (apply o_mem (dst := some 48); (focus (first | rfl | (apply g_in; rfl; rfl; (focus (simp [*]; done))))); rfl; (focus (simp [*]; exact ⟨rfl, rfl⟩)))
          | (apply o_frz; (focus (first | rfl | (apply g_in; rfl; rfl; (focus (simp [*]; done))))); rfl; (focus (simp [*]; exact ⟨rfl, rfl⟩)); (focus (simp; done)); (focus (exact Snap.nil (sz := 1))))
          | (apply o_frz; (focus (first | rfl | (apply g_in; rfl; rfl; (focus (simp [*]; done))))); rfl; (focus (simp [*]; exact ⟨rfl, rfl⟩)); (focus (simp; done)); (focus (first | exact Snap.flat (by simp) | exact Snap.ref_flat (by simp) rfl rfl rfl (by simp) (by simp) | exact Snap.slice_flat (by simp) rfl (by simp; rfl) (by simp) (by simp) | exact Snap.slice_flat (by simp) (by simp; exact ⟨rfl, rfl, rfl⟩) (by simp; rfl) (by simp) (by simp))))
          | (apply o_fn fine; (focus (first | rfl | (apply g_in; rfl; rfl; (focus (simp [*]; done))))); (focus (simp [*]; exact ⟨rfl, rfl⟩)); (focus (exact A0)); (focus (simp [*]; done)))
          | (apply o_lend fine; (focus (first | rfl | (apply g_in; rfl; rfl; (focus (simp [*]; done))))); (focus (simp [*]; exact ⟨rfl, rfl⟩)); (focus (exact A1 )); (focus ( refine ⟨.flat (by simp), ?_, trivial⟩; apply Snap.slice_flat; (focus (exact trivial)); (focus rfl); (focus (simp; done)); (focus (simp; done)); (focus (exact flat_more)))); (focus (simp; done)))
          | (apply o_fn fine; (focus (first | rfl | (apply g_in; rfl; rfl; (focus (simp [*]; done))))); (focus (simp [*]; exact ⟨rfl, rfl⟩)); (focus (exact A1)); (focus (simp [*]; done)))
          | (apply o_lend fine; (focus (first | rfl | (apply g_in; rfl; rfl; (focus (simp [*]; done))))); (focus (simp [*]; exact ⟨rfl, rfl⟩)); (focus (exact A2 )); (focus ( exact ⟨.flat (by simp), .nil, trivial⟩)); (focus (simp; done)))
          | (apply o_fn fine; (focus (first | rfl | (apply g_in; rfl; rfl; (focus (simp [*]; done))))); (focus (simp [*]; exact ⟨rfl, rfl⟩)); (focus (exact AH)); (focus (simp [*]; done)))
          | (apply o_fn fine; (focus (first | rfl | (apply g_in; rfl; rfl; (focus (simp [*]; done))))); (focus (simp [*]; exact ⟨rfl, rfl⟩)); (focus (exact awake4_ok)); (focus (simp [*]; done)))
          | (apply o_mem; (focus (first | rfl | (apply g_in; rfl; rfl; (focus (simp [*]; done))))); rfl; (focus (simp [*]; exact ⟨rfl, rfl⟩)))
          | apply w_skip
          | apply w_block
          | apply b_normal
          | apply w_ret
          | apply t_ret
          | apply b_ret
          | apply w_exit
          | apply t_exit
          | apply b_here
          | (apply b_on; (focus decide))
          | (apply w_true; (focus (simp [*]; done)))
          | (apply w_false; (focus (simp [*]; done)))
          | ((apply w_cond; (focus (simp [*]; rfl)); rfl) <;> (intro hc; have hc' := hc; try simp at hc'))
          | (apply o_no; (focus (first | (apply g_out; rfl; rfl; (focus (simp [*]; done))) | (apply g_un; rfl; rfl; (focus (simp [*]; done))))))
          | (apply o_maybe; (focus (first | (apply g_none; rfl) | (apply g_sym; rfl; rfl; (focus (simp [*]; rfl)); (focus (simp only [gOf_bool, gOf_cond, gOf_cond', gOf_un, beq_true, beq_false, Bool.and_true]; rfl))))); (focus (intro hb; (try simp only [Bool.not_or, Bool.not_and, Bool.not_not, Bool.and_eq_true, Bool.not_eq_true', Bool.not_eq_false', Bool.not_eq_true, Bool.not_eq_false] at hb); simp [*]; rfl)))
          | (apply o_mfn fine; (focus (first | (apply g_none; rfl) | (apply g_sym; rfl; rfl; (focus (simp [*]; rfl)); (focus (simp only [gOf_bool, gOf_cond, gOf_cond', gOf_un, beq_true, beq_false, Bool.and_true]; rfl))))); (focus (intro hb; (try simp only [Bool.not_or, Bool.not_and, Bool.not_not, Bool.and_eq_true, Bool.not_eq_true', Bool.not_eq_false', Bool.not_eq_true, Bool.not_eq_false] at hb); simp [*]; exact ⟨rfl, rfl⟩)); (focus (intro _; exact A0)); (focus (intro _; simp [*]; done)))
          | (apply o_mlend fine; (focus (first | (apply g_none; rfl) | (apply g_sym; rfl; rfl; (focus (simp [*]; rfl)); (focus (simp only [gOf_bool, gOf_cond, gOf_cond', gOf_un, beq_true, beq_false, Bool.and_true]; rfl))))); (focus (intro hb; (try simp only [Bool.not_or, Bool.not_and, Bool.not_not, Bool.and_eq_true, Bool.not_eq_true', Bool.not_eq_false', Bool.not_eq_true, Bool.not_eq_false] at hb); simp [*]; exact ⟨rfl, rfl⟩)); (focus (intro _; exact A1 )); (focus (intro hb; (try simp only [Bool.not_or, Bool.not_and, Bool.not_not, Bool.and_eq_true, Bool.not_eq_true', Bool.not_eq_false', Bool.not_eq_true, Bool.not_eq_false] at hb);  refine ⟨.flat (by simp), ?_, trivial⟩; apply Snap.slice_flat; (focus (exact trivial)); (focus rfl); (focus (simp; done)); (focus (simp; done)); (focus (exact flat_more)))); (focus (simp; done)))
          | (apply o_mfn fine; (focus (first | (apply g_none; rfl) | (apply g_sym; rfl; rfl; (focus (simp [*]; rfl)); (focus (simp only [gOf_bool, gOf_cond, gOf_cond', gOf_un, beq_true, beq_false, Bool.and_true]; rfl))))); (focus (intro hb; (try simp only [Bool.not_or, Bool.not_and, Bool.not_not, Bool.and_eq_true, Bool.not_eq_true', Bool.not_eq_false', Bool.not_eq_true, Bool.not_eq_false] at hb); simp [*]; exact ⟨rfl, rfl⟩)); (focus (intro _; exact A1)); (focus (intro _; simp [*]; done)))
          | (apply o_mlend fine; (focus (first | (apply g_none; rfl) | (apply g_sym; rfl; rfl; (focus (simp [*]; rfl)); (focus (simp only [gOf_bool, gOf_cond, gOf_cond', gOf_un, beq_true, beq_false, Bool.and_true]; rfl))))); (focus (intro hb; (try simp only [Bool.not_or, Bool.not_and, Bool.not_not, Bool.and_eq_true, Bool.not_eq_true', Bool.not_eq_false', Bool.not_eq_true, Bool.not_eq_false] at hb); simp [*]; exact ⟨rfl, rfl⟩)); (focus (intro _; exact A2 )); (focus (intro hb; (try simp only [Bool.not_or, Bool.not_and, Bool.not_not, Bool.and_eq_true, Bool.not_eq_true', Bool.not_eq_false', Bool.not_eq_true, Bool.not_eq_false] at hb);  exact ⟨.flat (by simp), .nil, trivial⟩)); (focus (simp; done)))
          | (apply o_mfn fine; (focus (first | (apply g_none; rfl) | (apply g_sym; rfl; rfl; (focus (simp [*]; rfl)); (focus (simp only [gOf_bool, gOf_cond, gOf_cond', gOf_un, beq_true, beq_false, Bool.and_true]; rfl))))); (focus (intro hb; (try simp only [Bool.not_or, Bool.not_and, Bool.not_not, Bool.and_eq_true, Bool.not_eq_true', Bool.not_eq_false', Bool.not_eq_true, Bool.not_eq_false] at hb); simp [*]; exact ⟨rfl, rfl⟩)); (focus (intro _; exact AH)); (focus (intro _; simp [*]; done)))
          | (apply o_mfn fine; (focus (first | (apply g_none; rfl) | (apply g_sym; rfl; rfl; (focus (simp [*]; rfl)); (focus (simp only [gOf_bool, gOf_cond, gOf_cond', gOf_un, beq_true, beq_false, Bool.and_true]; rfl))))); (focus (intro hb; (try simp only [Bool.not_or, Bool.not_and, Bool.not_not, Bool.and_eq_true, Bool.not_eq_true', Bool.not_eq_false', Bool.not_eq_true, Bool.not_eq_false] at hb); simp [*]; exact ⟨rfl, rfl⟩)); (focus (intro _; exact awake4_ok)); (focus (intro _; simp [*]; done)))
          | ((apply o_if; rfl; rfl; (focus (simp [*]; rfl)); rfl) <;> (intro hg; (fail_if_success (guard_hyp hg : true = true)); (fail_if_success (guard_hyp hg : false = false)); have hg' := hg; try simp at hg'))
          | (apply w_drawA; rfl; (focus kernel_rfl); (focus (simp; rfl)); (focus (simp; rfl)))
          | (apply a_end; (focus (simp; rfl)))
          | (apply a_val; (focus (simp; rfl)); (focus (intro u; first | rfl | (apply g_in; rfl; rfl; (focus (simp [*]; done))))); (focus (intro H' u; simp [*]; rfl)); (focus (simp only [List.nil_append, List.cons_append]; rfl)))
          | (apply a_fn fine; (focus (simp; rfl)); (focus (intro u; first | rfl | (apply g_in; rfl; rfl; (focus (simp [*]; done))))); (focus (intro u; simp [*]; exact ⟨rfl, rfl⟩)); (focus (exact A0)); (focus (simp [*]; done)); (focus (simp only [List.nil_append, List.cons_append]; rfl)))
          | (apply a_fn fine; (focus (simp; rfl)); (focus (intro u; first | rfl | (apply g_in; rfl; rfl; (focus (simp [*]; done))))); (focus (intro u; simp [*]; exact ⟨rfl, rfl⟩)); (focus (exact A1)); (focus (simp [*]; done)); (focus (simp only [List.nil_append, List.cons_append]; rfl)))
          | (apply a_fn fine; (focus (simp; rfl)); (focus (intro u; first | rfl | (apply g_in; rfl; rfl; (focus (simp [*]; done))))); (focus (intro u; simp [*]; exact ⟨rfl, rfl⟩)); (focus (exact AH)); (focus (simp [*]; done)); (focus (simp only [List.nil_append, List.cons_append]; rfl)))
          | (apply a_fn fine; (focus (simp; rfl)); (focus (intro u; first | rfl | (apply g_in; rfl; rfl; (focus (simp [*]; done))))); (focus (intro u; simp [*]; exact ⟨rfl, rfl⟩)); (focus (exact awake4_ok)); (focus (simp [*]; done)); (focus (simp only [List.nil_append, List.cons_append]; rfl)))
          | (apply a_tie; (focus (simp; rfl)); (focus (intro u; first | rfl | (apply g_in; rfl; rfl; (focus (simp [*]; done))))); (focus (intro u; simp [*]; rfl)); (focus (first | rfl | kernel_rfl)); (focus (simp only [List.nil_append, List.cons_append]; rfl)); (focus (simp; rfl)))
          | (apply a_no; (focus (simp; rfl)); (focus (intro u; first | (apply g_out; rfl; rfl; (focus (simp [*]; done))) | (apply g_un; rfl; rfl; (focus (simp [*]; done))))); (focus (simp only [List.nil_append, List.cons_append]; rfl)))
          | ((apply a_if; (focus (simp; rfl)); rfl; rfl; (focus (intro u; simp [*]; rfl)); rfl) <;> (intro hg; (fail_if_success (guard_hyp hg : true = true)); (fail_if_success (guard_hyp hg : false = false)); have hg' := hg; try simp at hg'))
          | (apply a_frz; (focus (simp; rfl)); (focus (intro u; first | rfl | (apply g_in; rfl; rfl; (focus (simp [*]; done))))); (focus (intro u; rfl)); (focus (intro H' u; simp [*]; refine ⟨_, _, ⟨rfl, rfl⟩, ?_, ?_⟩; (focus (simp; done)); (focus (first | exact Snap.flat (by simp) | exact Snap.ref_flat (by simp) rfl rfl rfl (by simp) (by simp) | exact Snap.slice_flat (by simp) rfl (by simp; rfl) (by simp) (by simp) | exact Snap.slice_flat (by simp) (by simp; exact ⟨rfl, rfl, rfl⟩) (by simp; rfl) (by simp) (by simp))))); (focus (simp only [List.nil_append, List.cons_append]; rfl)))
          | (apply a_mem; (focus (simp; rfl)); (focus (intro u; first | rfl | (apply g_in; rfl; rfl; (focus (simp [*]; done))))); (focus (intro u; rfl)); (focus (intro u; simp [*]; exact ⟨rfl, rfl⟩)); (focus (first | rfl | kernel_rfl)); (focus (simp only [List.nil_append, List.cons_append]; rfl)); (focus (simp; rfl))))
        all_goals (apply f_retf; (focus (simp [*]; rfl)); (focus (simp; done)); skip)
        all_goals (clear A0 A1 A2 AH; simp; try (cases isHead more <;> simp))
      · clear hh0 hn
        repeat' (first
          | apply w_seq
          | apply w_region
          | apply o_end
          | apply t_normal
          | (apply o_add; (focus (first | rfl | (apply g_in; rfl; rfl; (focus (simp [*]; done))))); (focus (simp [*]; rfl)); rfl; (focus (simp [*]; rfl)); rfl; (focus (apply wrap_i64 <;> omega)))
          | (apply o_sub; (focus (first | rfl | (apply g_in; rfl; rfl; (focus (simp [*]; done))))); (focus (simp [*]; rfl)); rfl; (focus (simp [*]; rfl)); rfl; (focus (apply wrap_i64 <;> omega)))
          | (apply o_mpick; (focus (first | (apply g_none; rfl) | (apply g_sym; rfl; rfl; (focus (simp [*]; rfl)); (focus (simp only [gOf_bool, gOf_cond, gOf_cond', gOf_un, beq_true, beq_false, Bool.and_true]; rfl))))); (focus (intro hb; (try simp only [Bool.not_or, Bool.not_and, Bool.not_not, Bool.and_eq_true, Bool.not_eq_true', Bool.not_eq_false', Bool.not_eq_true, Bool.not_eq_false] at hb); simp [*]; rfl)); rfl; (focus (intro hb hp; (try simp only [Bool.not_or, Bool.not_and, Bool.not_not, Bool.and_eq_true, Bool.not_eq_true', Bool.not_eq_false', Bool.not_eq_true, Bool.not_eq_false] at hb); (try simp only [Bool.not_or, Bool.not_and, Bool.not_not, Bool.and_eq_true, Bool.not_eq_true', Bool.not_eq_false', Bool.not_eq_true, Bool.not_eq_false] at hp); simp [*]; rfl)); rfl; (focus (intro hb hp; (try simp only [Bool.not_or, Bool.not_and, Bool.not_not, Bool.and_eq_true, Bool.not_eq_true', Bool.not_eq_false', Bool.not_eq_true, Bool.not_eq_false] at hb); (try simp only [Bool.not_or, Bool.not_and, Bool.not_not, Bool.and_eq_true, Bool.not_eq_true', Bool.not_eq_false', Bool.not_eq_true, Bool.not_eq_false] at hp); simp [*]; rfl)); rfl)
          | (apply o_val; (focus (first | rfl | (apply g_in; rfl; rfl; (focus (simp [*]; done))))); (focus (simp [*]; rfl)))
          | (apply o_fuse; (focus (first | rfl | (apply g_in; rfl; rfl; (focus (simp [*]; done))))); rfl; (focus (simp [*]; first | rfl | exact ⟨rfl, rfl⟩)); (focus (first | rfl | (apply g_in; rfl; rfl; (focus (simp [*]; done))))); rfl; (focus (simp [*]; first | rfl | exact ⟨rfl, rfl⟩ | exact ⟨rfl, rfl, rfl⟩)); (focus (intro d hd; apply Under.flat; revert hd; revert d; simp; done)))
          | (apply o_mem (dst := some 48); (focus (first | rfl | (apply g_in; rfl; rfl; (focus (simp [*]; done))))); rfl; (focus (simp [*]; exact ⟨rfl, rfl⟩)))
          | (apply o_frz; (focus (first | rfl | (apply g_in; rfl; rfl; (focus (simp [*]; done))))); rfl; (focus (simp [*]; exact ⟨rfl, rfl⟩)); (focus (simp; done)); (focus (first | exact Snap.flat (by simp) | exact Snap.ref_flat (by simp) rfl rfl rfl (by simp) (by simp) | exact Snap.slice_flat (by simp) rfl (by simp; rfl) (by simp) (by simp) | exact Snap.slice_flat (by simp) (by simp; exact ⟨rfl, rfl, rfl⟩) (by simp; rfl) (by simp) (by simp))))
          | (apply o_fn fine; (focus (first | rfl | (apply g_in; rfl; rfl; (focus (simp [*]; done))))); (focus (simp [*]; exact ⟨rfl, rfl⟩)); (focus (exact A0)); (focus (simp [*]; done)))
          | (apply o_lend fine; (focus (first | rfl | (apply g_in; rfl; rfl; (focus (simp [*]; done))))); (focus (simp [*]; exact ⟨rfl, rfl⟩)); (focus (exact A1 )); (focus ( refine ⟨.flat (by simp), ?_, trivial⟩; apply Snap.slice_flat; (focus (exact trivial)); (focus rfl); (focus (simp; done)); (focus (simp; done)); (focus (exact flat_more)))); (focus (simp; done)))
          | (apply o_lend fine; (focus (first | rfl | (apply g_in; rfl; rfl; (focus (simp [*]; done))))); (focus (simp [*]; exact ⟨rfl, rfl⟩)); (focus (exact A2 )); (focus ( exact ⟨.flat (by simp), .nil, trivial⟩)); (focus (simp; done)))
          | (apply o_fn fine; (focus (first | rfl | (apply g_in; rfl; rfl; (focus (simp [*]; done))))); (focus (simp [*]; exact ⟨rfl, rfl⟩)); (focus (exact AH)); (focus (simp [*]; done)))
          | (apply o_fn fine; (focus (first | rfl | (apply g_in; rfl; rfl; (focus (simp [*]; done))))); (focus (simp [*]; exact ⟨rfl, rfl⟩)); (focus (exact awake4_ok)); (focus (simp [*]; done)))
          | (apply o_mem; (focus (first | rfl | (apply g_in; rfl; rfl; (focus (simp [*]; done))))); rfl; (focus (simp [*]; exact ⟨rfl, rfl⟩)))
          | apply w_skip
          | apply w_block
          | apply b_normal
          | apply w_ret
          | apply t_ret
          | apply b_ret
          | apply w_exit
          | apply t_exit
          | apply b_here
          | (apply b_on; (focus decide))
          | (apply w_true; (focus (simp [*]; done)))
          | (apply w_false; (focus (simp [*]; done)))
          | ((apply w_cond; (focus (simp [*]; rfl)); rfl) <;> (intro hc; have hc' := hc; try simp at hc'))
          | (apply o_no; (focus (first | (apply g_out; rfl; rfl; (focus (simp [*]; done))) | (apply g_un; rfl; rfl; (focus (simp [*]; done))))))
          | (apply o_maybe; (focus (first | (apply g_none; rfl) | (apply g_sym; rfl; rfl; (focus (simp [*]; rfl)); (focus (simp only [gOf_bool, gOf_cond, gOf_cond', gOf_un, beq_true, beq_false, Bool.and_true]; rfl))))); (focus (intro hb; (try simp only [Bool.not_or, Bool.not_and, Bool.not_not, Bool.and_eq_true, Bool.not_eq_true', Bool.not_eq_false', Bool.not_eq_true, Bool.not_eq_false] at hb); simp [*]; rfl)))
          | (apply o_mfn fine; (focus (first | (apply g_none; rfl) | (apply g_sym; rfl; rfl; (focus (simp [*]; rfl)); (focus (simp only [gOf_bool, gOf_cond, gOf_cond', gOf_un, beq_true, beq_false, Bool.and_true]; rfl))))); (focus (intro hb; (try simp only [Bool.not_or, Bool.not_and, Bool.not_not, Bool.and_eq_true, Bool.not_eq_true', Bool.not_eq_false', Bool.not_eq_true, Bool.not_eq_false] at hb); simp [*]; exact ⟨rfl, rfl⟩)); (focus (intro _; exact A0)); (focus (intro _; simp [*]; done)))
          | (apply o_mlend fine; (focus (first | (apply g_none; rfl) | (apply g_sym; rfl; rfl; (focus (simp [*]; rfl)); (focus (simp only [gOf_bool, gOf_cond, gOf_cond', gOf_un, beq_true, beq_false, Bool.and_true]; rfl))))); (focus (intro hb; (try simp only [Bool.not_or, Bool.not_and, Bool.not_not, Bool.and_eq_true, Bool.not_eq_true', Bool.not_eq_false', Bool.not_eq_true, Bool.not_eq_false] at hb); simp [*]; exact ⟨rfl, rfl⟩)); (focus (intro _; exact A1 )); (focus (intro hb; (try simp only [Bool.not_or, Bool.not_and, Bool.not_not, Bool.and_eq_true, Bool.not_eq_true', Bool.not_eq_false', Bool.not_eq_true, Bool.not_eq_false] at hb);  refine ⟨.flat (by simp), ?_, trivial⟩; apply Snap.slice_flat; (focus (exact trivial)); (focus rfl); (focus (simp; done)); (focus (simp; done)); (focus (exact flat_more)))); (focus (simp; done)))
          | (apply o_mlend fine; (focus (first | (apply g_none; rfl) | (apply g_sym; rfl; rfl; (focus (simp [*]; rfl)); (focus (simp only [gOf_bool, gOf_cond, gOf_cond', gOf_un, beq_true, beq_false, Bool.and_true]; rfl))))); (focus (intro hb; (try simp only [Bool.not_or, Bool.not_and, Bool.not_not, Bool.and_eq_true, Bool.not_eq_true', Bool.not_eq_false', Bool.not_eq_true, Bool.not_eq_false] at hb); simp [*]; exact ⟨rfl, rfl⟩)); (focus (intro _; exact A2 )); (focus (intro hb; (try simp only [Bool.not_or, Bool.not_and, Bool.not_not, Bool.and_eq_true, Bool.not_eq_true', Bool.not_eq_false', Bool.not_eq_true, Bool.not_eq_false] at hb);  exact ⟨.flat (by simp), .nil, trivial⟩)); (focus (simp; done)))
          | (apply o_mfn fine; (focus (first | (apply g_none; rfl) | (apply g_sym; rfl; rfl; (focus (simp [*]; rfl)); (focus (simp only [gOf_bool, gOf_cond, gOf_cond', gOf_un, beq_true, beq_false, Bool.and_true]; rfl))))); (focus (intro hb; (try simp only [Bool.not_or, Bool.not_and, Bool.not_not, Bool.and_eq_true, Bool.not_eq_true', Bool.not_eq_false', Bool.not_eq_true, Bool.not_eq_false] at hb); simp [*]; exact ⟨rfl, rfl⟩)); (focus (intro _; exact AH)); (focus (intro _; simp [*]; done)))
          | (apply o_mfn fine; (focus (first | (apply g_none; rfl) | (apply g_sym; rfl; rfl; (focus (simp [*]; rfl)); (focus (simp only [gOf_bool, gOf_cond, gOf_cond', gOf_un, beq_true, beq_false, Bool.and_true]; rfl))))); (focus (intro hb; (try simp only [Bool.not_or, Bool.not_and, Bool.not_not, Bool.and_eq_true, Bool.not_eq_true', Bool.not_eq_false', Bool.not_eq_true, Bool.not_eq_false] at hb); simp [*]; exact ⟨rfl, rfl⟩)); (focus (intro _; exact awake4_ok)); (focus (intro _; simp [*]; done)))
          | ((apply o_if; rfl; rfl; (focus (simp [*]; rfl)); rfl) <;> (intro hg; (fail_if_success (guard_hyp hg : true = true)); (fail_if_success (guard_hyp hg : false = false)); have hg' := hg; try simp at hg'))
          | (apply w_drawA; rfl; (focus kernel_rfl); (focus (simp; rfl)); (focus (simp; rfl)))
          | (apply a_end; (focus (simp; rfl)))
          | (apply a_val; (focus (simp; rfl)); (focus (intro u; first | rfl | (apply g_in; rfl; rfl; (focus (simp [*]; done))))); (focus (intro H' u; simp [*]; rfl)); (focus (simp only [List.nil_append, List.cons_append]; rfl)))
          | (apply a_fn fine; (focus (simp; rfl)); (focus (intro u; first | rfl | (apply g_in; rfl; rfl; (focus (simp [*]; done))))); (focus (intro u; simp [*]; exact ⟨rfl, rfl⟩)); (focus (exact A0)); (focus (simp [*]; done)); (focus (simp only [List.nil_append, List.cons_append]; rfl)))
          | (apply a_fn fine; (focus (simp; rfl)); (focus (intro u; first | rfl | (apply g_in; rfl; rfl; (focus (simp [*]; done))))); (focus (intro u; simp [*]; exact ⟨rfl, rfl⟩)); (focus (exact AH)); (focus (simp [*]; done)); (focus (simp only [List.nil_append, List.cons_append]; rfl)))
          | (apply a_fn fine; (focus (simp; rfl)); (focus (intro u; first | rfl | (apply g_in; rfl; rfl; (focus (simp [*]; done))))); (focus (intro u; simp [*]; exact ⟨rfl, rfl⟩)); (focus (exact awake4_ok)); (focus (simp [*]; done)); (focus (simp only [List.nil_append, List.cons_append]; rfl)))
          | (apply a_tie; (focus (simp; rfl)); (focus (intro u; first | rfl | (apply g_in; rfl; rfl; (focus (simp [*]; done))))); (focus (intro u; simp [*]; rfl)); (focus (first | rfl | kernel_rfl)); (focus (simp only [List.nil_append, List.cons_append]; rfl)); (focus (simp; rfl)))
          | (apply a_no; (focus (simp; rfl)); (focus (intro u; first | (apply g_out; rfl; rfl; (focus (simp [*]; done))) | (apply g_un; rfl; rfl; (focus (simp [*]; done))))); (focus (simp only [List.nil_append, List.cons_append]; rfl)))
          | ((apply a_if; (focus (simp; rfl)); rfl; rfl; (focus (intro u; simp [*]; rfl)); rfl) <;> (intro hg; (fail_if_success (guard_hyp hg : true = true)); (fail_if_success (guard_hyp hg : false = false)); have hg' := hg; try simp at hg'))
          | (apply a_frz; (focus (simp; rfl)); (focus (intro u; first | rfl | (apply g_in; rfl; rfl; (focus (simp [*]; done))))); (focus (intro u; rfl)); (focus (intro H' u; simp [*]; refine ⟨_, _, ⟨rfl, rfl⟩, ?_, ?_⟩; (focus (simp; done)); (focus (first | exact Snap.flat (by simp) | exact Snap.ref_flat (by simp) rfl rfl rfl (by simp) (by simp) | exact Snap.slice_flat (by simp) rfl (by simp; rfl) (by simp) (by simp) | exact Snap.slice_flat (by simp) (by simp; exact ⟨rfl, rfl, rfl⟩) (by simp; rfl) (by simp) (by simp))))); (focus (simp only [List.nil_append, List.cons_append]; rfl)))
          | (apply a_mem; (focus (simp; rfl)); (focus (intro u; first | rfl | (apply g_in; rfl; rfl; (focus (simp [*]; done))))); (focus (intro u; rfl)); (focus (intro u; simp [*]; exact ⟨rfl, rfl⟩)); (focus (first | rfl | kernel_rfl)); (focus (simp only [List.nil_append, List.cons_append]; rfl)); (focus (simp; rfl))))
        all_goals (apply f_retf; (focus (simp [*]; rfl)); (focus (simp; done)); skip)
        all_goals (clear A0 A1 A2 AH; simp; try (cases isHead more <;> simp))
    · have hh : hs ≠ [] := hh0 hne
      clear hn
      clear hh0
      repeat' (first
        | apply w_seq
        | apply w_region
        | apply o_end
        | apply t_normal
        | (apply o_add; (focus (first | rfl | (apply g_in; rfl; rfl; (focus (simp [*]; done))))); (focus (simp [*]; rfl)); rfl; (focus (simp [*]; rfl)); rfl; (focus (apply wrap_i64 <;> omega)))
        | (apply o_sub; (focus (first | rfl | (apply g_in; rfl; rfl; (focus (simp [*]; done))))); (focus (simp [*]; rfl)); rfl; (focus (simp [*]; rfl)); rfl; (focus (apply wrap_i64 <;> omega)))
        | (apply o_mpick; (focus (first | (apply g_none; rfl) | (apply g_sym; rfl; rfl; (focus (simp [*]; rfl)); (focus (simp only [gOf_bool, gOf_cond, gOf_cond', gOf_un, beq_true, beq_false, Bool.and_true]; rfl))))); (focus (intro hb; (try simp only [Bool.not_or, Bool.not_and, Bool.not_not, Bool.and_eq_true, Bool.not_eq_true', Bool.not_eq_false', Bool.not_eq_true, Bool.not_eq_false] at hb); simp [*]; rfl)); rfl; (focus (intro hb hp; (try simp only [Bool.not_or, Bool.not_and, Bool.not_not, Bool.and_eq_true, Bool.not_eq_true', Bool.not_eq_false', Bool.not_eq_true, Bool.not_eq_false] at hb); (try simp only [Bool.not_or, Bool.not_and, Bool.not_not, Bool.and_eq_true, Bool.not_eq_true', Bool.not_eq_false', Bool.not_eq_true, Bool.not_eq_false] at hp); simp [*]; rfl)); rfl; (focus (intro hb hp; (try simp only [Bool.not_or, Bool.not_and, Bool.not_not, Bool.and_eq_true, Bool.not_eq_true', Bool.not_eq_false', Bool.not_eq_true, Bool.not_eq_false] at hb); (try simp only [Bool.not_or, Bool.not_and, Bool.not_not, Bool.and_eq_true, Bool.not_eq_true', Bool.not_eq_false', Bool.not_eq_true, Bool.not_eq_false] at hp); simp [*]; rfl)); rfl)
        | (apply o_val; (focus (first | rfl | (apply g_in; rfl; rfl; (focus (simp [*]; done))))); (focus (simp [*]; rfl)))
        | (apply o_fuse; (focus (first | rfl | (apply g_in; rfl; rfl; (focus (simp [*]; done))))); rfl; (focus (simp [*]; first | rfl | exact ⟨rfl, rfl⟩)); (focus (first | rfl | (apply g_in; rfl; rfl; (focus (simp [*]; done))))); rfl; (focus (simp [*]; first | rfl | exact ⟨rfl, rfl⟩ | exact ⟨rfl, rfl, rfl⟩)); (focus (intro d hd; apply Under.flat; revert hd; revert d; simp; done)))
        | (apply o_mem (dst := some 48); (focus (first | rfl | (apply g_in; rfl; rfl; (focus (simp [*]; done))))); rfl; (focus (simp [*]; exact ⟨rfl, rfl⟩)))
        | (apply o_frz; (focus (first | rfl | (apply g_in; rfl; rfl; (focus (simp [*]; done))))); rfl; (focus (simp [*]; exact ⟨rfl, rfl⟩)); (focus (simp; done)); (focus (first | exact Snap.flat (by simp) | exact Snap.ref_flat (by simp) rfl rfl rfl (by simp) (by simp) | exact Snap.slice_flat (by simp) rfl (by simp; rfl) (by simp) (by simp) | exact Snap.slice_flat (by simp) (by simp; exact ⟨rfl, rfl, rfl⟩) (by simp; rfl) (by simp) (by simp))))
        | (apply o_fn fine; (focus (first | rfl | (apply g_in; rfl; rfl; (focus (simp [*]; done))))); (focus (simp [*]; exact ⟨rfl, rfl⟩)); (focus (exact A0)); (focus (simp [*]; done)))
        | (apply o_lend fine; (focus (first | rfl | (apply g_in; rfl; rfl; (focus (simp [*]; done))))); (focus (simp [*]; exact ⟨rfl, rfl⟩)); (focus (exact A1 )); (focus ( refine ⟨.flat (by simp), ?_, trivial⟩; apply Snap.slice_flat; (focus (exact trivial)); (focus rfl); (focus (simp; done)); (focus (simp; done)); (focus (exact flat_more)))); (focus (simp; done)))
        | (apply o_lend fine; (focus (first | rfl | (apply g_in; rfl; rfl; (focus (simp [*]; done))))); (focus (simp [*]; exact ⟨rfl, rfl⟩)); (focus (exact A2 )); (focus ( refine ⟨.flat (by simp), ?_, trivial⟩; apply Snap.slice_flat; (focus (exact trivial)); (focus rfl); (focus (simp; done)); (focus (simp; done)); (focus (exact flat_texts)))); (focus (simp; done)))
        | (apply o_fn fine; (focus (first | rfl | (apply g_in; rfl; rfl; (focus (simp [*]; done))))); (focus (simp [*]; exact ⟨rfl, rfl⟩)); (focus (exact AH)); (focus (simp [*]; done)))
        | (apply o_fn fine; (focus (first | rfl | (apply g_in; rfl; rfl; (focus (simp [*]; done))))); (focus (simp [*]; exact ⟨rfl, rfl⟩)); (focus (exact awake4_ok)); (focus (simp [*]; done)))
        | (apply o_mem; (focus (first | rfl | (apply g_in; rfl; rfl; (focus (simp [*]; done))))); rfl; (focus (simp [*]; exact ⟨rfl, rfl⟩)))
        | apply w_skip
        | apply w_block
        | apply b_normal
        | apply w_ret
        | apply t_ret
        | apply b_ret
        | apply w_exit
        | apply t_exit
        | apply b_here
        | (apply b_on; (focus decide))
        | (apply w_true; (focus (simp [*]; done)))
        | (apply w_false; (focus (simp [*]; done)))
        | ((apply w_cond; (focus (simp [*]; rfl)); rfl) <;> (intro hc; have hc' := hc; try simp at hc'))
        | (apply o_no; (focus (first | (apply g_out; rfl; rfl; (focus (simp [*]; done))) | (apply g_un; rfl; rfl; (focus (simp [*]; done))))))
        | (apply o_maybe; (focus (first | (apply g_none; rfl) | (apply g_sym; rfl; rfl; (focus (simp [*]; rfl)); (focus (simp only [gOf_bool, gOf_cond, gOf_cond', gOf_un, beq_true, beq_false, Bool.and_true]; rfl))))); (focus (intro hb; (try simp only [Bool.not_or, Bool.not_and, Bool.not_not, Bool.and_eq_true, Bool.not_eq_true', Bool.not_eq_false', Bool.not_eq_true, Bool.not_eq_false] at hb); simp [*]; rfl)))
        | (apply o_mfn fine; (focus (first | (apply g_none; rfl) | (apply g_sym; rfl; rfl; (focus (simp [*]; rfl)); (focus (simp only [gOf_bool, gOf_cond, gOf_cond', gOf_un, beq_true, beq_false, Bool.and_true]; rfl))))); (focus (intro hb; (try simp only [Bool.not_or, Bool.not_and, Bool.not_not, Bool.and_eq_true, Bool.not_eq_true', Bool.not_eq_false', Bool.not_eq_true, Bool.not_eq_false] at hb); simp [*]; exact ⟨rfl, rfl⟩)); (focus (intro _; exact A0)); (focus (intro _; simp [*]; done)))
        | (apply o_mlend fine; (focus (first | (apply g_none; rfl) | (apply g_sym; rfl; rfl; (focus (simp [*]; rfl)); (focus (simp only [gOf_bool, gOf_cond, gOf_cond', gOf_un, beq_true, beq_false, Bool.and_true]; rfl))))); (focus (intro hb; (try simp only [Bool.not_or, Bool.not_and, Bool.not_not, Bool.and_eq_true, Bool.not_eq_true', Bool.not_eq_false', Bool.not_eq_true, Bool.not_eq_false] at hb); simp [*]; exact ⟨rfl, rfl⟩)); (focus (intro _; exact A1 )); (focus (intro hb; (try simp only [Bool.not_or, Bool.not_and, Bool.not_not, Bool.and_eq_true, Bool.not_eq_true', Bool.not_eq_false', Bool.not_eq_true, Bool.not_eq_false] at hb);  refine ⟨.flat (by simp), ?_, trivial⟩; apply Snap.slice_flat; (focus (exact trivial)); (focus rfl); (focus (simp; done)); (focus (simp; done)); (focus (exact flat_more)))); (focus (simp; done)))
        | (apply o_mlend fine; (focus (first | (apply g_none; rfl) | (apply g_sym; rfl; rfl; (focus (simp [*]; rfl)); (focus (simp only [gOf_bool, gOf_cond, gOf_cond', gOf_un, beq_true, beq_false, Bool.and_true]; rfl))))); (focus (intro hb; (try simp only [Bool.not_or, Bool.not_and, Bool.not_not, Bool.and_eq_true, Bool.not_eq_true', Bool.not_eq_false', Bool.not_eq_true, Bool.not_eq_false] at hb); simp [*]; exact ⟨rfl, rfl⟩)); (focus (intro _; exact A2 )); (focus (intro hb; (try simp only [Bool.not_or, Bool.not_and, Bool.not_not, Bool.and_eq_true, Bool.not_eq_true', Bool.not_eq_false', Bool.not_eq_true, Bool.not_eq_false] at hb);  refine ⟨.flat (by simp), ?_, trivial⟩; apply Snap.slice_flat; (focus (exact trivial)); (focus rfl); (focus (simp; done)); (focus (simp; done)); (focus (exact flat_texts)))); (focus (simp; done)))
        | (apply o_mfn fine; (focus (first | (apply g_none; rfl) | (apply g_sym; rfl; rfl; (focus (simp [*]; rfl)); (focus (simp only [gOf_bool, gOf_cond, gOf_cond', gOf_un, beq_true, beq_false, Bool.and_true]; rfl))))); (focus (intro hb; (try simp only [Bool.not_or, Bool.not_and, Bool.not_not, Bool.and_eq_true, Bool.not_eq_true', Bool.not_eq_false', Bool.not_eq_true, Bool.not_eq_false] at hb); simp [*]; exact ⟨rfl, rfl⟩)); (focus (intro _; exact AH)); (focus (intro _; simp [*]; done)))
        | (apply o_mfn fine; (focus (first | (apply g_none; rfl) | (apply g_sym; rfl; rfl; (focus (simp [*]; rfl)); (focus (simp only [gOf_bool, gOf_cond, gOf_cond', gOf_un, beq_true, beq_false, Bool.and_true]; rfl))))); (focus (intro hb; (try simp only [Bool.not_or, Bool.not_and, Bool.not_not, Bool.and_eq_true, Bool.not_eq_true', Bool.not_eq_false', Bool.not_eq_true, Bool.not_eq_false] at hb); simp [*]; exact ⟨rfl, rfl⟩)); (focus (intro _; exact awake4_ok)); (focus (intro _; simp [*]; done)))
        | ((apply o_if; rfl; rfl; (focus (simp [*]; rfl)); rfl) <;> (intro hg; (fail_if_success (guard_hyp hg : true = true)); (fail_if_success (guard_hyp hg : false = false)); have hg' := hg; try simp at hg'))
        | (apply w_drawA; rfl; (focus kernel_rfl); (focus (simp; rfl)); (focus (simp; rfl)))
        | (apply a_end; (focus (simp; rfl)))
        | (apply a_val; (focus (simp; rfl)); (focus (intro u; first | rfl | (apply g_in; rfl; rfl; (focus (simp [*]; done))))); (focus (intro H' u; simp [*]; rfl)); (focus (simp only [List.nil_append, List.cons_append]; rfl)))
        | (apply a_fn fine; (focus (simp; rfl)); (focus (intro u; first | rfl | (apply g_in; rfl; rfl; (focus (simp [*]; done))))); (focus (intro u; simp [*]; exact ⟨rfl, rfl⟩)); (focus (exact A0)); (focus (simp [*]; done)); (focus (simp only [List.nil_append, List.cons_append]; rfl)))
        | (apply a_fn fine; (focus (simp; rfl)); (focus (intro u; first | rfl | (apply g_in; rfl; rfl; (focus (simp [*]; done))))); (focus (intro u; simp [*]; exact ⟨rfl, rfl⟩)); (focus (exact AH)); (focus (simp [*]; done)); (focus (simp only [List.nil_append, List.cons_append]; rfl)))
        | (apply a_fn fine; (focus (simp; rfl)); (focus (intro u; first | rfl | (apply g_in; rfl; rfl; (focus (simp [*]; done))))); (focus (intro u; simp [*]; exact ⟨rfl, rfl⟩)); (focus (exact awake4_ok)); (focus (simp [*]; done)); (focus (simp only [List.nil_append, List.cons_append]; rfl)))
        | (apply a_tie; (focus (simp; rfl)); (focus (intro u; first | rfl | (apply g_in; rfl; rfl; (focus (simp [*]; done))))); (focus (intro u; simp [*]; rfl)); (focus (first | rfl | kernel_rfl)); (focus (simp only [List.nil_append, List.cons_append]; rfl)); (focus (simp; rfl)))
        | (apply a_no; (focus (simp; rfl)); (focus (intro u; first | (apply g_out; rfl; rfl; (focus (simp [*]; done))) | (apply g_un; rfl; rfl; (focus (simp [*]; done))))); (focus (simp only [List.nil_append, List.cons_append]; rfl)))
        | ((apply a_if; (focus (simp; rfl)); rfl; rfl; (focus (intro u; simp [*]; rfl)); rfl) <;> (intro hg; (fail_if_success (guard_hyp hg : true = true)); (fail_if_success (guard_hyp hg : false = false)); have hg' := hg; try simp at hg'))
        | (apply a_frz; (focus (simp; rfl)); (focus (intro u; first | rfl | (apply g_in; rfl; rfl; (focus (simp [*]; done))))); (focus (intro u; rfl)); (focus (intro H' u; simp [*]; refine ⟨_, _, ⟨rfl, rfl⟩, ?_, ?_⟩; (focus (simp; done)); (focus (first | exact Snap.flat (by simp) | exact Snap.ref_flat (by simp) rfl rfl rfl (by simp) (by simp) | exact Snap.slice_flat (by simp) rfl (by simp; rfl) (by simp) (by simp) | exact Snap.slice_flat (by simp) (by simp; exact ⟨rfl, rfl, rfl⟩) (by simp; rfl) (by simp) (by simp))))); (focus (simp only [List.nil_append, List.cons_append]; rfl)))
        | (apply a_mem; (focus (simp; rfl)); (focus (intro u; first | rfl | (apply g_in; rfl; rfl; (focus (simp [*]; done))))); (focus (intro u; rfl)); (focus (intro u; simp [*]; exact ⟨rfl, rfl⟩)); (focus (first | rfl | kernel_rfl)); (focus (simp only [List.nil_append, List.cons_append]; rfl)); (focus (simp; rfl))))
      all_goals (apply f_retf; (focus (simp [*]; rfl)); (focus (simp; done)); skip)
      all_goals (clear A0 A1 A2 AH; simp; try (cases isHead more <;> simp))
  | succ n =>
    have h8' : f 8 = .int .i64 (n : Int) := by rw [h8]; congr 1; omega
    have hnl : n < hs.length := by omega
    have hd : hs.drop n = hs[n] :: hs.drop (n + 1) := List.drop_eq_getElem_cons hnl
    have hb2 : twice (hs.drop n) = bs ++ [hs[n], hs[n]] := by rw [hd, twice_cons, hbs]
    have hw : IntKind.i64.wrap ((n : Int) - 1) = (n : Int) - 1 := wrap_i64 (by omega) (by omega)
    have hbl : bs.length = 2 * (hs.length - (n + 1)) := by rw [hbs, twice_len, List.length_drop]
    have b1 : (bs.length + 2) * 16 ≤ 140737488355328 := by omega
    have b2 : bs.length + 2 ≤ 140737488355328 := by omega
    clear h8 hj hbs hd hbl
    rcases hS with ⟨rfl, rfl, h7⟩ | ⟨hne, g, rfl, h7⟩
    · skip
      repeat' (first
        | apply w_seq
        | apply w_region
        | apply o_end
        | apply t_normal
        | (apply o_add; (focus (first | rfl | (apply g_in; rfl; rfl; (focus (simp [*]; done))))); (focus (simp [*]; rfl)); rfl; (focus (simp [*]; rfl)); rfl; (focus (apply wrap_i64 <;> omega)))
        | (apply o_sub; (focus (first | rfl | (apply g_in; rfl; rfl; (focus (simp [*]; done))))); (focus (simp [*]; rfl)); rfl; (focus (simp [*]; rfl)); rfl; (focus (apply wrap_i64 <;> omega)))
        | (apply o_val; (focus (first | rfl | (apply g_in; rfl; rfl; (focus (simp [*]; done))))); (focus (simp [*]; rfl)))
        | (apply o_fuse; (focus (first | rfl | (apply g_in; rfl; rfl; (focus (simp [*]; done))))); rfl; (focus (simp [*]; first | rfl | exact ⟨rfl, rfl⟩)); (focus (first | rfl | (apply g_in; rfl; rfl; (focus (simp [*]; done))))); rfl; (focus (simp [*]; first | rfl | exact ⟨rfl, rfl⟩ | exact ⟨rfl, rfl, rfl⟩)); (focus (intro d hd; apply Under.flat; revert hd; revert d; simp; done)))
        | (apply a_mem (dst := some 41); (focus (simp; rfl)); (focus (intro u; first | rfl | (apply g_in; rfl; rfl; (focus (simp [*]; done))))); (focus (intro u; rfl)); (focus (intro u; simp [*]; exact ⟨rfl, rfl⟩)); (focus (first | rfl | kernel_rfl)); (focus (simp only [List.nil_append, List.cons_append]; rfl)); (focus (simp; rfl)))
        | (apply o_mem; (focus (first | rfl | (apply g_in; rfl; rfl; (focus (simp [*]; done))))); rfl; (focus (simp [*]; exact ⟨rfl, rfl⟩)))
        | apply w_skip
        | apply w_block
        | apply b_normal
        | apply w_ret
        | apply t_ret
        | apply b_ret
        | apply w_exit
        | apply t_exit
        | apply b_here
        | (apply b_on; (focus decide))
        | (apply w_true; (focus (simp [*]; done)))
        | (apply w_false; (focus (simp [*]; done)))
        | ((apply w_cond; (focus (simp [*]; rfl)); rfl) <;> (intro hc; have hc' := hc; try simp at hc'))
        | (apply o_no; (focus (first | (apply g_out; rfl; rfl; (focus (simp [*]; done))) | (apply g_un; rfl; rfl; (focus (simp [*]; done))))))
        | ((apply o_if; rfl; rfl; (focus (simp [*]; rfl)); rfl) <;> (intro hg; (fail_if_success (guard_hyp hg : true = true)); (fail_if_success (guard_hyp hg : false = false)); have hg' := hg; try simp at hg'))
        | (apply w_drawA; rfl; (focus kernel_rfl); (focus (simp; rfl)); (focus (simp; rfl)))
        | (apply a_end; (focus (simp; rfl)))
        | (apply a_val; (focus (simp; rfl)); (focus (intro u; first | rfl | (apply g_in; rfl; rfl; (focus (simp [*]; done))))); (focus (intro H' u; simp [*]; rfl)); (focus (simp only [List.nil_append, List.cons_append]; rfl)))
        | (apply a_tie; (focus (simp; rfl)); (focus (intro u; first | rfl | (apply g_in; rfl; rfl; (focus (simp [*]; done))))); (focus (intro u; simp [*]; rfl)); (focus (first | rfl | kernel_rfl)); (focus (simp only [List.nil_append, List.cons_append]; rfl)); (focus (simp; rfl)))
        | (apply a_no; (focus (simp; rfl)); (focus (intro u; first | (apply g_out; rfl; rfl; (focus (simp [*]; done))) | (apply g_un; rfl; rfl; (focus (simp [*]; done))))); (focus (simp only [List.nil_append, List.cons_append]; rfl)))
        | ((apply a_if; (focus (simp; rfl)); rfl; rfl; (focus (intro u; simp [*]; rfl)); rfl) <;> (intro hg; (fail_if_success (guard_hyp hg : true = true)); (fail_if_success (guard_hyp hg : false = false)); have hg' := hg; try simp at hg'))
        | (apply a_frz; (focus (simp; rfl)); (focus (intro u; first | rfl | (apply g_in; rfl; rfl; (focus (simp [*]; done))))); (focus (intro u; rfl)); (focus (intro H' u; simp [*]; refine ⟨_, _, ⟨rfl, rfl⟩, ?_, ?_⟩; (focus (simp; done)); (focus (first | exact Snap.flat (by simp) | exact Snap.ref_flat (by simp) rfl rfl rfl (by simp) (by simp) | exact Snap.slice_flat (by simp) rfl (by simp; rfl) (by simp) (by simp) | exact Snap.slice_flat (by simp) (by simp; exact ⟨rfl, rfl, rfl⟩) (by simp; rfl) (by simp) (by simp))))); (focus (simp only [List.nil_append, List.cons_append]; rfl)))
        | (apply a_mem; (focus (simp; rfl)); (focus (intro u; first | rfl | (apply g_in; rfl; rfl; (focus (simp [*]; done))))); (focus (intro u; rfl)); (focus (intro u; simp [*]; exact ⟨rfl, rfl⟩)); (focus (first | rfl | kernel_rfl)); (focus (simp only [List.nil_append, List.cons_append]; rfl)); (focus (simp; rfl))))
      exact ⟨n, by omega, n, [hs[n], hs[n]], by omega, rfl, by simpa using hb2.symm, .inr ⟨by simp, 2, by simp, by simp⟩, by simp [*], by simp [*], by simp [*], by simp [*]⟩
    · skip
      repeat' (first
        | apply w_seq
        | apply w_region
        | apply o_end
        | apply t_normal
        | (apply o_add; (focus (first | rfl | (apply g_in; rfl; rfl; (focus (simp [*]; done))))); (focus (simp [*]; rfl)); rfl; (focus (simp [*]; rfl)); rfl; (focus (apply wrap_i64 <;> omega)))
        | (apply o_sub; (focus (first | rfl | (apply g_in; rfl; rfl; (focus (simp [*]; done))))); (focus (simp [*]; rfl)); rfl; (focus (simp [*]; rfl)); rfl; (focus (apply wrap_i64 <;> omega)))
        | (apply o_val; (focus (first | rfl | (apply g_in; rfl; rfl; (focus (simp [*]; done))))); (focus (simp [*]; rfl)))
        | (apply o_fuse; (focus (first | rfl | (apply g_in; rfl; rfl; (focus (simp [*]; done))))); rfl; (focus (simp [*]; first | rfl | exact ⟨rfl, rfl⟩)); (focus (first | rfl | (apply g_in; rfl; rfl; (focus (simp [*]; done))))); rfl; (focus (simp [*]; first | rfl | exact ⟨rfl, rfl⟩ | exact ⟨rfl, rfl, rfl⟩)); (focus (intro d hd; apply Under.flat; revert hd; revert d; simp; done)))
        | (apply a_mem (dst := some 41); (focus (simp; rfl)); (focus (intro u; first | rfl | (apply g_in; rfl; rfl; (focus (simp [*]; done))))); (focus (intro u; rfl)); (focus (intro u; simp [*]; exact ⟨rfl, rfl⟩)); (focus (first | rfl | kernel_rfl)); (focus (simp only [List.nil_append, List.cons_append]; rfl)); (focus (simp; rfl)))
        | (apply o_mem; (focus (first | rfl | (apply g_in; rfl; rfl; (focus (simp [*]; done))))); rfl; (focus (simp [*]; exact ⟨rfl, rfl⟩)))
        | apply w_skip
        | apply w_block
        | apply b_normal
        | apply w_ret
        | apply t_ret
        | apply b_ret
        | apply w_exit
        | apply t_exit
        | apply b_here
        | (apply b_on; (focus decide))
        | (apply w_true; (focus (simp [*]; done)))
        | (apply w_false; (focus (simp [*]; done)))
        | ((apply w_cond; (focus (simp [*]; rfl)); rfl) <;> (intro hc; have hc' := hc; try simp at hc'))
        | (apply o_no; (focus (first | (apply g_out; rfl; rfl; (focus (simp [*]; done))) | (apply g_un; rfl; rfl; (focus (simp [*]; done))))))
        | ((apply o_if; rfl; rfl; (focus (simp [*]; rfl)); rfl) <;> (intro hg; (fail_if_success (guard_hyp hg : true = true)); (fail_if_success (guard_hyp hg : false = false)); have hg' := hg; try simp at hg'))
        | (apply w_drawA; rfl; (focus kernel_rfl); (focus (simp; rfl)); (focus (simp; rfl)))
        | (apply a_end; (focus (simp; rfl)))
        | (apply a_val; (focus (simp; rfl)); (focus (intro u; first | rfl | (apply g_in; rfl; rfl; (focus (simp [*]; done))))); (focus (intro H' u; simp [*]; rfl)); (focus (simp only [List.nil_append, List.cons_append]; rfl)))
        | (apply a_tie; (focus (simp; rfl)); (focus (intro u; first | rfl | (apply g_in; rfl; rfl; (focus (simp [*]; done))))); (focus (intro u; simp [*]; rfl)); (focus (first | rfl | kernel_rfl)); (focus (simp only [List.nil_append, List.cons_append]; rfl)); (focus (simp; rfl)))
        | (apply a_no; (focus (simp; rfl)); (focus (intro u; first | (apply g_out; rfl; rfl; (focus (simp [*]; done))) | (apply g_un; rfl; rfl; (focus (simp [*]; done))))); (focus (simp only [List.nil_append, List.cons_append]; rfl)))
        | ((apply a_if; (focus (simp; rfl)); rfl; rfl; (focus (intro u; simp [*]; rfl)); rfl) <;> (intro hg; (fail_if_success (guard_hyp hg : true = true)); (fail_if_success (guard_hyp hg : false = false)); have hg' := hg; try simp at hg'))
        | (apply a_frz; (focus (simp; rfl)); (focus (intro u; first | rfl | (apply g_in; rfl; rfl; (focus (simp [*]; done))))); (focus (intro u; rfl)); (focus (intro H' u; simp [*]; refine ⟨_, _, ⟨rfl, rfl⟩, ?_, ?_⟩; (focus (simp; done)); (focus (first | exact Snap.flat (by simp) | exact Snap.ref_flat (by simp) rfl rfl rfl (by simp) (by simp) | exact Snap.slice_flat (by simp) rfl (by simp; rfl) (by simp) (by simp) | exact Snap.slice_flat (by simp) (by simp; exact ⟨rfl, rfl, rfl⟩) (by simp; rfl) (by simp) (by simp))))); (focus (simp only [List.nil_append, List.cons_append]; rfl)))
        | (apply a_mem; (focus (simp; rfl)); (focus (intro u; first | rfl | (apply g_in; rfl; rfl; (focus (simp [*]; done))))); (focus (intro u; rfl)); (focus (intro u; simp [*]; exact ⟨rfl, rfl⟩)); (focus (first | rfl | kernel_rfl)); (focus (simp only [List.nil_append, List.cons_append]; rfl)); (focus (simp; rfl))))
      exact ⟨n, by omega, n, bs ++ [hs[n], hs[n]], by omega, rfl, hb2.symm, .inr ⟨by simp, g + 2, by simp, by simp⟩, by simp [*], by simp [*], by simp [*], by simp [*]⟩
end Go.Proofs.Ytefhaeaakidaiaa.Vm
