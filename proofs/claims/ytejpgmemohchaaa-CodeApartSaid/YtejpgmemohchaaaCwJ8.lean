/- Walks: CodeApart, a part. -/
import Derived.Test.YtejpgmemohchaaaCwJ
set_option linter.unusedSimpArgs false
set_option linter.unusedVariables false
set_option maxRecDepth 100000
set_option maxHeartbeats 4000000
namespace Go.Proofs.Ytejpgmemohchaaa.Vm
open Go
attribute [local irreducible] wpD opsD thenD blockD planD planA
attribute [local simp] List.take_of_length_le List.drop_of_length_le num_ne

theorem Apart8 (s t : St) (ws : s.Wf) (wt : t.Wf) (hgs : greatSt s = false) (hgt : greatSt t = false) (E0 : s.doc = t.doc) (E1 : s.owned = t.owned) (E2 : s.jar = t.jar) (E3 : s.changed = t.changed) (E4 : s.knows = t.knows) (E5 : s.stolen = t.stolen) (E6 : s.ran = t.ran) (h : s.pending.length = t.pending.length) : Ans L 8 [stD s, stD t] (.bool true) := by
  refine fn_of_body L_ok (fn := Try.f8) rfl rfl rfl rfl (by kernel_rfl) ?_
  have gs := GreatState_ok s
  have gt := GreatState_ok t
  rw [hgs] at gs
  rw [hgt] at gt
  obtain ⟨is, ps⟩ := ws.in hgs
  obtain ⟨it, pt⟩ := wt.in hgt
  have cS := State_ok s is
  have cT := State_ok t it
  have cB := SameBytes_ok (stB s) (stB t) (State_len is)
  rw [st_same is it] at cB
  clear ws wt hgs hgt
  have c2 := SameInts_ok s.jar t.jar (by have := is.jarL; omega)
  have c3 := SameInts_ok s.changed t.changed (by have := is.changedL; omega)
  have c4 := truths_ok s.knows t.knows (by have := is.knowsL; omega)
  have c5 := truths_ok s.stolen t.stolen (by have := is.stolenL; omega)
  have c6 := truths_ok s.ran t.ran (by have := is.ranL; omega)
  obtain ⟨sd, so, sj, sc, sk, ss, sr, sp⟩ := s
  obtain ⟨td, to, tj, tc, tk, ts, tr, tp⟩ := t
  generalize hqs : stB ⟨sd, so, sj, sc, sk, ss, sr, sp⟩ = qs at *
  generalize hqt : stB ⟨td, to, tj, tc, tk, ts, tr, tp⟩ = qt at *
  clear hqs hqt
  simp only at c2 c3 c4 c5 c6 ps pt
  simp only at E0
  subst E0
  simp only at E1
  subst E1
  simp only at E2
  subst E2
  rw [show (sj == sj) = true by simp] at c2
  simp only at E3
  subst E3
  rw [show (sc == sc) = true by simp] at c3
  simp only at E4
  subst E4
  rw [show (sk == sk) = true by simp] at c4
  simp only at E5
  subst E5
  rw [show (ss == ss) = true by simp] at c5
  simp only at E6
  subst E6
  rw [show (sr == sr) = true by simp] at c6
  have h7 : sp.length = tp.length := h
  clear h
  have h7' : (sp.length : Int) = (tp.length : Int) := by omega
  have hst : decide ((⟨sd, so, sj, sc, sk, ss, sr, sp⟩ : St) = ⟨sd, so, sj, sc, sk, ss, sr, tp⟩) = decide (sp = tp) := by simp
  rw [hst] at cB
  clear hst
  have ri := is.pending
  have rj := it.pending
  simp only at ri rj
  clear is it
  repeat' (first
    | apply w_seq
    | apply w_region
    | apply o_end
    | apply t_normal
    | (apply o_val; (focus (first | rfl | (apply g_in; rfl; rfl; (focus (simp [*]; done))))); (focus (simp [*]; rfl)))
    | (apply o_var; (focus (first | rfl | (apply g_in; rfl; rfl; (focus (simp [*]; done))))); (focus (simp [*]; exact ⟨rfl, rfl⟩)); (focus (simp; done)); (focus (first | exact Snap.flat (by simp) | exact Snap.ref_flat (by simp) rfl rfl rfl (by simp) (by simp) | exact Snap.slice_flat (by simp) rfl (by simp; rfl) (by simp) (by simp) | exact Snap.slice_flat (by simp) (by simp; exact ⟨rfl, rfl, rfl⟩) (by simp; rfl) (by simp) (by simp))))
    | (apply o_fn fine; (focus (first | rfl | (apply g_in; rfl; rfl; (focus (simp [*]; done))))); (focus (simp [*]; exact ⟨rfl, rfl⟩)); (focus (exact gs)); (focus (simp [*]; done)))
    | (apply o_fn fine; (focus (first | rfl | (apply g_in; rfl; rfl; (focus (simp [*]; done))))); (focus (simp [*]; exact ⟨rfl, rfl⟩)); (focus (exact gt)); (focus (simp [*]; done)))
    | (apply o_fn fine; (focus (first | rfl | (apply g_in; rfl; rfl; (focus (simp [*]; done))))); (focus (simp [*]; exact ⟨rfl, rfl⟩)); (focus (exact c2)); (focus (simp [*]; done)))
    | (apply o_fn fine; (focus (first | rfl | (apply g_in; rfl; rfl; (focus (simp [*]; done))))); (focus (simp [*]; exact ⟨rfl, rfl⟩)); (focus (exact c3)); (focus (simp [*]; done)))
    | (apply o_fn fine; (focus (first | rfl | (apply g_in; rfl; rfl; (focus (simp [*]; done))))); (focus (simp [*]; exact ⟨rfl, rfl⟩)); (focus (exact c4)); (focus (simp [*]; done)))
    | (apply o_fn fine; (focus (first | rfl | (apply g_in; rfl; rfl; (focus (simp [*]; done))))); (focus (simp [*]; exact ⟨rfl, rfl⟩)); (focus (exact c5)); (focus (simp [*]; done)))
    | (apply o_fn fine; (focus (first | rfl | (apply g_in; rfl; rfl; (focus (simp [*]; done))))); (focus (simp [*]; exact ⟨rfl, rfl⟩)); (focus (exact c6)); (focus (simp [*]; done)))
    | apply w_skip
    | apply w_block
    | (apply w_false; (focus (simp [*]; done))))
  clear h7'
  refine w_loop (fun n f H => ∃ (i : Nat), i ≤ sp.length ∧ n = sp.length - i ∧ H = [] ∧ f 2 = .box (stC ⟨sd, so, sj, sc, sk, ss, sr, sp⟩) ∧ f 3 = .box (stC ⟨sd, so, sj, sc, sk, ss, sr, tp⟩) ∧ f 5 = .bool (decide (sp.take i = tp.take i)) ∧ f 6 = .int .i64 i) sp.length ⟨0, by simp⟩ ?_
  rintro n f H ⟨i, hi, rfl, rfl, hf2, hf3, hf5, hf6⟩
  by_cases hp : sp.take i = tp.take i
  · rw [show decide (sp.take i = tp.take i) = true by simpa using hp] at hf5
    by_cases hlt : i < sp.length
    · have hlt2 : i < tp.length := by omega
      have r1 := ri _ (List.getElem_mem hlt)
      have r2 := rj _ (List.getElem_mem hlt2)
      have k1 := SameRequest_ok sp[i] tp[i] (by have := r1.len; omega)
      have k2 := Request_ok _ r1
      have k3 := Request_ok _ r2
      have k4 := SameBytes_ok (rqB sp[i]) (rqB tp[i]) (by have := rqB_len r1; omega)
      rw [rq_same r1 r2] at k4
      have hnext : decide (sp.take (i + 1) = tp.take (i + 1)) = sameRq sp[i] tp[i] := by
        rw [List.take_succ_eq_append_getElem hlt, List.take_succ_eq_append_getElem hlt2, Bool.eq_iff_iff, sameRq_iff, decide_eq_true_eq, hp]
        exact ⟨fun h => by simpa using List.append_cancel_left h, fun h => by rw [h]⟩
      generalize sameRq sp[i] tp[i] = one at *
      generalize rqB sp[i] = q1 at *
      generalize rqB tp[i] = q2 at *
      clear cB cS cT c2 c3 c4 c5 c6 gs gt ri rj r1 r2 hp
      cases one
      · skip
        repeat' (first
          | apply w_seq
          | apply w_region
          | apply o_end
          | apply t_normal
          | (apply o_add; (focus (first | rfl | (apply g_in; rfl; rfl; (focus (simp [*]; done))))); (focus (simp [*]; rfl)); rfl; (focus (simp [*]; rfl)); rfl; (focus (apply wrap_i64 <;> omega)))
          | (apply o_val; (focus (first | rfl | (apply g_in; rfl; rfl; (focus (simp [*]; done))))); (focus (simp [*]; rfl)))
          | apply w_skip
          | apply w_block
          | apply b_normal
          | (apply w_true; (focus (simp [*]; done)))
          | (apply w_false; (focus (simp [*]; done)))
          | (apply w_drawA; rfl; (focus kernel_rfl); (focus (simp; rfl)); (focus (simp; rfl)))
          | (apply a_end; (focus (simp; rfl)))
          | (apply a_val; (focus (simp; rfl)); (focus (intro u; first | rfl | (apply g_in; rfl; rfl; (focus (simp [*]; done))))); (focus (intro H' u; simp [*]; rfl)); (focus (simp only [List.nil_append, List.cons_append]; rfl)))
          | (apply a_fn fine; (focus (simp; rfl)); (focus (intro u; first | rfl | (apply g_in; rfl; rfl; (focus (simp [*]; done))))); (focus (intro u; simp [*]; exact ⟨rfl, rfl⟩)); (focus (exact k1)); (focus (simp [*]; done)); (focus (simp only [List.nil_append, List.cons_append]; rfl)))
          | (apply a_fn fine; (focus (simp; rfl)); (focus (intro u; first | rfl | (apply g_in; rfl; rfl; (focus (simp [*]; done))))); (focus (intro u; simp [*]; exact ⟨rfl, rfl⟩)); (focus (exact k2)); (focus (simp [*]; done)); (focus (simp only [List.nil_append, List.cons_append]; rfl)))
          | (apply a_fn fine; (focus (simp; rfl)); (focus (intro u; first | rfl | (apply g_in; rfl; rfl; (focus (simp [*]; done))))); (focus (intro u; simp [*]; exact ⟨rfl, rfl⟩)); (focus (exact k3)); (focus (simp [*]; done)); (focus (simp only [List.nil_append, List.cons_append]; rfl)))
          | (apply a_fn fine; (focus (simp; rfl)); (focus (intro u; first | rfl | (apply g_in; rfl; rfl; (focus (simp [*]; done))))); (focus (intro u; simp [*]; exact ⟨rfl, rfl⟩)); (focus (exact k4)); (focus (simp [*]; done)); (focus (simp only [List.nil_append, List.cons_append]; rfl))))
        exact ⟨sp.length - (i + 1), by omega, i + 1, by omega, rfl, rfl, by simp [*], by simp [*], by simp [*], by simp [*]⟩
      · skip
        repeat' (first
          | apply w_seq
          | apply w_region
          | apply o_end
          | apply t_normal
          | (apply o_add; (focus (first | rfl | (apply g_in; rfl; rfl; (focus (simp [*]; done))))); (focus (simp [*]; rfl)); rfl; (focus (simp [*]; rfl)); rfl; (focus (apply wrap_i64 <;> omega)))
          | (apply o_val; (focus (first | rfl | (apply g_in; rfl; rfl; (focus (simp [*]; done))))); (focus (simp [*]; rfl)))
          | apply w_skip
          | apply w_block
          | apply b_normal
          | (apply w_true; (focus (simp [*]; done)))
          | (apply w_false; (focus (simp [*]; done)))
          | (apply w_drawA; rfl; (focus kernel_rfl); (focus (simp; rfl)); (focus (simp; rfl)))
          | (apply a_end; (focus (simp; rfl)))
          | (apply a_val; (focus (simp; rfl)); (focus (intro u; first | rfl | (apply g_in; rfl; rfl; (focus (simp [*]; done))))); (focus (intro H' u; simp [*]; rfl)); (focus (simp only [List.nil_append, List.cons_append]; rfl)))
          | (apply a_fn fine; (focus (simp; rfl)); (focus (intro u; first | rfl | (apply g_in; rfl; rfl; (focus (simp [*]; done))))); (focus (intro u; simp [*]; exact ⟨rfl, rfl⟩)); (focus (exact k1)); (focus (simp [*]; done)); (focus (simp only [List.nil_append, List.cons_append]; rfl)))
          | (apply a_fn fine; (focus (simp; rfl)); (focus (intro u; first | rfl | (apply g_in; rfl; rfl; (focus (simp [*]; done))))); (focus (intro u; simp [*]; exact ⟨rfl, rfl⟩)); (focus (exact k2)); (focus (simp [*]; done)); (focus (simp only [List.nil_append, List.cons_append]; rfl)))
          | (apply a_fn fine; (focus (simp; rfl)); (focus (intro u; first | rfl | (apply g_in; rfl; rfl; (focus (simp [*]; done))))); (focus (intro u; simp [*]; exact ⟨rfl, rfl⟩)); (focus (exact k3)); (focus (simp [*]; done)); (focus (simp only [List.nil_append, List.cons_append]; rfl)))
          | (apply a_fn fine; (focus (simp; rfl)); (focus (intro u; first | rfl | (apply g_in; rfl; rfl; (focus (simp [*]; done))))); (focus (intro u; simp [*]; exact ⟨rfl, rfl⟩)); (focus (exact k4)); (focus (simp [*]; done)); (focus (simp only [List.nil_append, List.cons_append]; rfl))))
        exact ⟨sp.length - (i + 1), by omega, i + 1, by omega, rfl, rfl, by simp [*], by simp [*], by simp [*], by simp [*]⟩
    · have heq : sp = tp := by rwa [List.take_of_length_le (by omega), List.take_of_length_le (by omega)] at hp
      rw [show decide (sp = tp) = true by simpa using heq] at cB
      clear hp heq h7
      repeat' (first
        | apply w_seq
        | apply w_region
        | apply o_end
        | apply t_normal
        | (apply o_val; (focus (first | rfl | (apply g_in; rfl; rfl; (focus (simp [*]; done))))); (focus (simp [*]; rfl)))
        | (apply f_retf; (focus (simp [*]; rfl)); (focus (simp; done)); (focus (simp [*]; done)))
        | apply w_ret
        | apply w_exit
        | apply t_exit
        | apply b_here
        | (apply w_false; (focus (simp [*]; done)))
        | (apply o_no; (focus (first | (apply g_out; rfl; rfl; (focus (simp [*]; done))) | (apply g_un; rfl; rfl; (focus (simp [*]; done))))))
        | (apply w_drawA; rfl; (focus kernel_rfl); (focus (simp; rfl)); (focus (simp; rfl)))
        | (apply a_end; (focus (simp; rfl)))
        | (apply a_val; (focus (simp; rfl)); (focus (intro u; first | rfl | (apply g_in; rfl; rfl; (focus (simp [*]; done))))); (focus (intro H' u; simp [*]; rfl)); (focus (simp only [List.nil_append, List.cons_append]; rfl)))
        | (apply a_fn fine; (focus (simp; rfl)); (focus (intro u; first | rfl | (apply g_in; rfl; rfl; (focus (simp [*]; done))))); (focus (intro u; simp [*]; exact ⟨rfl, rfl⟩)); (focus (exact cS)); (focus (simp [*]; done)); (focus (simp only [List.nil_append, List.cons_append]; rfl)))
        | (apply a_fn fine; (focus (simp; rfl)); (focus (intro u; first | rfl | (apply g_in; rfl; rfl; (focus (simp [*]; done))))); (focus (intro u; simp [*]; exact ⟨rfl, rfl⟩)); (focus (exact cT)); (focus (simp [*]; done)); (focus (simp only [List.nil_append, List.cons_append]; rfl)))
        | (apply a_fn fine; (focus (simp; rfl)); (focus (intro u; first | rfl | (apply g_in; rfl; rfl; (focus (simp [*]; done))))); (focus (intro u; simp [*]; exact ⟨rfl, rfl⟩)); (focus (exact cB)); (focus (simp [*]; done)); (focus (simp only [List.nil_append, List.cons_append]; rfl)))
        | (apply a_fn fine; (focus (simp; rfl)); (focus (intro u; first | rfl | (apply g_in; rfl; rfl; (focus (simp [*]; done))))); (focus (intro u; simp [*]; exact ⟨rfl, rfl⟩)); (focus (exact awake_ok)); (focus (simp [*]; done)); (focus (simp only [List.nil_append, List.cons_append]; rfl))))
      done
  · rw [show decide (sp.take i = tp.take i) = false by simpa using hp] at hf5
    have heq : ¬ sp = tp := fun h => hp (by rw [h])
    rw [show decide (sp = tp) = false by simpa using heq] at cB
    clear hp heq h7
    repeat' (first
      | apply w_seq
      | apply w_region
      | apply o_end
      | apply t_normal
      | (apply o_val; (focus (first | rfl | (apply g_in; rfl; rfl; (focus (simp [*]; done))))); (focus (simp [*]; rfl)))
      | (apply f_retf; (focus (simp [*]; rfl)); (focus (simp; done)); (focus (simp [*]; done)))
      | apply w_ret
      | apply w_exit
      | apply t_exit
      | apply b_here
      | (apply w_false; (focus (simp [*]; done)))
      | (apply o_no; (focus (first | (apply g_out; rfl; rfl; (focus (simp [*]; done))) | (apply g_un; rfl; rfl; (focus (simp [*]; done))))))
      | ((apply o_if; rfl; rfl; (focus (simp [*]; rfl)); rfl) <;> (intro hg; (fail_if_success (guard_hyp hg : true = true)); (fail_if_success (guard_hyp hg : false = false)); have hg' := hg; try simp at hg'))
      | (apply w_drawA; rfl; (focus kernel_rfl); (focus (simp; rfl)); (focus (simp; rfl)))
      | (apply a_end; (focus (simp; rfl)))
      | (apply a_val; (focus (simp; rfl)); (focus (intro u; first | rfl | (apply g_in; rfl; rfl; (focus (simp [*]; done))))); (focus (intro H' u; simp [*]; rfl)); (focus (simp only [List.nil_append, List.cons_append]; rfl)))
      | (apply a_fn fine; (focus (simp; rfl)); (focus (intro u; first | rfl | (apply g_in; rfl; rfl; (focus (simp [*]; done))))); (focus (intro u; simp [*]; exact ⟨rfl, rfl⟩)); (focus (exact cS)); (focus (simp [*]; done)); (focus (simp only [List.nil_append, List.cons_append]; rfl)))
      | (apply a_fn fine; (focus (simp; rfl)); (focus (intro u; first | rfl | (apply g_in; rfl; rfl; (focus (simp [*]; done))))); (focus (intro u; simp [*]; exact ⟨rfl, rfl⟩)); (focus (exact cT)); (focus (simp [*]; done)); (focus (simp only [List.nil_append, List.cons_append]; rfl)))
      | (apply a_fn fine; (focus (simp; rfl)); (focus (intro u; first | rfl | (apply g_in; rfl; rfl; (focus (simp [*]; done))))); (focus (intro u; simp [*]; exact ⟨rfl, rfl⟩)); (focus (exact cB)); (focus (simp [*]; done)); (focus (simp only [List.nil_append, List.cons_append]; rfl)))
      | (apply a_fn fine; (focus (simp; rfl)); (focus (intro u; first | rfl | (apply g_in; rfl; rfl; (focus (simp [*]; done))))); (focus (intro u; simp [*]; exact ⟨rfl, rfl⟩)); (focus (exact awake_ok)); (focus (simp [*]; done)); (focus (simp only [List.nil_append, List.cons_append]; rfl))))
    done
end Go.Proofs.Ytejpgmemohchaaa.Vm
