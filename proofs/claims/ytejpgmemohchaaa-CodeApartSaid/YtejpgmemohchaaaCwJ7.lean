/- Walks: CodeApart, a part. -/
import Derived.Test.YtejpgmemohchaaaCwJ
set_option linter.unusedSimpArgs false
set_option linter.unusedVariables false
set_option maxRecDepth 100000
set_option maxHeartbeats 4000000
namespace Go.Proofs.Ytejpgmemohchaaa.Vm
open Go
attribute [local irreducible] wpD opsD thenD blockD planD planA
attribute [local simp] List.take_of_length_le List.drop_of_length_le num_ne

theorem Apart7 (s t : St) (ws : s.Wf) (wt : t.Wf) (hgs : greatSt s = false) (hgt : greatSt t = false) (E0 : s.doc = t.doc) (E1 : s.owned = t.owned) (E2 : s.jar = t.jar) (E3 : s.changed = t.changed) (E4 : s.knows = t.knows) (E5 : s.stolen = t.stolen) (E6 : s.ran = t.ran) (h : ¬ s.pending.length = t.pending.length) : Ans L 8 [stD s, stD t] (.bool true) := by
  refine fn_of_body L_ok (fn := Try.f8) rfl rfl rfl rfl (by kernel_rfl) ?_
  have gs := GreatState_ok s
  have gt := GreatState_ok t
  rw [hgs] at gs
  rw [hgt] at gt
  obtain ⟨is, ps⟩ := ws.in hgs
  obtain ⟨it, pt⟩ := wt.in hgt
  have cS := State_ok s is
  have cT := State_ok t it
  have cB := SameBytes_ok (stB s) (stB t) (State_len is)
  rw [st_same is it] at cB
  clear ws wt hgs hgt
  have c2 := SameInts_ok s.jar t.jar (by have := is.jarL; omega)
  have c3 := SameInts_ok s.changed t.changed (by have := is.changedL; omega)
  have c4 := truths_ok s.knows t.knows (by have := is.knowsL; omega)
  have c5 := truths_ok s.stolen t.stolen (by have := is.stolenL; omega)
  have c6 := truths_ok s.ran t.ran (by have := is.ranL; omega)
  obtain ⟨sd, so, sj, sc, sk, ss, sr, sp⟩ := s
  obtain ⟨td, to, tj, tc, tk, ts, tr, tp⟩ := t
  generalize hqs : stB ⟨sd, so, sj, sc, sk, ss, sr, sp⟩ = qs at *
  generalize hqt : stB ⟨td, to, tj, tc, tk, ts, tr, tp⟩ = qt at *
  clear hqs hqt
  simp only at c2 c3 c4 c5 c6 ps pt
  simp only at E0
  subst E0
  simp only at E1
  subst E1
  simp only at E2
  subst E2
  rw [show (sj == sj) = true by simp] at c2
  simp only at E3
  subst E3
  rw [show (sc == sc) = true by simp] at c3
  simp only at E4
  subst E4
  rw [show (sk == sk) = true by simp] at c4
  simp only at E5
  subst E5
  rw [show (ss == ss) = true by simp] at c5
  simp only at E6
  subst E6
  rw [show (sr == sr) = true by simp] at c6
  have h7 : ¬ sp.length = tp.length := h
  clear h
  have h7' : ¬ (sp.length : Int) = (tp.length : Int) := by omega
  have hst : decide ((⟨sd, so, sj, sc, sk, ss, sr, sp⟩ : St) = ⟨sd, so, sj, sc, sk, ss, sr, tp⟩) = false := by
    rw [decide_eq_false_iff_not]
    intro h
    exact h7 (congrArg (fun x => x.pending.length) h)
  rw [hst] at cB
  clear hst
  by_cases hz : sp = []
  · subst hz
    have q0 : 0 < tp.length := by
      have : ([] : List Rq).length = 0 := rfl
      omega
    have q1 : ¬ (0 : Int) = (tp.length : Int) := by omega
    have q2 : ¬ tp = [] := List.length_pos_iff.1 q0
    have q3 : ((0 : Int) == (tp.length : Int)) = false := by rw [beq_eq_false_iff_ne]; omega
    have q4 : ¬ [] = tp := fun e => q2 e.symm
    repeat' (first
      | apply w_seq
      | apply w_region
      | apply o_end
      | apply t_normal
      | (apply o_val; (focus (first | rfl | (apply g_in; rfl; rfl; (focus (simp [*]; done))))); (focus (simp [*]; rfl)))
      | (apply o_var; (focus (first | rfl | (apply g_in; rfl; rfl; (focus (simp [*]; done))))); (focus (simp [*]; exact ⟨rfl, rfl⟩)); (focus (simp; done)); (focus (first | exact Snap.flat (by simp) | exact Snap.ref_flat (by simp) rfl rfl rfl (by simp) (by simp) | exact Snap.slice_flat (by simp) rfl (by simp; rfl) (by simp) (by simp) | exact Snap.slice_flat (by simp) (by simp; exact ⟨rfl, rfl, rfl⟩) (by simp; rfl) (by simp) (by simp))))
      | (apply o_fn fine; (focus (first | rfl | (apply g_in; rfl; rfl; (focus (simp [*]; done))))); (focus (simp [*]; exact ⟨rfl, rfl⟩)); (focus (exact gs)); (focus (simp [*]; done)))
      | (apply o_fn fine; (focus (first | rfl | (apply g_in; rfl; rfl; (focus (simp [*]; done))))); (focus (simp [*]; exact ⟨rfl, rfl⟩)); (focus (exact gt)); (focus (simp [*]; done)))
      | (apply o_fn fine; (focus (first | rfl | (apply g_in; rfl; rfl; (focus (simp [*]; done))))); (focus (simp [*]; exact ⟨rfl, rfl⟩)); (focus (exact c2)); (focus (simp [*]; done)))
      | (apply o_fn fine; (focus (first | rfl | (apply g_in; rfl; rfl; (focus (simp [*]; done))))); (focus (simp [*]; exact ⟨rfl, rfl⟩)); (focus (exact c3)); (focus (simp [*]; done)))
      | (apply o_fn fine; (focus (first | rfl | (apply g_in; rfl; rfl; (focus (simp [*]; done))))); (focus (simp [*]; exact ⟨rfl, rfl⟩)); (focus (exact c4)); (focus (simp [*]; done)))
      | (apply o_fn fine; (focus (first | rfl | (apply g_in; rfl; rfl; (focus (simp [*]; done))))); (focus (simp [*]; exact ⟨rfl, rfl⟩)); (focus (exact c5)); (focus (simp [*]; done)))
      | (apply o_fn fine; (focus (first | rfl | (apply g_in; rfl; rfl; (focus (simp [*]; done))))); (focus (simp [*]; exact ⟨rfl, rfl⟩)); (focus (exact c6)); (focus (simp [*]; done)))
      | apply w_skip
      | apply w_block
      | (apply w_false; (focus (simp [*]; done))))
    refine loop_unfold ?_
    repeat' (first
      | apply w_seq
      | apply w_region
      | apply o_end
      | apply t_normal
      | (apply o_val; (focus (first | rfl | (apply g_in; rfl; rfl; (focus (simp [*]; done))))); (focus (simp [*]; rfl)))
      | (apply f_retf; (focus (simp [*]; rfl)); (focus (simp; done)); (focus (simp [*]; done)))
      | apply w_ret
      | apply w_exit
      | apply t_exit
      | apply b_here
      | (apply w_false; (focus (simp [*]; done)))
      | (apply o_no; (focus (first | (apply g_out; rfl; rfl; (focus (simp [*]; done))) | (apply g_un; rfl; rfl; (focus (simp [*]; done))))))
      | (apply w_drawA; rfl; (focus kernel_rfl); (focus (simp; rfl)); (focus (simp; rfl)))
      | (apply a_end; (focus (simp; rfl)))
      | (apply a_val; (focus (simp; rfl)); (focus (intro u; first | rfl | (apply g_in; rfl; rfl; (focus (simp [*]; done))))); (focus (intro H' u; simp [*]; rfl)); (focus (simp only [List.nil_append, List.cons_append]; rfl)))
      | (apply a_fn fine; (focus (simp; rfl)); (focus (intro u; first | rfl | (apply g_in; rfl; rfl; (focus (simp [*]; done))))); (focus (intro u; simp [*]; exact ⟨rfl, rfl⟩)); (focus (exact cS)); (focus (simp [*]; done)); (focus (simp only [List.nil_append, List.cons_append]; rfl)))
      | (apply a_fn fine; (focus (simp; rfl)); (focus (intro u; first | rfl | (apply g_in; rfl; rfl; (focus (simp [*]; done))))); (focus (intro u; simp [*]; exact ⟨rfl, rfl⟩)); (focus (exact cT)); (focus (simp [*]; done)); (focus (simp only [List.nil_append, List.cons_append]; rfl)))
      | (apply a_fn fine; (focus (simp; rfl)); (focus (intro u; first | rfl | (apply g_in; rfl; rfl; (focus (simp [*]; done))))); (focus (intro u; simp [*]; exact ⟨rfl, rfl⟩)); (focus (exact cB)); (focus (simp [*]; done)); (focus (simp only [List.nil_append, List.cons_append]; rfl)))
      | (apply a_fn fine; (focus (simp; rfl)); (focus (intro u; first | rfl | (apply g_in; rfl; rfl; (focus (simp [*]; done))))); (focus (intro u; simp [*]; exact ⟨rfl, rfl⟩)); (focus (exact awake_ok)); (focus (simp [*]; done)); (focus (simp only [List.nil_append, List.cons_append]; rfl))))
    done
  · have hz2 : 0 < sp.length := List.length_pos_iff.2 hz
    have hz3 : (0 : Int) < (sp.length : Int) := by omega
    repeat' (first
      | apply w_seq
      | apply w_region
      | apply o_end
      | apply t_normal
      | (apply o_val; (focus (first | rfl | (apply g_in; rfl; rfl; (focus (simp [*]; done))))); (focus (simp [*]; rfl)))
      | (apply o_var; (focus (first | rfl | (apply g_in; rfl; rfl; (focus (simp [*]; done))))); (focus (simp [*]; exact ⟨rfl, rfl⟩)); (focus (simp; done)); (focus (first | exact Snap.flat (by simp) | exact Snap.ref_flat (by simp) rfl rfl rfl (by simp) (by simp) | exact Snap.slice_flat (by simp) rfl (by simp; rfl) (by simp) (by simp) | exact Snap.slice_flat (by simp) (by simp; exact ⟨rfl, rfl, rfl⟩) (by simp; rfl) (by simp) (by simp))))
      | (apply o_fn fine; (focus (first | rfl | (apply g_in; rfl; rfl; (focus (simp [*]; done))))); (focus (simp [*]; exact ⟨rfl, rfl⟩)); (focus (exact gs)); (focus (simp [*]; done)))
      | (apply o_fn fine; (focus (first | rfl | (apply g_in; rfl; rfl; (focus (simp [*]; done))))); (focus (simp [*]; exact ⟨rfl, rfl⟩)); (focus (exact gt)); (focus (simp [*]; done)))
      | (apply o_fn fine; (focus (first | rfl | (apply g_in; rfl; rfl; (focus (simp [*]; done))))); (focus (simp [*]; exact ⟨rfl, rfl⟩)); (focus (exact c2)); (focus (simp [*]; done)))
      | (apply o_fn fine; (focus (first | rfl | (apply g_in; rfl; rfl; (focus (simp [*]; done))))); (focus (simp [*]; exact ⟨rfl, rfl⟩)); (focus (exact c3)); (focus (simp [*]; done)))
      | (apply o_fn fine; (focus (first | rfl | (apply g_in; rfl; rfl; (focus (simp [*]; done))))); (focus (simp [*]; exact ⟨rfl, rfl⟩)); (focus (exact c4)); (focus (simp [*]; done)))
      | (apply o_fn fine; (focus (first | rfl | (apply g_in; rfl; rfl; (focus (simp [*]; done))))); (focus (simp [*]; exact ⟨rfl, rfl⟩)); (focus (exact c5)); (focus (simp [*]; done)))
      | (apply o_fn fine; (focus (first | rfl | (apply g_in; rfl; rfl; (focus (simp [*]; done))))); (focus (simp [*]; exact ⟨rfl, rfl⟩)); (focus (exact c6)); (focus (simp [*]; done)))
      | apply w_skip
      | apply w_block
      | (apply w_false; (focus (simp [*]; done))))
    refine loop_unfold ?_
    repeat' (first
      | apply w_seq
      | apply w_region
      | apply o_end
      | apply t_normal
      | (apply o_val; (focus (first | rfl | (apply g_in; rfl; rfl; (focus (simp [*]; done))))); (focus (simp [*]; rfl)))
      | (apply f_retf; (focus (simp [*]; rfl)); (focus (simp; done)); (focus (simp [*]; done)))
      | apply w_ret
      | apply w_exit
      | apply t_exit
      | apply b_here
      | (apply w_false; (focus (simp [*]; done)))
      | (apply w_drawA; rfl; (focus kernel_rfl); (focus (simp; rfl)); (focus (simp; rfl)))
      | (apply a_end; (focus (simp; rfl)))
      | (apply a_val; (focus (simp; rfl)); (focus (intro u; first | rfl | (apply g_in; rfl; rfl; (focus (simp [*]; done))))); (focus (intro H' u; simp [*]; rfl)); (focus (simp only [List.nil_append, List.cons_append]; rfl)))
      | (apply a_fn fine; (focus (simp; rfl)); (focus (intro u; first | rfl | (apply g_in; rfl; rfl; (focus (simp [*]; done))))); (focus (intro u; simp [*]; exact ⟨rfl, rfl⟩)); (focus (exact cS)); (focus (simp [*]; done)); (focus (simp only [List.nil_append, List.cons_append]; rfl)))
      | (apply a_fn fine; (focus (simp; rfl)); (focus (intro u; first | rfl | (apply g_in; rfl; rfl; (focus (simp [*]; done))))); (focus (intro u; simp [*]; exact ⟨rfl, rfl⟩)); (focus (exact cT)); (focus (simp [*]; done)); (focus (simp only [List.nil_append, List.cons_append]; rfl)))
      | (apply a_fn fine; (focus (simp; rfl)); (focus (intro u; first | rfl | (apply g_in; rfl; rfl; (focus (simp [*]; done))))); (focus (intro u; simp [*]; exact ⟨rfl, rfl⟩)); (focus (exact cB)); (focus (simp [*]; done)); (focus (simp only [List.nil_append, List.cons_append]; rfl)))
      | (apply a_fn fine; (focus (simp; rfl)); (focus (intro u; first | rfl | (apply g_in; rfl; rfl; (focus (simp [*]; done))))); (focus (intro u; simp [*]; exact ⟨rfl, rfl⟩)); (focus (exact awake_ok)); (focus (simp [*]; done)); (focus (simp only [List.nil_append, List.cons_append]; rfl))))
    done

end Go.Proofs.Ytejpgmemohchaaa.Vm
