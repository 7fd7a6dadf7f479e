/- Walks: CodeApart, a part. -/
import Derived.Test.YtejpgmemohchaaaCwJ0
import Derived.Test.YtejpgmemohchaaaCwJ1
import Derived.Test.YtejpgmemohchaaaCwJ2
import Derived.Test.YtejpgmemohchaaaCwJ3
import Derived.Test.YtejpgmemohchaaaCwJ4
import Derived.Test.YtejpgmemohchaaaCwJ5
import Derived.Test.YtejpgmemohchaaaCwJ6
import Derived.Test.YtejpgmemohchaaaCwJ7
import Derived.Test.YtejpgmemohchaaaCwJ8
set_option linter.unusedSimpArgs false
set_option linter.unusedVariables false
set_option maxRecDepth 100000
set_option maxHeartbeats 4000000
namespace Go.Proofs.Ytejpgmemohchaaa.Vm
open Go
attribute [local irreducible] wpD opsD thenD blockD planD planA
attribute [local simp] List.take_of_length_le List.drop_of_length_le num_ne

theorem CodeApart_ok (s t : St) (ws : s.Wf) (wt : t.Wf) : Ans L 8 [stD s, stD t] (.bool true) := by
  cases hgs : greatSt s with
  | true =>
    refine fn_of_body L_ok (fn := Try.f8) rfl rfl rfl rfl (by kernel_rfl) ?_
    have gs := GreatState_ok s
    rw [hgs] at gs
    repeat' (first
      | apply w_seq
      | apply w_region
      | apply o_end
      | apply t_normal
      | (apply o_val; (focus (first | rfl | (apply g_in; rfl; rfl; (focus (simp [*]; done))))); (focus (simp [*]; rfl)))
      | (apply o_var; (focus (first | rfl | (apply g_in; rfl; rfl; (focus (simp [*]; done))))); (focus (simp [*]; exact ⟨rfl, rfl⟩)); (focus (simp; done)); (focus (first | exact Snap.flat (by simp) | exact Snap.ref_flat (by simp) rfl rfl rfl (by simp) (by simp) | exact Snap.slice_flat (by simp) rfl (by simp; rfl) (by simp) (by simp) | exact Snap.slice_flat (by simp) (by simp; exact ⟨rfl, rfl, rfl⟩) (by simp; rfl) (by simp) (by simp))))
      | (apply o_fn fine; (focus (first | rfl | (apply g_in; rfl; rfl; (focus (simp [*]; done))))); (focus (simp [*]; exact ⟨rfl, rfl⟩)); (focus (exact gs)); (focus (simp [*]; done)))
      | (apply o_fn fine; (focus (first | rfl | (apply g_in; rfl; rfl; (focus (simp [*]; done))))); (focus (simp [*]; exact ⟨rfl, rfl⟩)); (focus (exact awake_ok)); (focus (simp [*]; done)))
      | (apply f_retf; (focus (simp [*]; rfl)); (focus (simp; done)); (focus (simp [*]; done)))
      | apply w_ret
      | apply t_ret
      | (apply w_true; (focus (simp [*]; done)))
      | (apply o_no; (focus (first | (apply g_out; rfl; rfl; (focus (simp [*]; done))) | (apply g_un; rfl; rfl; (focus (simp [*]; done)))))))
  | false =>
  cases hgt : greatSt t with
  | true =>
    refine fn_of_body L_ok (fn := Try.f8) rfl rfl rfl rfl (by kernel_rfl) ?_
    have gs := GreatState_ok s
    have gt := GreatState_ok t
    rw [hgs] at gs
    rw [hgt] at gt
    repeat' (first
      | apply w_seq
      | apply w_region
      | apply o_end
      | apply t_normal
      | (apply o_val; (focus (first | rfl | (apply g_in; rfl; rfl; (focus (simp [*]; done))))); (focus (simp [*]; rfl)))
      | (apply o_var; (focus (first | rfl | (apply g_in; rfl; rfl; (focus (simp [*]; done))))); (focus (simp [*]; exact ⟨rfl, rfl⟩)); (focus (simp; done)); (focus (first | exact Snap.flat (by simp) | exact Snap.ref_flat (by simp) rfl rfl rfl (by simp) (by simp) | exact Snap.slice_flat (by simp) rfl (by simp; rfl) (by simp) (by simp) | exact Snap.slice_flat (by simp) (by simp; exact ⟨rfl, rfl, rfl⟩) (by simp; rfl) (by simp) (by simp))))
      | (apply o_fn fine; (focus (first | rfl | (apply g_in; rfl; rfl; (focus (simp [*]; done))))); (focus (simp [*]; exact ⟨rfl, rfl⟩)); (focus (exact gs)); (focus (simp [*]; done)))
      | (apply o_fn fine; (focus (first | rfl | (apply g_in; rfl; rfl; (focus (simp [*]; done))))); (focus (simp [*]; exact ⟨rfl, rfl⟩)); (focus (exact gt)); (focus (simp [*]; done)))
      | (apply o_fn fine; (focus (first | rfl | (apply g_in; rfl; rfl; (focus (simp [*]; done))))); (focus (simp [*]; exact ⟨rfl, rfl⟩)); (focus (exact awake_ok)); (focus (simp [*]; done)))
      | (apply f_retf; (focus (simp [*]; rfl)); (focus (simp; done)); (focus (simp [*]; done)))
      | apply w_ret
      | apply t_ret
      | (apply w_true; (focus (simp [*]; done))))
  | false =>
  by_cases E0 : s.doc = t.doc
  case neg => exact Apart0 s t ws wt hgs hgt E0
  by_cases E1 : s.owned = t.owned
  case neg => exact Apart1 s t ws wt hgs hgt E0 E1
  by_cases E2 : s.jar = t.jar
  case neg => exact Apart2 s t ws wt hgs hgt E0 E1 E2
  by_cases E3 : s.changed = t.changed
  case neg => exact Apart3 s t ws wt hgs hgt E0 E1 E2 E3
  by_cases E4 : s.knows = t.knows
  case neg => exact Apart4 s t ws wt hgs hgt E0 E1 E2 E3 E4
  by_cases E5 : s.stolen = t.stolen
  case neg => exact Apart5 s t ws wt hgs hgt E0 E1 E2 E3 E4 E5
  by_cases E6 : s.ran = t.ran
  case neg => exact Apart6 s t ws wt hgs hgt E0 E1 E2 E3 E4 E5 E6
  by_cases E7 : s.pending.length = t.pending.length
  · exact Apart8 s t ws wt hgs hgt E0 E1 E2 E3 E4 E5 E6 E7
  · exact Apart7 s t ws wt hgs hgt E0 E1 E2 E3 E4 E5 E6 E7
end Go.Proofs.Ytejpgmemohchaaa.Vm
