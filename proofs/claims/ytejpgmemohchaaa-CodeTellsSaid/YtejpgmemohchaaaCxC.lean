/- Walks: CodeTells. -/
import Derived.Test.YtejpgmemohchaaaCxB
import Derived.Test.YtejpgmemohchaaaCwL
import Derived.Test.YtejpgmemohchaaaCwJ
set_option linter.unusedSimpArgs false
set_option linter.unusedVariables false
set_option maxRecDepth 100000
set_option maxHeartbeats 4000000
namespace Go.Proofs.Ytejpgmemohchaaa.Vm
open Go
attribute [local irreducible] wpD opsD thenD blockD planD planA
attribute [local simp] List.take_of_length_le List.drop_of_length_le num_ne

theorem OverBytes_ok (xs : List (List D)) (g : Nat) (hl : xs.length ≤ 1000000) (ht : ∀ x, x ∈ xs → x.tail = []) : CallsV L 22 [.slice 0 0 xs.length g] [.cells g 1 false xs] (Turns (.tuple []) [.cells (g + 1) 1 false (List.replicate xs.length [.int .u8 238] ++ [[.int .u8 238]])]) := by
  refine turns_of_body L_ok (fn := Try.f22) rfl rfl rfl rfl (by kernel_rfl) ?_
  repeat' (first
    | apply w_seq
    | apply w_region
    | apply o_end
    | apply t_normal
    | (apply o_val; exact kc0; exact kc2)
    | apply w_block
    | fail)
  refine w_loop (fun n f H => ∃ (i : Nat), i ≤ xs.length ∧ n = xs.length - i ∧ H = [.cells g 1 false (List.replicate i [.int .u8 238] ++ xs.drop i)] ∧ f 0 = .slice 0 0 xs.length g ∧ f 2 = .int .i64 i) xs.length ⟨0, by simp, rfl, by simp, by simp, by simp⟩ ?_
  rintro n f H ⟨i, hi, rfl, rfl, g0, g2⟩
  by_cases hlt : i < xs.length
  · have hli : (i : Int) < xs.length := by omega
    have hlen : i + (xs.length - i) = xs.length := by omega
    have hx := ht _ (List.getElem_mem hlt)
    clear ht
    repeat' (first
      | apply w_seq
      | apply w_region
      | apply o_end
      | apply t_normal
      | (apply o_add; exact kc0; exact kc2; rfl; exact kc2; rfl; exact ke2)
      | (apply o_val; exact kc0; exact kc2)
      | (apply o_mem; exact kc0; rfl; exact kc1)
      | apply w_skip
      | apply w_block
      | apply b_normal
      | (apply w_true; exact kc3)
      | fail)
    refine ⟨xs.length - (i + 1), by omega, i + 1, by omega, rfl, ?_, by simp [*], by simp [*]⟩
    rw [List.drop_eq_getElem_cons hlt, List.set_cons_zero, List.replicate_succ', List.append_assoc]
    rfl
  · have hli : ¬ (i : Int) < xs.length := by omega
    obtain rfl : i = xs.length := by omega
    have hb1 : (xs.length + 1) * 8 ≤ 140737488355328 := by omega
    have hb2 : xs.length ≤ 140737488355327 := by omega
    clear ht
    rw [List.drop_length, List.append_nil]
    repeat' (first
      | apply w_seq
      | apply w_region
      | apply o_end
      | apply t_normal
      | (apply o_val; exact kc0; exact kc2)
      | (apply o_frz (op := Op.buildSlice _ _ _); exact kc0; rfl; exact kc1; (focus (simp; done)); exact kd7)
      | (apply o_mem; exact kc0; rfl; exact kc1)
      | apply w_exit
      | apply t_exit
      | apply b_here
      | (apply w_false; exact kc3)
      | fail)
    first
      | (apply t_normT; exact kc2; rfl; rfl)
      | (apply t_retT; exact kc2; rfl; rfl)
theorem rqB_short {r : Rq} (h : r.sent.length ≤ 10) : (rqB r).length ≤ 153 := by
  have h1 := num_len r.endpoint
  have h2 := num_len r.by_
  have h3 := num_len r.kind
  have h4 := num_len r.hops
  have h5 := lay_len_le (l := r.sent) fun n _ => num_len n
  simp only [rqB, List.length_append, tru_len]
  omega
theorem stB_short {s : St} (hg : greatSt s = false) : (stB s).length < 1501 := by
  simp only [greatSt, Bool.or_eq_false_iff, decide_eq_false_iff_not] at hg
  obtain ⟨⟨⟨⟨⟨⟨g1, g2⟩, g3⟩, g4⟩, g5⟩, g6⟩, g7⟩ := hg
  have h0 := num_len s.doc
  have h1 := lay_len_le (l := s.jar) fun n _ => num_len n
  have h2 := lay_len_le (l := s.changed) fun n _ => num_len n
  have h3 := lay_len_le (l := s.knows) fun b _ => Nat.le_of_eq (tru_len b)
  have h4 := lay_len_le (l := s.stolen) fun b _ => Nat.le_of_eq (tru_len b)
  have h5 := lay_len_le (l := s.ran) fun b _ => Nat.le_of_eq (tru_len b)
  have h6 := lay_len_le (f := rqB) (k := 153) (l := s.pending) fun r hr => rqB_short (by
    have := List.any_eq_false.1 g7 r hr
    simp only [decide_eq_true_eq] at this
    omega)
  simp only [stB, List.length_append, tru_len]
  omega
theorem CodeTells_ok (n : Int) (s : St) (hn : I64 n) (ws : s.Wf) : Ans L 7 [.int .i64 n, stD s] (.bool true) := by
  refine fn_of_body L_ok (fn := Try.f7) rfl rfl rfl rfl (by kernel_rfl) ?_
  have gs := GreatState_ok s
  cases hgs : greatSt s with
  | true =>
    rw [hgs] at gs
    repeat' (first
      | apply w_seq
      | apply w_region
      | apply o_end
      | apply t_normal
      | (apply o_val; exact kc0; exact kc2)
      | (apply o_var; exact kc0; exact kc1; (focus (simp; done)); exact kd7)
      | (apply o_fn fine; exact kc0; exact kc1; exact gs; exact kc3)
      | (apply o_fn fine; exact kc0; exact kc1; exact awake_ok; exact kc3)
      | (apply f_retf; exact kc2; (focus (simp; done)); exact kc3)
      | apply w_ret
      | apply t_ret
      | (apply w_true; exact kc3)
      | fail)
  | false =>
  rw [hgs] at gs
  obtain ⟨is, ps⟩ := ws.in hgs
  have hql := stB_short hgs
  have cT := State_turns s is
  have cR := refState_ok s is
  have cN := Number_ok n hn
  have cM := refNumberA n hn
  have lN := num_len n
  have cE := SameBytes_ok (num n) (num n) (by omega)
  rw [beq_self_eq_true] at cE
  have cD := Read_okB (stB s) hql
  rw [readSt_of is] at cD
  have cO := OverBytes_ok ((stB s).map encB) (stB s).length (by simp; omega) (by simp [encB])
  have hpn := is.pending
  have cF := SameBytes_ok (stB s) (stB s) (by omega)
  rw [beq_self_eq_true] at cF
  obtain ⟨sd, so, sj, sc, sk, ss, sr, sp⟩ := s
  generalize hq : stB ⟨sd, so, sj, sc, sk, ss, sr, sp⟩ = q at *
  rw [List.length_map] at cO
  simp only at ps hpn
  clear ws hgs is hq
  repeat' (first
    | apply w_seq
    | apply w_region
    | apply o_end
    | apply t_normal
    | (apply o_val; exact kc0; exact kc2)
    | (apply o_var; exact kc0; exact kc1; (focus (simp; done)); exact kd7)
    | (apply o_fn fine; exact kc0; exact kc1; exact gs; exact kc3)
    | (apply o_turns; exact kc0; exact kc1; exact cT)
    | (apply o_fn fine; exact kc0; exact kc1; exact cR; exact kc3)
    | (apply o_fn fine; exact kc0; exact kc1; exact cN; exact kc3)
    | (apply o_fn fine; exact kc0; exact kc1; exact cM; exact kc3)
    | (apply o_fn fine; exact kc0; exact kc1; exact cE; exact kc3)
    | (apply o_lend fine; exact kc0; exact kc1; (focus (exact cF )); (focus ( exact ⟨.slice_flat trivial rfl (by simp) (by simp) (numB_flat _), .flat (by simp), trivial⟩)); (focus (simp; done)))
    | apply w_skip
    | apply w_block
    | (apply w_false; exact kc3)
    | fail)
  clear gs cT cN cM cE
  refine w_loop (fun m f H => ∃ (i : Nat), i ≤ sp.length ∧ m = sp.length - i ∧ H = [.cells q.length 1 false (q.map encB)] ∧ f 3 = .box [.int .i64 sd, .bool so, intsL sj, intsL sc, boolsL sk, boolsL ss, boolsL sr, rqsL sp] ∧ f 5 = .slice 0 0 q.length q.length ∧ f 6 = .int .i64 i) sp.length
    ⟨0, by omega, rfl, rfl, by simp, by simp, by simp⟩ ?_
  rintro m f H ⟨i, hi, rfl, rfl, f3, f5, f6⟩
  by_cases hlt : i < sp.length
  · have hri := hpn _ (List.getElem_mem hlt)
    have c1 := Request_ok sp[i] hri
    have c2 := refRequestA sp[i] hri
    have c3 := SameBytes_ok (rqB sp[i]) (rqB sp[i]) (by have := rqB_len hri; omega)
    rw [beq_self_eq_true] at c3
    have hlt' : (i : Int) < sp.length := by omega
    clear hpn cD cO cF cR
    repeat' (first
      | apply w_seq
      | apply w_region
      | apply o_end
      | apply t_normal
      | (apply o_add; exact kc0; exact kc2; rfl; exact kc2; rfl; exact ke2)
      | (apply o_val; exact kc0; exact kc2)
      | apply w_skip
      | apply w_block
      | apply b_normal
      | (apply w_true; exact kc3)
      | (apply w_false; exact kc3)
      | (apply w_drawA; rfl; exact ke3; exact kc4; exact kc4)
      | (apply a_end; exact kc4)
      | (apply a_val; exact kc4; exact kc5; exact kd9; exact kc6)
      | (apply a_fn fine; exact kc4; exact kc5; exact kd8; exact c1; exact kc3; exact kc6)
      | (apply a_fn fine; exact kc4; exact kc5; exact kd8; exact c2; exact kc3; exact kc6)
      | (apply a_fn fine; exact kc4; exact kc5; exact kd8; exact c3; exact kc3; exact kc6)
      | fail)
    exact ⟨sp.length - (i + 1), by omega, i + 1, by omega, rfl, rfl, by simp [*], by simp [*], by simp [*]⟩
  · have hlt' : ¬ (i : Int) < sp.length := by omega
    clear hpn
    repeat' (first
      | apply w_seq
      | apply w_region
      | apply o_end
      | apply t_normal
      | (apply o_val; exact kc0; exact kc2)
      | (apply o_fuse; exact kc0; rfl; (focus (simp [*]; first | rfl | exact ⟨rfl, rfl⟩)); exact kc0; rfl; (focus (simp [*]; first | rfl | exact ⟨rfl, rfl⟩ | exact ⟨rfl, rfl, rfl⟩)); (focus (intro d hd; apply Under.flat; revert hd; revert d; simp; done)))
      | (apply o_turns; exact kc0; exact kc1; exact cD)
      | (apply o_turns; exact kc0; exact kc1; exact cO)
      | (apply o_fn fine; exact kc0; exact kc1; exact cR; exact kc3)
      | (apply o_lend fine; exact kc0; exact kc1; (focus (exact cF )); (focus ( exact ⟨.flat (by simp), .slice_flat trivial rfl (by simp) (by simp) (numB_flat _), trivial⟩)); (focus (simp; done)))
      | apply w_skip
      | apply w_ret
      | apply w_exit
      | apply t_exit
      | apply b_here
      | (apply w_false; exact kc3)
      | (apply w_drawA; rfl; exact ke3; exact kc4; exact kc4)
      | (apply a_end; exact kc4)
      | (apply a_val; exact kc4; exact kc5; exact kd9; exact kc6)
      | (apply a_fn fine; exact kc4; exact kc5; exact kd8; exact cR; exact kc3; exact kc6)
      | (apply a_fn fine; exact kc4; exact kc5; exact kd8; exact cF; exact kc3; exact kc6)
      | (apply a_fn fine; exact kc4; exact kc5; exact kd8; exact awake_ok; exact kc3; exact kc6)
      | fail)
    all_goals (apply f_retf; (focus (simp [*]; rfl)); (focus (simp; done)); (focus (simp; done)))
end Go.Proofs.Ytejpgmemohchaaa.Vm
