/- Walks: CodeNumbers. -/
import Derived.Test.YtejpgmemohchaaaCwG
import Derived.Test.YtejpgmemohchaaaCdD
set_option linter.unusedSimpArgs false
set_option maxRecDepth 100000
set_option maxHeartbeats 4000000
namespace Go.Proofs.Ytejpgmemohchaaa.Vm
open Go
attribute [local irreducible] wpD opsD thenD blockD planD planA
attribute [local simp] List.take_of_length_le List.drop_of_length_le num_ne

theorem stB_len {s : St} (h : s.In) : (stB s).length < 100000000000 := by
  have := St.lens h
  have h1 := num_len s.doc
  have h2 := lay_len_le (f := rqB) (l := s.pending) (k := 20000) fun r hr => rqB_len (h.pending r hr)
  have h3 := h.pendingL
  simp only [stB, List.length_append, tru_len]
  omega
theorem flatN_zero {α : Type} (f : α → List UInt8) (l : List α) : flatN f l 0 = l.flatMap f := rfl
theorem flat_small {ns : List Int} {k : Nat} (h : ns.length ≤ k) : (ns.flatMap num).length ≤ 10 * k := by
  have := flat_len_le (f := num) (k := 10) (l := ns) fun n _ => num_len n
  omega
@[local simp high] theorem flat_take (l : List UInt8) (n : Nat) : Flat (.isl 1 ((l.map encB).take n)) := .isl _ _ fun x hx d hd => numB_flat l x (List.mem_of_mem_take hx) d hd
theorem CodeNumbers_ok (a b : Int) (ns : List Int) (ha : I64 a) (hb : I64 b) (hn : ∀ n, n ∈ ns → I64 n) : Ans L 4 [.int .i64 a, .int .i64 b, intsL ns] (.bool true) := by
  refine fn_of_body L_ok (fn := Try.f4) rfl rfl rfl rfl (by kernel_rfl) ?_
  by_cases g1 : 20 < ns.length
  · have g1' : (20 : Int) < (ns.length : Int) := by omega
    repeat' (first
      | apply w_seq
      | apply w_region
      | apply o_end
      | apply t_normal
      | (apply o_val; exact kc0; exact kc2)
      | (apply o_fn fine; exact kc0; exact kc1; exact awake_ok; exact kc3)
      | (apply f_retf; exact kc2; (focus (simp; done)); exact kc3)
      | apply w_ret
      | apply t_ret
      | (apply w_true; exact kc3)
      | fail)
  have g1' : ¬ (20 : Int) < (ns.length : Int) := by omega
  have la := num_len a
  have lb := num_len b
  have pa := num_pos a
  have la' : ¬ (10 : Int) < ((num a).length : Int) := by omega
  have nA := Number_ok a ha
  have nB := Number_ok b hb
  have cB := SameBytes_ok (num a) (num b) (by omega)
  rw [num_same ha hb] at cB
  have hin := jar_in (ns := ns) hn (by omega)
  have cS := fun H => State_any (H := H) (args := [.agg [.int .i64 0, .bool false, intsL ns, .nilsl, .nilsl, .nilsl, .nilsl, .nilsl]]) hin ⟨SnapL.agg ⟨.flat (by simp [jarSt]), .flat (by simp [jarSt]), .flat (by simp), .nil, .nil, .nil, .nil, .nil, trivial⟩, trivial⟩
  have hlen := jar_len ns (by omega)
  have hsm := flat_small (ns := ns) (k := 20) (by omega)
  have cR := Read_ok (stB (jarSt ns)) (by omega)
  rw [readSt_of hin] at cR
  have cI := SameInts_ok ns ns (by omega)
  have hq : (ns == ns) = true := by simp
  rw [hq] at cI
  clear hq hin
  generalize stB (jarSt ns) = q at *
  by_cases hab : a = b
  · subst hab
    have e1 : (a == a) = true := by simp
    rw [e1] at cB
    repeat' (first
      | apply w_seq
      | apply w_region
      | apply o_end
      | apply t_normal
      | (apply o_val; exact kc0; exact kc2)
      | (apply o_turns; exact kc0; exact kc1; (focus (exact cS _)))
      | (apply o_fn fine; exact kc0; exact kc1; exact nA; exact kc3)
      | (apply o_fn fine; exact kc0; exact kc1; exact cB; exact kc3)
      | apply w_skip
      | apply w_block
      | (apply w_false; exact kc3)
      | (apply w_drawA; rfl; exact ke3; exact kc4; exact kc4)
      | (apply a_end; exact kc4)
      | (apply a_val; exact kc4; exact kc5; exact kd9; exact kc6)
      | (apply a_no; exact kc4; exact ke8; exact kc6)
      | fail)
    refine w_loop (fun n f H => ∃ (i : Nat) (m : Nat), i ≤ ns.length ∧ n = ns.length - i ∧ H = [] ∧ m + (flatN num ns i).length = q.length ∧ f 2 = intsL ns ∧ f 10 = bytesL q ∧ f 11 = .int .i64 (m : Nat) ∧ f 12 = .int .i64 i) ns.length ⟨0, 8, by omega, rfl, rfl, by rw [flatN_zero]; omega, by simp⟩ ?_
    rintro n f H ⟨i, m, hi, rfl, rfl, hm, hf2, hf10, hf11, hf12⟩
    by_cases hlt : i < ns.length
    · have hc := Number_ok ns[i] (hn _ (List.getElem_mem hlt))
      have hk := num_len ns[i]
      rw [flatN_cons _ _ _ hlt, List.length_append] at hm
      have h7 : IntKind.i64.wrap ((m : Int) + ((num ns[i]).length : Int)) = (m : Int) + ((num ns[i]).length : Int) := wrap_i64 (by omega) (by omega)
      clear cS cR cI nA nB cB
      repeat' (first
        | apply w_seq
        | apply w_region
        | apply o_end
        | apply t_normal
        | (apply o_add; exact kc0; exact kc2; rfl; exact kc2; rfl; exact ke2)
        | (apply o_val; exact kc0; exact kc2)
        | (apply o_fn fine; exact kc0; exact kc1; exact hc; exact kc3)
        | apply w_skip
        | apply w_block
        | apply b_normal
        | (apply w_true; exact kc3)
        | fail)
      exact ⟨ns.length - (i + 1), by omega, i + 1, m + (num ns[i]).length, by omega, rfl, rfl, by omega, by simp [*], by simp [*], by simp [*], by simp [*]⟩
    · rw [flatN_end _ _ _ (by omega)] at hm
      simp only [List.length_nil, Nat.add_zero] at hm
      subst hm
      repeat' (first
        | apply w_seq
        | apply w_region
        | apply o_end
        | apply t_normal
        | (apply o_val; exact kc0; exact kc2)
        | (apply o_fuse; exact kc0; rfl; (focus (simp [*]; first | rfl | exact ⟨rfl, rfl⟩)); exact kc0; rfl; (focus (simp [*]; first | rfl | exact ⟨rfl, rfl⟩ | exact ⟨rfl, rfl, rfl⟩)); (focus (intro d hd; apply Under.flat; revert hd; revert d; simp; done)))
        | (apply o_fn fine; exact kc0; exact kc1; exact cR; exact kc3)
        | (apply o_fn fine; exact kc0; exact kc1; exact cI; exact kc3)
        | (apply o_fn fine; exact kc0; exact kc1; exact awake_ok; exact kc3)
        | (apply f_retf; exact kc2; (focus (simp; done)); (focus (simp [jarSt, *]; done)))
        | apply w_ret
        | apply w_exit
        | apply t_exit
        | apply b_here
        | (apply w_false; exact kc3)
        | fail)
      done
  · have e1 : (a == b) = false := by simpa using hab
    have e2 : (a != b) = true := by simpa using hab
    rw [e1] at cB
    have cM := SameBytes_ok ((num a).take (min (num a).length (num b).length)) ((num b).take (min (num a).length (num b).length)) (by simp; omega)
    rw [num_apart ha hb hab] at cM
    by_cases hl : (num b).length < (num a).length
    · have hl2 : (num b).length ≤ (num a).length := by omega
      rw [Nat.min_eq_right hl2] at cM
      have cM' : Ans L 12 [.isl 1 (((num a).map encB).take (num b).length), bytesL (num b)] (.bool false) := by
        rw [List.take_length] at cM
        rw [← List.map_take]
        exact cM
      clear cM
      repeat' (first
        | apply w_seq
        | apply w_region
        | apply o_end
        | apply t_normal
        | (apply o_val; exact kc0; exact kc2)
        | (apply o_turns; exact kc0; exact kc1; (focus (exact cS _)))
        | (apply o_fn fine; exact kc0; exact kc1; exact nA; exact kc3)
        | (apply o_fn fine; exact kc0; exact kc1; exact nB; exact kc3)
        | (apply o_fn fine; exact kc0; exact kc1; exact cB; exact kc3)
        | apply w_skip
        | apply w_block
        | (apply w_false; exact kc3)
        | (apply w_drawA; rfl; exact ke3; exact kc4; exact kc4)
        | (apply a_end; exact kc4)
        | (apply a_val; exact kc4; exact kc5; exact kd9; exact kc6)
        | (apply a_fn fine; exact kc4; exact kc5; exact kd8; exact cM'; exact kc3; exact kc6)
        | fail)
      refine w_loop (fun n f H => ∃ (i : Nat) (m : Nat), i ≤ ns.length ∧ n = ns.length - i ∧ H = [] ∧ m + (flatN num ns i).length = q.length ∧ f 2 = intsL ns ∧ f 10 = bytesL q ∧ f 11 = .int .i64 (m : Nat) ∧ f 12 = .int .i64 i) ns.length ⟨0, 8, by omega, rfl, rfl, by rw [flatN_zero]; omega, by simp⟩ ?_
      rintro n f H ⟨i, m, hi, rfl, rfl, hm, hf2, hf10, hf11, hf12⟩
      by_cases hlt : i < ns.length
      · have hc := Number_ok ns[i] (hn _ (List.getElem_mem hlt))
        have hk := num_len ns[i]
        rw [flatN_cons _ _ _ hlt, List.length_append] at hm
        have h7 : IntKind.i64.wrap ((m : Int) + ((num ns[i]).length : Int)) = (m : Int) + ((num ns[i]).length : Int) := wrap_i64 (by omega) (by omega)
        clear cS cR cI nA nB cB
        repeat' (first
          | apply w_seq
          | apply w_region
          | apply o_end
          | apply t_normal
          | (apply o_add; exact kc0; exact kc2; rfl; exact kc2; rfl; exact ke2)
          | (apply o_val; exact kc0; exact kc2)
          | (apply o_fn fine; exact kc0; exact kc1; exact hc; exact kc3)
          | apply w_skip
          | apply w_block
          | apply b_normal
          | (apply w_true; exact kc3)
          | fail)
        exact ⟨ns.length - (i + 1), by omega, i + 1, m + (num ns[i]).length, by omega, rfl, rfl, by omega, by simp [*], by simp [*], by simp [*], by simp [*]⟩
      · rw [flatN_end _ _ _ (by omega)] at hm
        simp only [List.length_nil, Nat.add_zero] at hm
        subst hm
        repeat' (first
          | apply w_seq
          | apply w_region
          | apply o_end
          | apply t_normal
          | (apply o_val; exact kc0; exact kc2)
          | (apply o_fuse; exact kc0; rfl; (focus (simp [*]; first | rfl | exact ⟨rfl, rfl⟩)); exact kc0; rfl; (focus (simp [*]; first | rfl | exact ⟨rfl, rfl⟩ | exact ⟨rfl, rfl, rfl⟩)); (focus (intro d hd; apply Under.flat; revert hd; revert d; simp; done)))
          | (apply o_fn fine; exact kc0; exact kc1; exact cR; exact kc3)
          | (apply o_fn fine; exact kc0; exact kc1; exact cI; exact kc3)
          | (apply o_fn fine; exact kc0; exact kc1; exact awake_ok; exact kc3)
          | (apply f_retf; exact kc2; (focus (simp; done)); (focus (simp [jarSt, *]; done)))
          | apply w_ret
          | apply w_exit
          | apply t_exit
          | apply b_here
          | (apply w_false; exact kc3)
          | fail)
        done
    · have hl2 : (num a).length ≤ (num b).length := by omega
      rw [Nat.min_eq_left hl2] at cM
      have cM' : Ans L 12 [bytesL (num a), .isl 1 (((num b).map encB).take (num a).length)] (.bool false) := by
        rw [List.take_length] at cM
        rw [← List.map_take]
        exact cM
      clear cM
      repeat' (first
        | apply w_seq
        | apply w_region
        | apply o_end
        | apply t_normal
        | (apply o_val; exact kc0; exact kc2)
        | (apply o_turns; exact kc0; exact kc1; (focus (exact cS _)))
        | (apply o_fn fine; exact kc0; exact kc1; exact nA; exact kc3)
        | (apply o_fn fine; exact kc0; exact kc1; exact nB; exact kc3)
        | (apply o_fn fine; exact kc0; exact kc1; exact cB; exact kc3)
        | apply w_skip
        | apply w_block
        | (apply w_false; exact kc3)
        | (apply w_drawA; rfl; exact ke3; exact kc4; exact kc4)
        | (apply a_end; exact kc4)
        | (apply a_val; exact kc4; exact kc5; exact kd9; exact kc6)
        | (apply a_fn fine; exact kc4; exact kc5; exact kd8; exact cM'; exact kc3; exact kc6)
        | fail)
      refine w_loop (fun n f H => ∃ (i : Nat) (m : Nat), i ≤ ns.length ∧ n = ns.length - i ∧ H = [] ∧ m + (flatN num ns i).length = q.length ∧ f 2 = intsL ns ∧ f 10 = bytesL q ∧ f 11 = .int .i64 (m : Nat) ∧ f 12 = .int .i64 i) ns.length ⟨0, 8, by omega, rfl, rfl, by rw [flatN_zero]; omega, by simp⟩ ?_
      rintro n f H ⟨i, m, hi, rfl, rfl, hm, hf2, hf10, hf11, hf12⟩
      by_cases hlt : i < ns.length
      · have hc := Number_ok ns[i] (hn _ (List.getElem_mem hlt))
        have hk := num_len ns[i]
        rw [flatN_cons _ _ _ hlt, List.length_append] at hm
        have h7 : IntKind.i64.wrap ((m : Int) + ((num ns[i]).length : Int)) = (m : Int) + ((num ns[i]).length : Int) := wrap_i64 (by omega) (by omega)
        clear cS cR cI nA nB cB
        repeat' (first
          | apply w_seq
          | apply w_region
          | apply o_end
          | apply t_normal
          | (apply o_add; exact kc0; exact kc2; rfl; exact kc2; rfl; exact ke2)
          | (apply o_val; exact kc0; exact kc2)
          | (apply o_fn fine; exact kc0; exact kc1; exact hc; exact kc3)
          | apply w_skip
          | apply w_block
          | apply b_normal
          | (apply w_true; exact kc3)
          | fail)
        exact ⟨ns.length - (i + 1), by omega, i + 1, m + (num ns[i]).length, by omega, rfl, rfl, by omega, by simp [*], by simp [*], by simp [*], by simp [*]⟩
      · rw [flatN_end _ _ _ (by omega)] at hm
        simp only [List.length_nil, Nat.add_zero] at hm
        subst hm
        repeat' (first
          | apply w_seq
          | apply w_region
          | apply o_end
          | apply t_normal
          | (apply o_val; exact kc0; exact kc2)
          | (apply o_fuse; exact kc0; rfl; (focus (simp [*]; first | rfl | exact ⟨rfl, rfl⟩)); exact kc0; rfl; (focus (simp [*]; first | rfl | exact ⟨rfl, rfl⟩ | exact ⟨rfl, rfl, rfl⟩)); (focus (intro d hd; apply Under.flat; revert hd; revert d; simp; done)))
          | (apply o_fn fine; exact kc0; exact kc1; exact cR; exact kc3)
          | (apply o_fn fine; exact kc0; exact kc1; exact cI; exact kc3)
          | (apply o_fn fine; exact kc0; exact kc1; exact awake_ok; exact kc3)
          | (apply f_retf; exact kc2; (focus (simp; done)); (focus (simp [jarSt, *]; done)))
          | apply w_ret
          | apply w_exit
          | apply t_exit
          | apply b_here
          | (apply w_false; exact kc3)
          | fail)
        done
end Go.Proofs.Ytejpgmemohchaaa.Vm
