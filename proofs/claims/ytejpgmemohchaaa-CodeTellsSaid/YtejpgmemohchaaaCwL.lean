/- Walks: CodeJars. -/
import Derived.Test.YtejpgmemohchaaaVmZb
import Derived.Test.YtejpgmemohchaaaCwI
set_option linter.unusedSimpArgs false
set_option linter.unusedVariables false
set_option maxRecDepth 100000
set_option maxHeartbeats 4000000
namespace Go.Proofs.Ytejpgmemohchaaa.Vm
open Go
attribute [local irreducible] wpD opsD thenD blockD planD planA
attribute [local simp] List.take_of_length_le List.drop_of_length_le

theorem State_turns (s : St) (hs : s.In) : CallsV L 16 [stD s] [] (Turns (.slice 0 0 (stB s).length (stB s).length) (rowH 1 ((stB s).map encB) (stB s).length)) := by
  refine turns_of_body L_ok (fn := Try.f16) rfl rfl rfl rfl (by kernel_rfl) ?_
  have l0 := num_len s.doc
  obtain ⟨l1, l2, l3, l4, l5⟩ := St.lens hs
  have b0 := hs.doc
  have b1 := hs.jar
  have b2 := hs.changed
  have b3 := hs.pending
  have n1 := hs.jarL
  have n2 := hs.changedL
  have n3 := hs.knowsL
  have n4 := hs.stolenL
  have n5 := hs.ranL
  have n6 := hs.pendingL
  clear hs
  repeat' (first
    | apply w_seq
    | apply w_region
    | apply o_end
    | apply t_normal
    | (apply o_val; exact kc0; exact kc2)
    | (apply o_var; exact kc0; exact kc1; (focus (simp; done)); exact kd7)
    | (apply o_turns; exact kc0; exact kc1; (focus (exact listRq_at (num s.doc ++ tru s.owned ++ lay num s.jar ++ lay num s.changed ++ lay tru s.knows ++ lay tru s.stolen ++ lay tru s.ran) (by simp) s.pending b3 n6 (by simp [tru_len]; omega))))
    | apply w_ret
    | (apply w_drawA; rfl; exact ke3; exact kc4; exact kc4)
    | (apply a_end; exact kc4)
    | (apply a_val; exact kc4; exact kc5; exact kd9; exact kc6)
    | (apply a_turns; exact kc4; exact kc5; exact kd8; (focus (exact number_nil s.doc b0)); exact kc7; exact kc6; exact kc4)
    | (apply a_turns; exact kc4; exact kc5; exact kd8; (focus (exact truth_at (num s.doc) (by simp) s.owned (by omega))); exact kc7; exact kc6; exact kc4)
    | (apply a_turns; exact kc4; exact kc5; exact kd8; (focus (exact listInt_at (num s.doc ++ tru s.owned) (by simp) s.jar b1 n1 (by simp [tru_len]; omega))); exact kc7; exact kc6; exact kc4)
    | (apply a_turns; exact kc4; exact kc5; exact kd8; (focus (exact listInt_at (num s.doc ++ tru s.owned ++ lay num s.jar) (by simp) s.changed b2 n2 (by simp [tru_len]; omega))); exact kc7; exact kc6; exact kc4)
    | (apply a_turns; exact kc4; exact kc5; exact kd8; (focus (exact listBool_at (num s.doc ++ tru s.owned ++ lay num s.jar ++ lay num s.changed) (by simp) s.knows n3 (by simp [tru_len]; omega))); exact kc7; exact kc6; exact kc4)
    | (apply a_turns; exact kc4; exact kc5; exact kd8; (focus (exact listBool_at (num s.doc ++ tru s.owned ++ lay num s.jar ++ lay num s.changed ++ lay tru s.knows) (by simp) s.stolen n4 (by simp [tru_len]; omega))); exact kc7; exact kc6; exact kc4)
    | (apply a_turns; exact kc4; exact kc5; exact kd8; (focus (exact listBool_at (num s.doc ++ tru s.owned ++ lay num s.jar ++ lay num s.changed ++ lay tru s.knows ++ lay tru s.stolen) (by simp) s.ran n5 (by simp [tru_len]; omega))); exact kc7; exact kc6; exact kc4)
    | fail)
  apply t_retT
  · simp [*]; rfl
  · simp [stB, rowS]; omega
  · simp [stB]; omega
theorem State_lent {H : Heap} {args : List D} {s : St} (hs : s.In) (hn : SnapL (fun _ => True) H args [stD s]) : CallsV L 16 args H (Turns (.slice H.length 0 (stB s).length (stB s).length) (H ++ rowH 1 ((stB s).map encB) (stB s).length)) :=
  CallsV.lendRow fine (State_turns s hs) hn fun x hx d hd => by
    obtain ⟨b, _, rfl⟩ := List.mem_map.1 hx
    rw [List.mem_singleton.1 hd]
    exact .int _ _
attribute [local simp] num_ne
theorem turns_read (q : List UInt8) (hq : q.length < 1501) {w j : Blk} : CallsV L 10 [.slice 2 0 q.length q.length] [w, j, .cells q.length 1 false (q.map encB)] (Turns (.tuple [stD (readSt q).1, .bool (readSt q).2]) [w, j, .cells q.length 1 true (q.map encB)]) :=
  turns_give (· = 2) (Read_ok q hq) ⟨.slice_flat rfl rfl (by simp) (by simp) (numB_flat _), trivial⟩ (by
    unfold freeze
    apply List.ext_getElem?
    intro i
    rw [List.getElem?_mapIdx]
    match i with
    | 0 => simp
    | 1 => simp
    | 2 => simp [Blk.frozen]
    | i + 3 => simp)
theorem jar_snap {H : Heap} {ns : List Int} {r : Nat} {ro : Bool} (hx : H[r]? = some (.cells ns.length 1 ro (ns.map encI))) :
    SnapL (fun _ => True) H [.agg [.int .i64 0, .bool false, .slice r 0 ns.length ns.length, .nilsl, .nilsl, .nilsl, .nilsl, .nilsl]] [stD (jarSt ns)] :=
  ⟨SnapL.agg ⟨.flat (by simp [jarSt]), .flat (by simp [jarSt]), .slice_flat trivial hx (by simp [jarSt]) (by simp [jarSt]) (flt_int _), .nil, .nil, .nil, .nil, .nil, trivial⟩, trivial⟩
theorem want_snap {H : Heap} {ws : List UInt8} (hx : H[0]? = some (.cells (ws.length + 1 + 1 + 1 + 1 + 1) 1 false (ws.map encB ++ [[.int .u8 0], [.int .u8 0], [.int .u8 0], [.int .u8 0], [.int .u8 0]]))) :
    Snap (fun _ => True) H (.slice 0 0 (ws.length + 1 + 1 + 1 + 1 + 1) (ws.length + 1 + 1 + 1 + 1 + 1)) (bytesL (ws ++ [0, 0, 0, 0, 0])) :=
  .slice_flat trivial hx (by
    rw [List.drop_zero, List.take_of_length_le (by simp)]
    simp [encB]) (by simp) (numB_flat _)
theorem CodeJars_ok (ns : List Int) (more : Int) (hn : ∀ n, n ∈ ns → I64 n) (hm : I64 more) : Ans L 6 [intsL ns, .int .i64 more] (.bool true) := by
  refine fn_of_body L_ok (fn := Try.f6) rfl rfl rfl rfl (by kernel_rfl) ?_
  by_cases g1 : 30 < ns.length
  · have g1' : (30 : Int) < (ns.length : Int) := by omega
    repeat' (first
      | apply w_seq
      | apply w_region
      | apply o_end
      | apply t_normal
      | (apply o_val; exact kc0; exact kc2)
      | (apply o_fn fine; exact kc0; exact kc1; exact awake_ok; exact kc3)
      | (apply f_retf; exact kc2; (focus (simp; done)); exact kc3)
      | apply w_ret
      | apply t_ret
      | (apply w_true; exact kc3)
      | fail)
  have g1' : ¬ (30 : Int) < (ns.length : Int) := by omega
  have n0 : Ans L 15 [.int .i64 0] (bytesL [0]) := Number_ok 0 (by decide)
  have nl := Number_ok ns.length (by unfold I64; omega)
  have hk := num_len (ns.length : Int)
  have hnl := num_small (n := (ns.length : Int)) (by omega) (by omega)
  rw [hnl] at nl
  repeat' (first
    | apply w_seq
    | apply w_region
    | apply o_end
    | apply t_normal
    | (apply o_val; exact kc0; exact kc2)
    | (apply o_mem (d := D.slice 0 0 0 0); exact kc0; rfl; exact kc2)
    | (apply o_lit; exact kc0; exact kc1; (focus (simp; done)); exact kd7)
    | (apply o_fn fine; exact kc0; exact kc1; exact n0; exact kc3)
    | (apply o_fn fine; exact kc0; exact kc1; exact nl; exact kc3)
    | (apply o_mem; exact kc0; rfl; exact kc1)
    | apply w_skip
    | apply w_block
    | (apply w_false; exact kc3)
    | fail)
  obtain ⟨q, hqe⟩ : ∃ q, stB (jarSt ns) = q := ⟨_, rfl⟩
  have hin := jar_in (ns := ns) hn (by omega)
  have hsm := flat_small (ns := ns) (k := 30) (by omega)
  have hqb : q = [0, 0, 2 * UInt8.ofNat ns.length] ++ ns.flatMap num ++ [0, 0, 0, 0, 0] := by
    rw [← hqe, jar_bytes ns (by omega)]
    simp
  refine w_loop (fun n f H => ∃ (i : Nat) (ws : List UInt8), i ≤ ns.length ∧ n = ns.length - i ∧ H = rowH 1 (ws.map encB) ws.length ∧ f 5 = .slice 0 0 ws.length ws.length ∧ ws ++ flatN num ns i = [0, 0, 2 * UInt8.ofNat ns.length] ++ ns.flatMap num ∧ f 0 = intsL ns ∧ f 1 = .int .i64 more ∧ f 6 = .int .i64 i) ns.length
    ⟨0, [0, 0, 2 * UInt8.ofNat ns.length], by omega, rfl, by simp [encB], by simp, by rw [flatN_zero], by simp⟩ ?_
  rintro n f H ⟨i, ws, hi, rfl, rfl, hf5, hws, hf0, hf1, hf6⟩
  have hwl := congrArg List.length hws
  simp only [List.length_append, List.length_cons, List.length_nil] at hwl
  by_cases hlt : i < ns.length
  · have hc := Number_ok ns[i] (hn _ (List.getElem_mem hlt))
    have hl := num_len ns[i]
    rw [flatN_cons _ _ _ hlt] at hws
    have b1 : ws.length + (num ns[i]).length ≤ 140737488355328 := by omega
    clear hwl hqb hqe
    repeat' (first
      | apply w_seq
      | apply w_region
      | apply o_end
      | apply t_normal
      | (apply o_add; exact kc0; exact kc2; rfl; exact kc2; rfl; exact ke2)
      | (apply o_val; exact kc0; exact kc2)
      | (apply o_fn fine; exact kc0; exact kc1; exact hc; exact kc3)
      | (apply o_mem; exact kc0; rfl; exact kc1)
      | apply w_skip
      | apply w_block
      | apply b_normal
      | (apply w_true; exact kc3)
      | fail)
    exact ⟨ns.length - (i + 1), by omega, i + 1, ws ++ num ns[i], by omega, rfl, by simp, by simp, by simpa using hws, by simp [*], by simp [*], by simp [*]⟩
  · rw [flatN_end _ _ _ (by omega), List.append_nil] at hws
    have hqw : q = ws ++ [0, 0, 0, 0, 0] := by rw [hqb, hws]
    have hw3 : ws.length ≤ 303 := by omega
    have b1 : ws.length + 1 + 1 + 1 + 1 + 1 ≤ 140737488355328 := by omega
    have b2 : ws.length + 1 + 1 + 1 + 1 ≤ 140737488355328 := by omega
    have b3 : ws.length + 1 + 1 + 1 ≤ 140737488355328 := by omega
    have b4 : ws.length + 1 + 1 ≤ 140737488355328 := by omega
    have b5 : ws.length + 1 ≤ 140737488355328 := by omega
    clear hwl hqb hws n0 nl hnl
    repeat' (first
      | apply w_seq
      | apply w_region
      | apply o_end
      | apply t_normal
      | (apply o_val; exact kc0; exact kc2)
      | apply w_block
      | apply w_exit
      | apply t_exit
      | apply b_here
      | (apply w_false; exact kc3)
      | fail)
    (try apply loop_is); refine loop_unfold ?_
    repeat' (first
      | apply w_seq
      | apply w_region
      | apply o_end
      | apply t_normal
      | (apply o_add; exact kc0; exact kc2; rfl; exact kc2; rfl; exact ke2)
      | (apply o_val; exact kc0; exact kc2)
      | (apply o_lit; exact kc0; exact kc1; (focus (simp; done)); exact kd7)
      | (apply o_mem; exact kc0; rfl; exact kc1)
      | apply w_skip
      | apply w_block
      | apply b_normal
      | (apply w_true; exact kc3)
      | fail)
    (try apply loop_is); refine loop_unfold ?_
    repeat' (first
      | apply w_seq
      | apply w_region
      | apply o_end
      | apply t_normal
      | (apply o_add; exact kc0; exact kc2; rfl; exact kc2; rfl; exact ke2)
      | (apply o_val; exact kc0; exact kc2)
      | (apply o_lit; exact kc0; exact kc1; (focus (simp; done)); exact kd7)
      | (apply o_mem; exact kc0; rfl; exact kc1)
      | apply w_skip
      | apply w_block
      | apply b_normal
      | (apply w_true; exact kc3)
      | fail)
    (try apply loop_is); refine loop_unfold ?_
    repeat' (first
      | apply w_seq
      | apply w_region
      | apply o_end
      | apply t_normal
      | (apply o_add; exact kc0; exact kc2; rfl; exact kc2; rfl; exact ke2)
      | (apply o_val; exact kc0; exact kc2)
      | (apply o_lit; exact kc0; exact kc1; (focus (simp; done)); exact kd7)
      | (apply o_mem; exact kc0; rfl; exact kc1)
      | apply w_skip
      | apply w_block
      | apply b_normal
      | (apply w_true; exact kc3)
      | fail)
    (try apply loop_is); refine loop_unfold ?_
    repeat' (first
      | apply w_seq
      | apply w_region
      | apply o_end
      | apply t_normal
      | (apply o_add; exact kc0; exact kc2; rfl; exact kc2; rfl; exact ke2)
      | (apply o_val; exact kc0; exact kc2)
      | (apply o_lit; exact kc0; exact kc1; (focus (simp; done)); exact kd7)
      | (apply o_mem; exact kc0; rfl; exact kc1)
      | apply w_skip
      | apply w_block
      | apply b_normal
      | (apply w_true; exact kc3)
      | fail)
    (try apply loop_is); refine loop_unfold ?_
    repeat' (first
      | apply w_seq
      | apply w_region
      | apply o_end
      | apply t_normal
      | (apply o_add; exact kc0; exact kc2; rfl; exact kc2; rfl; exact ke2)
      | (apply o_val; exact kc0; exact kc2)
      | (apply o_lit; exact kc0; exact kc1; (focus (simp; done)); exact kd7)
      | (apply o_mem; exact kc0; rfl; exact kc1)
      | apply w_skip
      | apply w_block
      | apply b_normal
      | (apply w_true; exact kc3)
      | fail)
    (try apply loop_is); refine loop_unfold ?_
    have hR : readSt q = (jarSt ns, true) := hqe ▸ readSt_of hin
    have hql : q.length < 1501 := by
      rw [hqw]
      simp
      omega
    have cI := SameInts_ok ns ns (by omega)
    rw [show (ns == ns) = true by simp] at cI
    have hin2 := jar_in (ns := ns ++ [more]) (fun n h => by
      rcases List.mem_append.1 h with h | h
      · exact hn n h
      · rw [List.mem_singleton.1 h]
        exact hm) (by simp; omega)
    obtain ⟨q2, hq2⟩ : ∃ q, stB (jarSt (ns ++ [more])) = q := ⟨_, rfl⟩
    have hne : (q2 == q) = false := by
      rw [beq_eq_false_iff_ne, ← hq2, ← hqe]
      intro h
      have h2 := congrArg (fun s => s.jar.length) ((stB_inj hin2 hin).1 h)
      simp [jarSt] at h2
    have hq2l := stB_len hin2
    rw [hq2] at hq2l
    have kA : Ans L 12 [bytesL q, bytesL (ws ++ [0, 0, 0, 0, 0])] (.bool true) := by
      have h := SameBytes_ok q q (by omega)
      rw [show (q == q) = true by simp] at h
      rw [← hqw]
      exact h
    have kB := SameBytes_ok q2 q (by omega)
    rw [hne] at kB
    by_cases hz : ns = []
    · subst hz
      have cS := fun H => State_any (H := H) (args := [.agg [.int .i64 0, .bool false, .nilsl, .nilsl, .nilsl, .nilsl, .nilsl, .nilsl]]) hin ⟨SnapL.agg ⟨.flat (by simp [jarSt]), .flat (by simp [jarSt]), .nil, .nil, .nil, .nil, .nil, .nil, trivial⟩, trivial⟩
      rw [hqe] at cS
      have cR := Read_ok q hql
      rw [hR] at cR
      have T3 : ∀ w : Blk, CallsV L 16 [.agg [.int .i64 0, .bool false, .slice 1 0 1 1, .nilsl, .nilsl, .nilsl, .nilsl, .nilsl]] [w, .cells 1 1 false [encI more]]
          (Turns (.slice 2 0 q2.length q2.length) [w, .cells 1 1 false [encI more], .cells q2.length 1 false (q2.map encB)]) := fun w => by
        have h := State_lent (H := [w, .cells 1 1 false [encI more]]) hin2 (jar_snap (r := 1) rfl)
        rw [hq2] at h
        simpa using h
      clear hqe hqw hR hin hin2 hq2 hne hn
      repeat' (first
        | apply w_seq
        | apply w_region
        | apply o_end
        | apply t_normal
        | (apply o_val; exact kc0; exact kc2)
        | (apply o_fuse; exact kc0; rfl; (focus (simp [*]; first | rfl | exact ⟨rfl, rfl⟩)); exact kc0; rfl; (focus (simp [*]; first | rfl | exact ⟨rfl, rfl⟩ | exact ⟨rfl, rfl, rfl⟩)); (focus (intro d hd; apply Under.flat; revert hd; revert d; simp; done)))
        | (apply o_lit; exact kc0; exact kc1; (focus (simp; done)); exact kd7)
        | (apply o_turns; exact kc0; exact kc1; (focus (exact cS _)))
        | (apply o_turns; exact kc0; exact kc1; (focus (exact T3 _)))
        | (apply o_fn fine; exact kc0; exact kc1; exact cR; exact kc3)
        | (apply o_fn fine; exact kc0; exact kc1; exact cI; exact kc3)
        | (apply o_lend fine; exact kc0; exact kc1; (focus (exact kA )); (focus ( (refine ⟨.flat (by simp), want_snap rfl, trivial⟩))); (focus (simp; done)))
        | (apply o_lend fine; exact kc0; exact kc1; (focus (exact kB )); (focus ( (refine ⟨.slice_flat trivial rfl ?_ ?_ (numB_flat _), .flat (by simp), trivial⟩ <;> (simp; done)))); (focus (simp; done)))
        | (apply o_fn fine; exact kc0; exact kc1; exact awake_ok; exact kc3)
        | (apply f_retf; exact kc2; (focus (simp; done)); (focus (simp [jarSt, *]; done)))
        | (apply o_mem; exact kc0; rfl; exact kc1)
        | apply w_ret
        | apply w_exit
        | apply t_exit
        | apply b_here
        | (apply w_false; exact kc3)
        | fail)
      done
    · have T1 : ∀ w : Blk, CallsV L 16 [.agg [.int .i64 0, .bool false, .slice 1 0 ns.length ns.length, .nilsl, .nilsl, .nilsl, .nilsl, .nilsl]] [w, .cells ns.length 1 false (ns.map encI)] (Turns (.slice 2 0 q.length q.length) [w, .cells ns.length 1 false (ns.map encI), .cells q.length 1 false (q.map encB)]) := fun w => by
        have h := State_lent (H := [w, .cells ns.length 1 false (ns.map encI)]) hin (jar_snap (r := 1) rfl)
        rw [hqe] at h
        exact h
      have T2 : ∀ w : Blk, CallsV L 10 [.slice 2 0 q.length q.length] [w, .cells ns.length 1 false (ns.map encI), .cells q.length 1 false (q.map encB)] (Turns (.tuple [stD (jarSt ns), .bool true]) [w, .cells ns.length 1 false (ns.map encI), .cells q.length 1 true (q.map encB)]) := fun w => by
        have h := turns_read q hql (w := w) (j := .cells ns.length 1 false (ns.map encI))
        rw [hR] at h
        exact h
      have T3 : ∀ w : Blk, CallsV L 16 [.agg [.int .i64 0, .bool false, .slice 1 0 (ns.length + 1) (ns.length + 1), .nilsl, .nilsl, .nilsl, .nilsl, .nilsl]] [w, .cells (ns.length + 1) 1 false (ns.map encI ++ [encI more]), .cells q.length 1 true (q.map encB)]
          (Turns (.slice 3 0 q2.length q2.length) [w, .cells (ns.length + 1) 1 false (ns.map encI ++ [encI more]), .cells q.length 1 true (q.map encB), .cells q2.length 1 false (q2.map encB)]) := fun w => by
        have h := State_lent (H := [w, .cells (ns ++ [more]).length 1 false ((ns ++ [more]).map encI), .cells q.length 1 true (q.map encB)]) hin2 (jar_snap (r := 1) rfl)
        rw [hq2] at h
        simpa using h
      have d1 : ns.length * 8 ≤ 140737488355328 := by omega
      have d2 : (ns.length + 1) * 8 ≤ 140737488355328 := by omega
      have d3 : ns.length ≤ 140737488355328 := by omega
      have d4 : ns.length + 1 ≤ 140737488355328 := by omega
      clear hqe hqw hR hin hin2 hq2 hne hn
      repeat' (first
        | apply w_seq
        | apply w_region
        | apply o_end
        | apply t_normal
        | (apply o_val; exact kc0; exact kc2)
        | (apply o_fuse; exact kc0; rfl; (focus (simp [*]; first | rfl | exact ⟨rfl, rfl⟩)); exact kc0; rfl; (focus (simp [*]; first | rfl | exact ⟨rfl, rfl⟩ | exact ⟨rfl, rfl, rfl⟩)); (focus (intro d hd; apply Under.flat; revert hd; revert d; simp; done)))
        | (apply o_lit; exact kc0; exact kc1; (focus (simp; done)); exact kd7)
        | (apply o_turns; exact kc0; exact kc1; (focus (exact T1 _)))
        | (apply o_turns; exact kc0; exact kc1; (focus (exact T2 _)))
        | (apply o_turns; exact kc0; exact kc1; (focus (exact T3 _)))
        | (apply o_fn fine; exact kc0; exact kc1; exact cI; exact kc3)
        | (apply o_lend fine; exact kc0; exact kc1; (focus (exact kA )); (focus ( (refine ⟨.slice_flat trivial rfl ?_ ?_ (numB_flat _), want_snap rfl, trivial⟩ <;> (simp; done)))); (focus (simp; done)))
        | (apply o_lend fine; exact kc0; exact kc1; (focus (exact kB )); (focus ( refine ⟨.slice_flat trivial rfl ?_ ?_ (numB_flat _), .slice_flat trivial rfl ?_ ?_ (numB_flat _), trivial⟩ <;> (simp; done))); (focus (simp; done)))
        | (apply o_fn fine; exact kc0; exact kc1; exact awake_ok; exact kc3)
        | (apply f_retf; exact kc2; (focus (simp; done)); (focus (simp [jarSt, *]; done)))
        | (apply o_mem; exact kc0; rfl; exact kc1)
        | apply w_ret
        | apply w_exit
        | apply t_exit
        | apply b_here
        | (apply w_false; exact kc3)
        | fail)
      done
end Go.Proofs.Ytejpgmemohchaaa.Vm
