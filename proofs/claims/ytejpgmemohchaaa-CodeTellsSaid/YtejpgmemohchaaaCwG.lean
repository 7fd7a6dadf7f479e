/- Walks: awake. -/
import Derived.Test.YtejpgmemohchaaaCwF
set_option linter.unusedSimpArgs false
set_option maxRecDepth 100000
set_option maxHeartbeats 4000000
namespace Go.Proofs.Ytejpgmemohchaaa.Vm
open Go
attribute [local irreducible] wpD opsD thenD blockD planD planA
attribute [local simp] List.take_of_length_le List.drop_of_length_le num_ne

instance (n : Int) : Decidable (I64 n) := inferInstanceAs (Decidable (_ ∧ _))
def s0 : St := { doc := -2, owned := false, jar := [1], changed := [], knows := [], stolen := [], ran := [], pending := [] }
theorem s0_in : s0.In := ⟨by decide, fun n hn => by simp [s0] at hn; subst hn; decide, fun n hn => by simp [s0] at hn, fun n hn => by simp [s0] at hn, by decide, by decide, by decide, by decide, by decide, by decide⟩
theorem State_any {H : Heap} {args : List D} {s : St} (hs : s.In) (hn : SnapL (fun _ => False) H args [stD s]) : CallsV L 16 args H (Turns (bytesL (stB s)) H) :=
  turns_give (fun _ => False) (State_ok s hs) hn (freeze_none H)
theorem lit1 : (.isl 1 [[.int .u8 1]] : D) = bytesL [1] := rfl
theorem awake_ok : Ans L 9 [] (.bool true) := by
  refine fn_of_body L_ok (fn := Try.f9) rfl rfl rfl rfl (by kernel_rfl) ?_
  have hl : (stB s0).length = 9 := by decide +kernel
  have cR := Read_ok (stB s0) (by decide +kernel)
  rw [readSt_of s0_in] at cR
  have cS := fun H => State_any (H := H) (args := [.agg [.int .i64 (-2), .bool false, .isl 1 [[.int .i64 1]], .nilsl, .nilsl, .nilsl, .nilsl, .nilsl]]) s0_in ⟨SnapL.agg ⟨.flat (by simp), .flat (by simp), .flat (by simp), .nil, .nil, .nil, .nil, .nil, trivial⟩, trivial⟩
  have cN : Ans L 10 [.isl 1 [[.int .u8 1]]] (.tuple [stD zeroSt, .bool false]) := by
    have h := Read_ok [1] (by decide)
    have e2 : (readSt [1]).2 = false := by decide +kernel
    have e1 := readSt_no e2
    rw [e1, e2] at h
    exact h
  have cI : Ans L 17 [.isl 1 [[.int .i64 1]], .isl 1 [[.int .i64 1]]] (.bool true) := SameInts_ok [1] [1] (by decide)
  have n1 : Ans L 15 [.int .i64 (-1)] (bytesL [1]) := Number_ok (-1) (by decide)
  have n2 : Ans L 15 [.int .i64 64] (bytesL [128, 1]) := Number_ok 64 (by decide)
  have c1 : Ans L 12 [bytesL [1], .isl 1 [[.int .u8 1]]] (.bool true) := SameBytes_ok [1] [1] (by decide)
  have c2 : Ans L 12 [bytesL [128, 1], .isl 1 [[.int .u8 128], [.int .u8 1]]] (.bool true) := SameBytes_ok [128, 1] [128, 1] (by decide)
  have cL : Ans L 14 [.isl 1 [[.int .u8 1]], .isl 1 [[.int .u8 1], [.int .u8 0]]] (.bool true) := Less_ok [1] [1, 0]
  generalize stB s0 = q at *
  repeat' (first
    | apply w_seq
    | apply w_region
    | apply o_end
    | apply t_normal
    | (apply o_val; exact kc0; exact kc2)
    | (apply o_fuse; exact kc0; rfl; (focus (simp [*]; first | rfl | exact ⟨rfl, rfl⟩)); exact kc0; rfl; (focus (simp [*]; first | rfl | exact ⟨rfl, rfl⟩ | exact ⟨rfl, rfl, rfl⟩)); (focus (intro d hd; apply Under.flat; revert hd; revert d; simp; done)))
    | (apply o_lit; exact kc0; exact kc1; (focus (simp; done)); exact kd7)
    | (apply o_turns; exact kc0; exact kc1; (focus (exact cS _)))
    | (apply o_fn fine; exact kc0; exact kc1; exact cR; exact kc3)
    | (apply o_fn fine; exact kc0; exact kc1; exact cN; exact kc3)
    | (apply o_fn fine; exact kc0; exact kc1; exact cI; exact kc3)
    | (apply o_fn fine; exact kc0; exact kc1; exact n1; exact kc3)
    | (apply o_fn fine; exact kc0; exact kc1; exact n2; exact kc3)
    | (apply o_fn fine; exact kc0; exact kc1; exact c1; exact kc3)
    | (apply o_fn fine; exact kc0; exact kc1; exact c2; exact kc3)
    | (apply o_fn fine; exact kc0; exact kc1; exact cL; exact kc3)
    | apply w_ret
    | fail)
  all_goals (apply f_retf; (focus (simp [*]; rfl)); (focus (simp; done)); (focus (first | (simp [s0, *]; done) | (simp_all [s0]; done))))
end Go.Proofs.Ytejpgmemohchaaa.Vm
