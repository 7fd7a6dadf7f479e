/- Walks: the document's reading of a state. -/
import Derived.Test.YtejpgmemohchaaaCwD
set_option linter.unusedSimpArgs false
set_option maxRecDepth 100000
set_option maxHeartbeats 4000000
namespace Go.Proofs.Ytejpgmemohchaaa.Vm
open Go
attribute [local irreducible] wpD opsD thenD blockD planD planA
attribute [local simp] List.take_of_length_le List.drop_of_length_le num_ne

abbrev stR8 (s : St) (P : D) : List D := [.int .i64 s.doc, .bool s.owned, intsL s.jar, intsL s.changed, boolsL s.knows, boolsL s.stolen, boolsL s.ran, P]
theorem snap_st {S : Nat → Prop} {H : Heap} {s : St} {P : D} (h : Snap S H P (rqsL s.pending)) : Snap S H (.agg (stR8 s P)) (stD s) :=
  SnapL.agg ⟨.flat (by simp), .flat (by simp), .flat (by simp), .flat (by simp), .flat (by simp), .flat (by simp), .flat (by simp), h, trivial⟩
theorem turns_give {g : FuncId} {args args' : List D} {H H' : Heap} {d : D} (S : Nat → Prop) (h : Ans L g args' d) (hs : SnapL S H args args') (hH : freeze S H = H') : CallsV L g args H (Turns d H') := by
  subst hH
  unfold Ans at h
  exact (PureV.give fine S h hs).mono fun r H' hr => ⟨hr.2, hr.1⟩
theorem refState_nil {H : Heap} (s : St) (hs : s.In) (hp : s.pending = []) : CallsV L 13 [.agg (stR8 s .nilsl)] H (Turns (bytesL (stB s)) H) :=
  turns_give (fun _ => False) (refState_ok s hs) ⟨snap_st (by rw [hp]; exact .nil), trivial⟩ (freeze_none H)
theorem freeze4 (a b c d e : Blk) (K : Heap) : freeze (· = 4) (a :: b :: c :: d :: e :: K) = a :: b :: c :: d :: e.frozen :: K := by
  unfold freeze
  apply List.ext_getElem?
  intro i
  rw [List.getElem?_mapIdx]
  match i with
  | 0 => simp
  | 1 => simp
  | 2 => simp
  | 3 => simp
  | 4 => simp
  | i + 5 =>
    simp only [List.getElem?_cons_succ]
    cases K[i]? with
    | none => rfl
    | some k => simp
theorem refState_row (s : St) (hs : s.In) {a b c d : Blk} {K : Heap} {n : Nat} (hn : n = s.pending.length) : CallsV L 13 [.agg (stR8 s (.slice 4 0 n n))] (a :: b :: c :: d :: .cells n 8 false (s.pending.map rqC) :: K) (Turns (bytesL (stB s)) (a :: b :: c :: d :: .cells n 8 true (s.pending.map rqC) :: K)) :=
  turns_give (· = 4) (refState_ok s hs) ⟨snap_st (.slice_flat rfl rfl (by simp [hn]) (by simp [hn]) (flt_rq _)), trivial⟩ (freeze4 ..)

@[local simp] theorem gK0 {α : Type} {K l : List α} {x : α} : (K ++ x :: l)[K.length]? = some x := by simp
@[local simp] theorem gK1 {α : Type} {K l : List α} {x : α} : (K ++ x :: l)[K.length + 1]? = l[0]? := by
  rw [List.getElem?_append_right (by omega), show K.length + 1 - K.length = 0 + 1 by omega, List.getElem?_cons_succ]
@[local simp] theorem tK1 {α : Type} {K l : List α} {x : α} : (K ++ x :: l).take (K.length + 1) = K ++ [x] := by
  rw [List.take_append, List.take_of_length_le (by omega), show K.length + 1 - K.length = 1 by omega]
  rfl
abbrev zeroC : List D := [.int .i64 0, .bool false, .nilsl, .nilsl, .nilsl, .nilsl, .nilsl, .nilsl]
theorem refRead_ok (l : List UInt8) (hl : l.length < 1501) : Ans L 11 [bytesL l] (.tuple [stD (refSt l).1, .bool (refSt l).2]) := by
  refine fn_of_body L_ok (fn := Try.f11) rfl rfl rfl rfl (by kernel_rfl) ?_
  obtain ⟨hin, _⟩ := makes_stQ ⟨l, false⟩ hl
  have hS : refSt l = if (stQ ⟨l, false⟩).2.bad || !(stB (stQ ⟨l, false⟩).1 == l) then (zeroSt, false) else ((stQ ⟨l, false⟩).1, true) := rfl
  obtain ⟨r, hr⟩ : ∃ r : Rd, r = ⟨l, false⟩ := ⟨_, rfl⟩
  have hrb : r.b = l := by rw [hr]
  have hrbad : r.bad = false := by rw [hr]
  rw [← hr] at hS hin
  have hb : r.b.length < 1501 := by rw [hrb]; exact hl
  clear hr
  obtain ⟨_, l1⟩ := makes_numQ (r) (by omega)
  have c1 := refNumber_read (r) (by omega)
  obtain ⟨a, e1⟩ : ∃ x, numQ (r) = x := ⟨_, rfl⟩
  rw [e1] at c1 l1
  obtain ⟨_, l2⟩ := makes_truQ (a.2) (by omega)
  have c2 := refTruth_read (a.2) (by omega)
  obtain ⟨b, e2⟩ : ∃ x, truQ (a.2) = x := ⟨_, rfl⟩
  rw [e2] at c2 l2
  obtain ⟨_, l3⟩ := makes_listQ makes_numQ (b.2) (by omega)
  have c3 := refInts_read (b.2) (by omega)
  obtain ⟨c, e3⟩ : ∃ x, listQ numQ (b.2) = x := ⟨_, rfl⟩
  rw [e3] at c3 l3
  obtain ⟨_, l4⟩ := makes_listQ makes_numQ (c.2) (by omega)
  have c4 := refInts_read (c.2) (by omega)
  obtain ⟨d, e4⟩ : ∃ x, listQ numQ (c.2) = x := ⟨_, rfl⟩
  rw [e4] at c4 l4
  obtain ⟨_, l5⟩ := makes_listQ makes_truQ (d.2) (by omega)
  have c5 := refTruths_read (d.2) (by omega)
  obtain ⟨e, e5⟩ : ∃ x, listQ truQ (d.2) = x := ⟨_, rfl⟩
  rw [e5] at c5 l5
  obtain ⟨_, l6⟩ := makes_listQ makes_truQ (e.2) (by omega)
  have c6 := refTruths_read (e.2) (by omega)
  obtain ⟨f, e6⟩ : ∃ x, listQ truQ (e.2) = x := ⟨_, rfl⟩
  rw [e6] at c6 l6
  obtain ⟨_, l7⟩ := makes_listQ makes_truQ (f.2) (by omega)
  have c7 := refTruths_read (f.2) (by omega)
  obtain ⟨g, e7⟩ : ∃ x, listQ truQ (f.2) = x := ⟨_, rfl⟩
  rw [e7] at c7 l7
  obtain ⟨l8, l9⟩ := makes_manyQ (g.2) (by omega)
  have c8 := refMany_read (g.2) (by omega)
  obtain ⟨m, e8⟩ : ∃ x, manyQ (g.2) = x := ⟨_, rfl⟩
  rw [e8] at c8 l8 l9
  obtain ⟨res, e9⟩ : ∃ x, rowQ rqQ m.1.toNat m.2 [] = x := ⟨_, rfl⟩
  have hR : stQ r = ({ doc := a.1, owned := b.1, jar := c.1, changed := d.1, knows := e.1, stolen := f.1, ran := g.1, pending := res.1 }, res.2) := by
    subst e1 e2 e3 e4 e5 e6 e7 e8 e9
    rfl
  rw [hR] at hS hin
  have hm : m.2.b.length < 1501 := by omega
  obtain ⟨z, zr⟩ := r
  simp only at hrb hrbad hS hin
  subst hrb hrbad
  clear hR l1 l2 l3 l4 l5 l6 l7 e1 e2 e3 e4 e5 e6 e7 e8
  rw [hS]
  clear hS
  obtain ⟨s, hs⟩ : ∃ s : St, s = { doc := a.1, owned := b.1, jar := c.1, changed := d.1, knows := e.1, stolen := f.1, ran := g.1, pending := res.1 } := ⟨_, rfl⟩
  rw [← hs] at hin ⊢
  have s0 : a.1 = s.doc := by rw [hs]
  have s1 : b.1 = s.owned := by rw [hs]
  have s2 : c.1 = s.jar := by rw [hs]
  have s3 : d.1 = s.changed := by rw [hs]
  have s4 : e.1 = s.knows := by rw [hs]
  have s5 : f.1 = s.stolen := by rw [hs]
  have s6 : g.1 = s.ran := by rw [hs]
  have s7 : res.1 = s.pending := by rw [hs]
  rw [s0] at c1
  rw [s1] at c2
  rw [s2] at c3
  rw [s3] at c4
  rw [s4] at c5
  rw [s5] at c6
  rw [s6] at c7
  clear hs s0 s1 s2 s3 s4 s5 s6
  repeat' (first
    | apply w_seq
    | apply w_region
    | apply o_end
    | apply t_normal
    | (apply o_val; exact kc0; exact kc2)
    | (apply o_amid fine 1; exact kc0; exact kc1; exact c1; (focus (simp [rn, rnL]; done)); rfl; rfl; rfl; exact kd4; (focus (simp only [rowH, rqH, List.take_succ_cons, List.take_zero, List.cons_append, List.nil_append]; rfl)))
    | (apply o_amid fine 1; exact kc0; exact kc1; exact c2; (focus (simp [rn, rnL]; done)); rfl; rfl; rfl; exact kd4; (focus (simp only [rowH, rqH, List.take_succ_cons, List.take_zero, List.cons_append, List.nil_append]; rfl)))
    | (apply o_amid fine 1; exact kc0; exact kc1; exact c3; (focus (simp [rn, rnL]; done)); rfl; rfl; rfl; exact kd4; (focus (simp only [rowH, rqH, List.take_succ_cons, List.take_zero, List.cons_append, List.nil_append]; rfl)))
    | (apply o_amid fine 1; exact kc0; exact kc1; exact c4; (focus (simp [rn, rnL]; done)); rfl; rfl; rfl; exact kd4; (focus (simp only [rowH, rqH, List.take_succ_cons, List.take_zero, List.cons_append, List.nil_append]; rfl)))
    | (apply o_amid fine 1; exact kc0; exact kc1; exact c5; (focus (simp [rn, rnL]; done)); rfl; rfl; rfl; exact kd4; (focus (simp only [rowH, rqH, List.take_succ_cons, List.take_zero, List.cons_append, List.nil_append]; rfl)))
    | (apply o_amid fine 1; exact kc0; exact kc1; exact c6; (focus (simp [rn, rnL]; done)); rfl; rfl; rfl; exact kd4; (focus (simp only [rowH, rqH, List.take_succ_cons, List.take_zero, List.cons_append, List.nil_append]; rfl)))
    | (apply o_amid fine 1; exact kc0; exact kc1; exact c7; (focus (simp [rn, rnL]; done)); rfl; rfl; rfl; exact kd4; (focus (simp only [rowH, rqH, List.take_succ_cons, List.take_zero, List.cons_append, List.nil_append]; rfl)))
    | (apply o_amid fine 1; exact kc0; exact kc1; exact c8; (focus (simp [rn, rnL]; done)); rfl; rfl; rfl; exact kd4; (focus (simp only [rowH, rqH, List.take_succ_cons, List.take_zero, List.cons_append, List.nil_append]; rfl)))
    | (apply o_mem; exact kc0; rfl; exact kc1)
    | apply w_block
    | fail)
  refine w_loop (fun k0 F H => ∃ (k i : Nat) (r' : Rd) (out : List Rq) (P : D) (T : Heap), k0 = k ∧ i + k = m.1.toNat ∧ out.length ≤ i ∧ r'.b.length < 1501 ∧ rowQ rqQ k r' out = res ∧
      H = .cells 0 8 false [zeroC] :: .cells 0 2 false [[bytesL r'.b, .bool (!r'.bad)]] :: .cells 0 8 false [stR8 s P] :: T ∧ ((out = [] ∧ T = [] ∧ P = .nilsl) ∨ (out ≠ [] ∧ P = .slice 4 0 out.length out.length ∧ ∃ X K, T = X :: .cells out.length 8 false (out.map rqC) :: K)) ∧
      F 0 = bytesL z ∧ F 2 = .ref 0 0 0 0 ∧ F 4 = .ref 1 0 0 0 ∧ F 5 = .ref 2 0 0 0 ∧ F 6 = .int .i64 m.1 ∧ F 7 = .int .i64 (i : Nat)) m.1.toNat
      ⟨m.1.toNat, 0, m.2, [], .nilsl, [], rfl, by omega, by simp, hm, e9, by simp, .inl ⟨rfl, rfl, rfl⟩, by simp⟩ ?_
  clear c1 c2 c3 c4 c5 c6 c7 c8 e9 hm
  rintro k0 F H ⟨k, i, r', out, P, T, rfl, hik, hol, hr', hrow, rfl, hout, F0, F2, F4, F5, F6, F7⟩
  cases k0 with
  | zero =>
    have hlt : ¬ (i : Int) < m.1 := by omega
    rw [rowQ] at hrow
    subst hrow
    simp only at s7
    subst s7
    obtain ⟨q, hq⟩ : ∃ q, stB s = q := ⟨_, rfl⟩
    have hS1 := refState_ok s hin
    rcases hout with ⟨hp, rfl, rfl⟩ | ⟨hne, rfl, X, K, rfl⟩
    · have cS := fun H => refState_nil (H := H) s hin hp
      rw [hq] at cS ⊢
      clear hS1 hq
      cases hbad : r'.bad
      · cases he : (q == z)
        · skip
          repeat' (first
            | apply w_seq
            | apply w_region
            | apply o_end
            | apply t_normal
            | (apply o_val; exact kc0; exact kc2)
            | (apply o_mem; exact kc0; rfl; exact kc1)
            | apply w_ret
            | apply t_ret
            | apply w_exit
            | apply t_exit
            | apply b_here
            | (apply w_true; exact kc3)
            | (apply w_false; exact kc3)
            | (apply o_no; exact ke7)
            | (apply w_drawA; rfl; exact ke3; exact kc4; exact kc4)
            | (apply a_end; exact kc4)
            | (apply a_val; exact kc4; exact kc5; exact kd9; exact kc6)
            | (apply a_turns; exact kc4; exact kc5; exact kd8; (focus (exact cS _)); exact kc7; exact kc6; exact kc4)
            | (apply a_tie; exact kc4; exact kc5; exact ke0; exact kc7; exact kc6; exact kc4)
            | (apply a_frz; exact kc4; exact kc5; exact ke1; exact ke9; exact kc6)
            | fail)
          refine f_ret (by simp [*]; rfl) ?_
          show Snap _ _ _ (.tuple [stD zeroSt, .bool false])
          exact snap_zero
        · skip
          repeat' (first
            | apply w_seq
            | apply w_region
            | apply o_end
            | apply t_normal
            | (apply o_val; exact kc0; exact kc2)
            | (apply o_mem; exact kc0; rfl; exact kc1)
            | apply w_skip
            | apply w_ret
            | apply w_exit
            | apply t_exit
            | apply b_here
            | (apply w_false; exact kc3)
            | (apply o_no; exact ke7)
            | (apply w_drawA; rfl; exact ke3; exact kc4; exact kc4)
            | (apply a_end; exact kc4)
            | (apply a_val; exact kc4; exact kc5; exact kd9; exact kc6)
            | (apply a_turns; exact kc4; exact kc5; exact kd8; (focus (exact cS _)); exact kc7; exact kc6; exact kc4)
            | (apply a_tie; exact kc4; exact kc5; exact ke0; exact kc7; exact kc6; exact kc4)
            | (apply a_frz; exact kc4; exact kc5; exact ke1; exact ke9; exact kc6)
            | fail)
          refine f_ret (by simp [*]; rfl) ?_
          show Snap _ _ _ (.tuple [stD s, .bool true])
          exact SnapL.tuple ⟨snap_st (by rw [hp]; exact .nil), .flat (by simp), trivial⟩
      · skip
        repeat' (first
          | apply w_seq
          | apply w_region
          | apply o_end
          | apply t_normal
          | (apply o_val; exact kc0; exact kc2)
          | (apply o_mem; exact kc0; rfl; exact kc1)
          | apply w_ret
          | apply t_ret
          | apply w_exit
          | apply t_exit
          | apply b_here
          | (apply w_true; exact kc3)
          | (apply w_false; exact kc3)
          | (apply o_no; exact ke7)
          | (apply w_drawA; rfl; exact ke3; exact kc4; exact kc4)
          | (apply a_end; exact kc4)
          | (apply a_val; exact kc4; exact kc5; exact kd9; exact kc6)
          | (apply a_tie; exact kc4; exact kc5; exact ke0; exact kc7; exact kc6; exact kc4)
          | (apply a_no; exact kc4; exact ke8; exact kc6)
          | fail)
        refine f_ret (by simp [*]; rfl) ?_
        show Snap _ _ _ (.tuple [stD zeroSt, .bool false])
        exact snap_zero
    · have cS := fun A B C => refState_row (a := A) (b := B) (c := C) (d := X) (K := K) s hin rfl
      rw [hq] at cS ⊢
      clear hS1 hq
      cases hbad : r'.bad
      · cases he : (q == z)
        · skip
          repeat' (first
            | apply w_seq
            | apply w_region
            | apply o_end
            | apply t_normal
            | (apply o_val; exact kc0; exact kc2)
            | (apply o_mem; exact kc0; rfl; exact kc1)
            | apply w_ret
            | apply t_ret
            | apply w_exit
            | apply t_exit
            | apply b_here
            | (apply w_true; exact kc3)
            | (apply w_false; exact kc3)
            | (apply o_no; exact ke7)
            | (apply w_drawA; rfl; exact ke3; exact kc4; exact kc4)
            | (apply a_end; exact kc4)
            | (apply a_val; exact kc4; exact kc5; exact kd9; exact kc6)
            | (apply a_turns; exact kc4; exact kc5; exact kd8; (focus (exact cS _ _ _)); exact kc7; exact kc6; exact kc4)
            | (apply a_tie; exact kc4; exact kc5; exact ke0; exact kc7; exact kc6; exact kc4)
            | (apply a_frz; exact kc4; exact kc5; exact ke1; exact ke9; exact kc6)
            | fail)
          refine f_ret (by simp [*]; rfl) ?_
          show Snap _ _ _ (.tuple [stD zeroSt, .bool false])
          exact snap_zero
        · skip
          repeat' (first
            | apply w_seq
            | apply w_region
            | apply o_end
            | apply t_normal
            | (apply o_val; exact kc0; exact kc2)
            | (apply o_mem; exact kc0; rfl; exact kc1)
            | apply w_skip
            | apply w_ret
            | apply w_exit
            | apply t_exit
            | apply b_here
            | (apply w_false; exact kc3)
            | (apply o_no; exact ke7)
            | (apply w_drawA; rfl; exact ke3; exact kc4; exact kc4)
            | (apply a_end; exact kc4)
            | (apply a_val; exact kc4; exact kc5; exact kd9; exact kc6)
            | (apply a_turns; exact kc4; exact kc5; exact kd8; (focus (exact cS _ _ _)); exact kc7; exact kc6; exact kc4)
            | (apply a_tie; exact kc4; exact kc5; exact ke0; exact kc7; exact kc6; exact kc4)
            | (apply a_frz; exact kc4; exact kc5; exact ke1; exact ke9; exact kc6)
            | fail)
          refine f_ret (by simp [*]; rfl) ?_
          show Snap _ _ _ (.tuple [stD s, .bool true])
          exact SnapL.tuple ⟨snap_st (.slice_flat (by simp) rfl (by simp) (by simp) (flt_rq _)), .flat (by simp), trivial⟩
      · skip
        repeat' (first
          | apply w_seq
          | apply w_region
          | apply o_end
          | apply t_normal
          | (apply o_val; exact kc0; exact kc2)
          | (apply o_mem; exact kc0; rfl; exact kc1)
          | apply w_ret
          | apply t_ret
          | apply w_exit
          | apply t_exit
          | apply b_here
          | (apply w_true; exact kc3)
          | (apply w_false; exact kc3)
          | (apply o_no; exact ke7)
          | (apply w_drawA; rfl; exact ke3; exact kc4; exact kc4)
          | (apply a_end; exact kc4)
          | (apply a_val; exact kc4; exact kc5; exact kd9; exact kc6)
          | (apply a_tie; exact kc4; exact kc5; exact ke0; exact kc7; exact kc6; exact kc4)
          | (apply a_no; exact kc4; exact ke8; exact kc6)
          | fail)
        refine f_ret (by simp [*]; rfl) ?_
        show Snap _ _ _ (.tuple [stD zeroSt, .bool false])
        exact snap_zero
  | succ k =>
    have hlt : (i : Int) < m.1 := by omega
    rw [rowQ] at hrow
    by_cases hbad : r'.bad = true
    · rw [if_pos hbad] at hrow
      subst hrow
      simp only at s7
      subst s7
      obtain ⟨q, hq⟩ : ∃ q, stB s = q := ⟨_, rfl⟩
      rw [hq]
      clear hq hin
      rcases hout with ⟨hp, rfl, rfl⟩ | ⟨hne, rfl, X, K, rfl⟩
      · skip
        repeat' (first
          | apply w_seq
          | apply w_region
          | apply o_end
          | apply t_normal
          | (apply o_val; exact kc0; exact kc2)
          | (apply o_mem; exact kc0; rfl; exact kc1)
          | apply w_ret
          | apply t_ret
          | apply w_exit
          | apply t_exit
          | apply b_here
          | (apply w_true; exact kc3)
          | (apply w_false; exact kc3)
          | (apply w_drawA; rfl; exact ke3; exact kc4; exact kc4)
          | (apply a_end; exact kc4)
          | (apply a_val; exact kc4; exact kc5; exact kd9; exact kc6)
          | (apply a_tie; exact kc4; exact kc5; exact ke0; exact kc7; exact kc6; exact kc4)
          | (apply a_no; exact kc4; exact ke8; exact kc6)
          | fail)
        rw [hbad]
        refine f_ret (by simp [*]; rfl) ?_
        show Snap _ _ _ (.tuple [stD zeroSt, .bool false])
        exact snap_zero
      · skip
        repeat' (first
          | apply w_seq
          | apply w_region
          | apply o_end
          | apply t_normal
          | (apply o_val; exact kc0; exact kc2)
          | (apply o_mem; exact kc0; rfl; exact kc1)
          | apply w_ret
          | apply t_ret
          | apply w_exit
          | apply t_exit
          | apply b_here
          | (apply w_true; exact kc3)
          | (apply w_false; exact kc3)
          | (apply w_drawA; rfl; exact ke3; exact kc4; exact kc4)
          | (apply a_end; exact kc4)
          | (apply a_val; exact kc4; exact kc5; exact kd9; exact kc6)
          | (apply a_tie; exact kc4; exact kc5; exact ke0; exact kc7; exact kc6; exact kc4)
          | (apply a_no; exact kc4; exact ke8; exact kc6)
          | fail)
        rw [hbad]
        refine f_ret (by simp [*]; rfl) ?_
        show Snap _ _ _ (.tuple [stD zeroSt, .bool false])
        exact snap_zero
    · have hbad' : r'.bad = false := by simpa using hbad
      rw [if_neg hbad] at hrow
      obtain ⟨_, l1⟩ := makes_numQ (r') (by omega)
      have c1 := refNumber_read (r') (by omega)
      obtain ⟨ra, e1⟩ : ∃ x, numQ (r') = x := ⟨_, rfl⟩
      rw [e1] at c1 l1
      obtain ⟨_, l2⟩ := makes_numQ (ra.2) (by omega)
      have c2 := refNumber_read (ra.2) (by omega)
      obtain ⟨rb, e2⟩ : ∃ x, numQ (ra.2) = x := ⟨_, rfl⟩
      rw [e2] at c2 l2
      obtain ⟨_, l3⟩ := makes_numQ (rb.2) (by omega)
      have c3 := refNumber_read (rb.2) (by omega)
      obtain ⟨rc, e3⟩ : ∃ x, numQ (rb.2) = x := ⟨_, rfl⟩
      rw [e3] at c3 l3
      obtain ⟨_, l4⟩ := makes_numQ (rc.2) (by omega)
      have c4 := refNumber_read (rc.2) (by omega)
      obtain ⟨rd, e4⟩ : ∃ x, numQ (rc.2) = x := ⟨_, rfl⟩
      rw [e4] at c4 l4
      obtain ⟨_, l5⟩ := makes_truQ (rd.2) (by omega)
      have c5 := refTruth_read (rd.2) (by omega)
      obtain ⟨re, e5⟩ : ∃ x, truQ (rd.2) = x := ⟨_, rfl⟩
      rw [e5] at c5 l5
      obtain ⟨_, l6⟩ := makes_truQ (re.2) (by omega)
      have c6 := refTruth_read (re.2) (by omega)
      obtain ⟨rf, e6⟩ : ∃ x, truQ (re.2) = x := ⟨_, rfl⟩
      rw [e6] at c6 l6
      obtain ⟨_, l7⟩ := makes_truQ (rf.2) (by omega)
      have c7 := refTruth_read (rf.2) (by omega)
      obtain ⟨rg, e7⟩ : ∃ x, truQ (rf.2) = x := ⟨_, rfl⟩
      rw [e7] at c7 l7
      obtain ⟨_, l8⟩ := makes_listQ makes_numQ (rg.2) (by omega)
      have c8 := refInts_read (rg.2) (by omega)
      obtain ⟨rh, e8⟩ : ∃ x, listQ numQ (rg.2) = x := ⟨_, rfl⟩
      rw [e8] at c8 l8
      have hQ : rqQ r' = ({ endpoint := ra.1, by_ := rb.1, kind := rc.1, hops := rd.1, creds := re.1, heads := rf.1, forged := rg.1, sent := rh.1 }, rh.2) := by
        subst e1 e2 e3 e4 e5 e6 e7 e8
        rfl
      rw [hQ] at hrow
      simp only at hrow
      have hb1 : out.length + 1 ≤ 140737488355328 := by omega
      have hb2 : (out.length + 1) * 64 ≤ 140737488355328 := by omega
      have h7 : IntKind.i64.wrap ((i : Int) + 1) = (i : Int) + 1 := wrap_i64 (by omega) (by omega)
      have hlen : rh.2.b.length < 1501 := by omega
      clear hQ e1 e2 e3 e4 e5 e6 e7 e8 l1 l2 l3 l4 l5 l6 l7 l8 s7 hin
      obtain ⟨x, hx⟩ : ∃ x : Rq, x = { endpoint := ra.1, by_ := rb.1, kind := rc.1, hops := rd.1, creds := re.1, heads := rf.1, forged := rg.1, sent := rh.1 } := ⟨_, rfl⟩
      rw [← hx] at hrow
      have x0 : ra.1 = x.endpoint := by rw [hx]
      have x1 : rb.1 = x.by_ := by rw [hx]
      have x2 : rc.1 = x.kind := by rw [hx]
      have x3 : rd.1 = x.hops := by rw [hx]
      have x4 : re.1 = x.creds := by rw [hx]
      have x5 : rf.1 = x.heads := by rw [hx]
      have x6 : rg.1 = x.forged := by rw [hx]
      have x7 : rh.1 = x.sent := by rw [hx]
      rw [x0] at c1
      rw [x1] at c2
      rw [x2] at c3
      rw [x3] at c4
      rw [x4] at c5
      rw [x5] at c6
      rw [x6] at c7
      rw [x7] at c8
      clear hx x0 x1 x2 x3 x4 x5 x6 x7
      obtain ⟨r2, hr2⟩ : ∃ r2, rh.2 = r2 := ⟨_, rfl⟩
      rw [hr2] at hrow c8 hlen
      clear hr2
      rcases hout with ⟨rfl, rfl, rfl⟩ | ⟨hne, rfl, X, K, rfl⟩
      · skip
        repeat' (first
          | apply w_seq
          | apply w_region
          | apply o_end
          | apply t_normal
          | (apply o_add; exact kc0; exact kc2; rfl; exact kc2; rfl; exact ke2)
          | (apply o_val; exact kc0; exact kc2)
          | (apply o_lit; exact kc0; exact kc1; (focus (simp; done)); exact kd7)
          | (apply o_amid fine 1; exact kc0; exact kc1; exact c1; (focus (simp [rn, rnL]; done)); rfl; rfl; rfl; exact kd4; (focus (simp only [rowH, rqH, List.take_succ_cons, List.take_zero, List.cons_append, List.nil_append]; rfl)))
          | (apply o_amid fine 1; exact kc0; exact kc1; exact c2; (focus (simp [rn, rnL]; done)); rfl; rfl; rfl; exact kd4; (focus (simp only [rowH, rqH, List.take_succ_cons, List.take_zero, List.cons_append, List.nil_append]; rfl)))
          | (apply o_amid fine 1; exact kc0; exact kc1; exact c3; (focus (simp [rn, rnL]; done)); rfl; rfl; rfl; exact kd4; (focus (simp only [rowH, rqH, List.take_succ_cons, List.take_zero, List.cons_append, List.nil_append]; rfl)))
          | (apply o_amid fine 1; exact kc0; exact kc1; exact c4; (focus (simp [rn, rnL]; done)); rfl; rfl; rfl; exact kd4; (focus (simp only [rowH, rqH, List.take_succ_cons, List.take_zero, List.cons_append, List.nil_append]; rfl)))
          | (apply o_amid fine 1; exact kc0; exact kc1; exact c5; (focus (simp [rn, rnL]; done)); rfl; rfl; rfl; exact kd4; (focus (simp only [rowH, rqH, List.take_succ_cons, List.take_zero, List.cons_append, List.nil_append]; rfl)))
          | (apply o_amid fine 1; exact kc0; exact kc1; exact c6; (focus (simp [rn, rnL]; done)); rfl; rfl; rfl; exact kd4; (focus (simp only [rowH, rqH, List.take_succ_cons, List.take_zero, List.cons_append, List.nil_append]; rfl)))
          | (apply o_amid fine 1; exact kc0; exact kc1; exact c7; (focus (simp [rn, rnL]; done)); rfl; rfl; rfl; exact kd4; (focus (simp only [rowH, rqH, List.take_succ_cons, List.take_zero, List.cons_append, List.nil_append]; rfl)))
          | (apply o_amid fine 1; exact kc0; exact kc1; exact c8; (focus (simp [rn, rnL]; done)); rfl; rfl; rfl; exact kd4; (focus (simp only [rowH, rqH, List.take_succ_cons, List.take_zero, List.cons_append, List.nil_append]; rfl)))
          | (apply o_mem; exact kc0; rfl; exact kc1)
          | apply w_skip
          | apply w_block
          | apply b_normal
          | (apply w_true; exact kc3)
          | fail)
        exact ⟨k, by omega, k, i + 1, r2, [x], .slice 4 0 1 1, [.cells 0 8 false [rqC x], .cells 1 8 false [rqC x]], rfl, by omega, by simp, hlen, by simpa using hrow, rfl, .inr ⟨by simp, rfl, _, [], rfl⟩, by simp [*], by simp [*], by simp [*], by simp [*], by simp [*], by simp [*]⟩
      · skip
        repeat' (first
          | apply w_seq
          | apply w_region
          | apply o_end
          | apply t_normal
          | (apply o_add; exact kc0; exact kc2; rfl; exact kc2; rfl; exact ke2)
          | (apply o_val; exact kc0; exact kc2)
          | (apply o_lit; exact kc0; exact kc1; (focus (simp; done)); exact kd7)
          | (apply o_amid fine 1; exact kc0; exact kc1; exact c1; (focus (simp [rn, rnL]; done)); rfl; rfl; rfl; exact kd4; (focus (simp only [rowH, rqH, List.take_succ_cons, List.take_zero, List.cons_append, List.nil_append]; rfl)))
          | (apply o_amid fine 1; exact kc0; exact kc1; exact c2; (focus (simp [rn, rnL]; done)); rfl; rfl; rfl; exact kd4; (focus (simp only [rowH, rqH, List.take_succ_cons, List.take_zero, List.cons_append, List.nil_append]; rfl)))
          | (apply o_amid fine 1; exact kc0; exact kc1; exact c3; (focus (simp [rn, rnL]; done)); rfl; rfl; rfl; exact kd4; (focus (simp only [rowH, rqH, List.take_succ_cons, List.take_zero, List.cons_append, List.nil_append]; rfl)))
          | (apply o_amid fine 1; exact kc0; exact kc1; exact c4; (focus (simp [rn, rnL]; done)); rfl; rfl; rfl; exact kd4; (focus (simp only [rowH, rqH, List.take_succ_cons, List.take_zero, List.cons_append, List.nil_append]; rfl)))
          | (apply o_amid fine 1; exact kc0; exact kc1; exact c5; (focus (simp [rn, rnL]; done)); rfl; rfl; rfl; exact kd4; (focus (simp only [rowH, rqH, List.take_succ_cons, List.take_zero, List.cons_append, List.nil_append]; rfl)))
          | (apply o_amid fine 1; exact kc0; exact kc1; exact c6; (focus (simp [rn, rnL]; done)); rfl; rfl; rfl; exact kd4; (focus (simp only [rowH, rqH, List.take_succ_cons, List.take_zero, List.cons_append, List.nil_append]; rfl)))
          | (apply o_amid fine 1; exact kc0; exact kc1; exact c7; (focus (simp [rn, rnL]; done)); rfl; rfl; rfl; exact kd4; (focus (simp only [rowH, rqH, List.take_succ_cons, List.take_zero, List.cons_append, List.nil_append]; rfl)))
          | (apply o_amid fine 1; exact kc0; exact kc1; exact c8; (focus (simp [rn, rnL]; done)); rfl; rfl; rfl; exact kd4; (focus (simp only [rowH, rqH, List.take_succ_cons, List.take_zero, List.cons_append, List.nil_append]; rfl)))
          | (apply o_mem; exact kc0; rfl; exact kc1)
          | apply w_skip
          | apply w_block
          | apply b_normal
          | (apply w_true; exact kc3)
          | fail)
        exact ⟨k, by omega, k, i + 1, r2, out ++ [x], .slice 4 0 (out.length + 1) (out.length + 1), X :: .cells (out.length + 1) 8 false (out.map rqC ++ [rqC x]) :: (K ++ [.cells 0 8 false [rqC x]]), rfl, by omega, by simp; omega, hlen, by simpa using hrow, rfl, .inr ⟨by simp, by simp, X, K ++ [.cells 0 8 false [rqC x]], by simp⟩, by simp [*], by simp [*], by simp [*], by simp [*], by simp [*], by simp [*]⟩
end Go.Proofs.Ytejpgmemohchaaa.Vm
