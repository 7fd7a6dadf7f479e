/- Own texts, packed. -/
import Derived.Test.YtknkkfdkcemolaaVmZe
import Derived.ProofKit
import Derived.Shelf.Strings.Builder1
import Derived.Test.YtknkkfdkcemolaaVmY
import Derived.Test.YtknkkfdkcemolaaVmT
import Derived.Test.YtknkkfdkcemolaaPkeac86b
section
/- Walks: a description is read. -/
set_option linter.unusedSimpArgs false
set_option linter.unusedVariables false
set_option maxRecDepth 100000
set_option maxHeartbeats 4000000
namespace Go.Proofs.Ytknkkfdkcemolaa.Vm
open Go
variable {m : Int}
attribute [local irreducible] wpD opsD thenD blockD planD planA LoopD
attribute [local simp] List.take_of_length_le List.drop_of_length_le bne mvD itemsL_flat

theorem depth_nil : Ans (L m) 32 [.nilptr] (.int .i64 0) := by
  refine fn_of_body L_ok (fn := Try.f32) rfl rfl rfl rfl (by kernel_rfl) ?_
  repeat' (first
    | apply w_seq
    | apply w_region
    | apply o_end
    | apply t_normal
    | (apply o_val; exact kc0; exact kc2)
    | apply w_ret
    | apply t_ret
    | (apply w_true; exact kc3)
    | fail)
  · apply f_retf
    · simp [*]; rfl
    · simp
    · rfl
theorem depthO_ok (o : Option Tree) (hd : depthO o < 1000000) : Ans (L m) 32 [formO o] (.int .i64 (depthO o)) := by
  cases o with
  | none => exact depth_nil
  | some t => exact depth_ok t hd
theorem deep_yes {l : List ItemT} {i : Nat} (hi : i < l.length) (h : 16 < depthO (l[i]).form) : deepL l = true := by
  unfold deepL
  rw [List.any_eq_true]
  exact ⟨_, List.getElem_mem hi, by simpa using h⟩
theorem deep_no {l : List ItemT} {i : Nat} (hi : l.length ≤ i) (h : deepL (l.take i) = false) : deepL l = false := by
  rwa [List.take_of_length_le hi] at h
theorem deep_more {l : List ItemT} {i : Nat} (hi : i < l.length) (h : deepL (l.take i) = false) (hd : depthO (l[i]).form ≤ 16) : deepL (l.take (i + 1)) = false := by
  unfold deepL at h ⊢
  rw [List.take_succ_eq_append_getElem hi, List.any_append, h]
  simp
  omega
theorem read_toks (s : List UInt8) (hs : s.length < 1000000) (h : (toks s).2.1 ≠ 0) : Ans (L m) 17 [.str s] (.tuple [.nilsl, wrD (toks s).2.1 (toks s).2.2]) := by
  refine fn_of_body L_ok (fn := Try.f17) rfl rfl rfl rfl (by kernel_rfl) ?_
  have a1 := Tokens_ok (m := m) s hs
  generalize toks s = x at a1 h
  obtain ⟨ts, c, a⟩ := x
  simp only at h
  have hb : ((c : Int) == 0) = false := by simp; omega
  simp only [toksD] at a1
  repeat' (first
    | apply w_seq
    | apply w_region
    | apply o_end
    | apply t_normal
    | (apply o_val; exact kc0; exact kc2)
    | (apply o_fn fine; exact kc0; exact kc1; exact a1; exact kc3)
    | (apply o_mem; exact kc0; rfl; exact kc1)
    | apply w_ret
    | apply t_ret
    | (apply w_true; exact kc3)
    | (apply w_drawN; rfl; exact ke3; exact kc4)
    | (apply a_end; exact kc4)
    | (apply a_val; exact kc4; exact kc5; exact kd9; exact kc6)
    | (apply a_tie; exact kc4; exact kc5; exact ke0; exact kc7; exact kc6; exact kc4)
    | (apply a_mem; exact kc4; exact kc5; exact ke1; exact kd8; exact kc7; exact kc6; exact kc4)
    | fail)
  · apply f_retf
    · simp [*]; rfl
    · simp
    · rfl
theorem read_items (s : List UInt8) (hs : s.length < 1000000) (h : (toks s).2.1 = 0) : Ans (L m) 17 [.str s] (.tuple [itemsL (readP s).1, wrD (readP s).2.1 (readP s).2.2]) := by
  refine fn_of_body L_ok (fn := Try.f17) rfl rfl rfl rfl (by kernel_rfl) ?_
  have hall := toks_all s
  have a1 := Tokens_ok (m := m) s hs
  unfold readP
  generalize toks s = x at a1 h hall ⊢
  obtain ⟨ts, c, a⟩ := x
  simp only at h hall
  subst h
  simp only [toksD] at a1
  have a2 := items_ok (m := m) s.length ts (by omega)
  cases hI : itemsP s.length (ts.length + 1) [] ts with
  | error a =>
    rw [hI] at a2
    simp only [itemsD] at a2
    repeat' (first
      | apply w_seq
      | apply w_region
      | apply o_end
      | apply t_normal
      | (apply o_val; exact kc0; exact kc2)
      | (apply o_fn fine; exact kc0; exact kc1; exact a1; exact kc3)
      | (apply o_amidX fine 2; exact kc0; exact kc1; exact a2; (focus (rintro _ ⟨g, rfl⟩; exact ⟨rfl, by simp [Blk.under]⟩)); (focus (simp [rn, rnL]; done)); rfl; rfl; (focus (simp [under_func, under_agg, under_tuple, *]; done)); (rintro _ ⟨g, rfl⟩; simp only [rowH, List.take_succ_cons, List.take_zero, List.cons_append, List.nil_append]))
      | (apply o_mem; exact kc0; rfl; exact kc1)
      | apply w_skip
      | apply w_ret
      | apply t_ret
      | (apply w_true; exact kc3)
      | (apply w_false; exact kc3)
      | (apply w_drawN; rfl; exact ke3; exact kc4)
      | (apply a_end; exact kc4)
      | (apply a_val; exact kc4; exact kc5; exact kd9; exact kc6)
      | (apply a_tie; exact kc4; exact kc5; exact ke0; exact kc7; exact kc6; exact kc4)
      | (apply a_mem; exact kc4; exact kc5; exact ke1; exact kd8; exact kc7; exact kc6; exact kc4)
      | fail)
    · apply f_retf
      · simp [*]; rfl
      · simp
      · rfl
  | ok l =>
    rw [hI] at a2
    simp only [itemsD] at a2
    have hal := itemsP_all (P := fun t => t.text.length ≤ 8000) (by simp [zeroTok]) hI hall.2 (fun i h => by cases h)
    have hdp : ∀ i, i ∈ l → depthO i.form < 1000000 := fun i hi => by
      have h1 := sizeL_mem hi
      have h2 := hal.2
      simp only [sizeL] at h2
      unfold depthO
      split
      · omega
      · rename_i t ht
        have h3 := depth_size t
        simp only [sizeI, ht] at h1
        omega
    have hlen : l.length ≤ 2000 := by
      have h1 := sizeL_len l
      have h2 := hal.2
      simp only [sizeL] at h2
      omega
    clear hal hI
    simp only [ne_eq, not_true_eq_false, if_false]
    by_cases hne : l = []
    · subst hne
      simp only [itemsL] at a2
      repeat' (first
        | apply w_seq
        | apply w_region
        | apply o_end
        | apply t_normal
        | (apply o_val; exact kc0; exact kc2)
        | (apply o_fn fine; exact kc0; exact kc1; exact a1; exact kc3)
        | (apply o_amidX fine 2; exact kc0; exact kc1; exact a2; (focus (rintro _ ⟨g, rfl⟩; exact ⟨rfl, by simp [Blk.under]⟩)); (focus (simp [rn, rnL]; done)); rfl; rfl; (focus (simp [under_func, under_agg, under_tuple, *]; done)); (rintro _ ⟨g, rfl⟩; simp only [rowH, List.take_succ_cons, List.take_zero, List.cons_append, List.nil_append]))
        | (apply o_mem; exact kc0; rfl; exact kc1)
        | apply w_skip
        | apply w_block
        | (apply w_false; exact kc3)
        | fail)
      apply loop_is
      apply loop_unfold
      repeat' (first
        | apply w_seq
        | apply w_region
        | apply o_end
        | apply t_normal
        | (apply o_val; exact kc0; exact kc2)
        | apply w_ret
        | apply w_exit
        | apply t_exit
        | apply b_here
        | (apply w_false; exact kc3)
        | (apply w_drawN; rfl; exact ke3; exact kc4)
        | (apply a_end; exact kc4)
        | (apply a_val; exact kc4; exact kc5; exact kd9; exact kc6)
        | (apply a_tie; exact kc4; exact kc5; exact ke0; exact kc7; exact kc6; exact kc4)
        | (apply a_mem; exact kc4; exact kc5; exact ke1; exact kd8; exact kc7; exact kc6; exact kc4)
        | fail)
      · apply f_retf
        · simp [*]; rfl
        · simp
        · rfl
    · have hL := itemsL_some hne
      rw [hL] at a2
      repeat' (first
        | apply w_seq
        | apply w_region
        | apply o_end
        | apply t_normal
        | (apply o_val; exact kc0; exact kc2)
        | (apply o_fn fine; exact kc0; exact kc1; exact a1; exact kc3)
        | (apply o_amidX fine 2; exact kc0; exact kc1; exact a2; (focus (rintro _ ⟨g, rfl⟩; exact ⟨rfl, by simp [Blk.under]⟩)); (focus (simp [rn, rnL]; done)); rfl; rfl; (focus (simp [under_func, under_agg, under_tuple, *]; done)); (rintro _ ⟨g, rfl⟩; simp only [rowH, List.take_succ_cons, List.take_zero, List.cons_append, List.nil_append]))
        | (apply o_mem; exact kc0; rfl; exact kc1)
        | apply w_skip
        | apply w_block
        | (apply w_false; exact kc3)
        | fail)
      clear a1 a2
      refine w_loopT (fun n f H => ∃ (i : Nat), i ≤ l.length ∧ n = l.length - i ∧ deepL (l.take i) = false ∧ H = [.cells 0 2 false [[.int .i64 0, .int .i64 0]], .cells 0 2 false [[.int .i64 0, .int .i64 0]], .gone g] ∧ f 3 = .ref 0 0 0 0 ∧ f 5 = .ref 1 0 0 0 ∧ f 7 = .isl 17 (l.map itemC) ∧ f 33 = .isl 17 (l.map itemC) ∧ f 34 = .int .i64 l.length ∧ f 35 = .int .i64 i) l.length ⟨0, by simp, by simp, rfl, by simp, by simp, by simp, by simp, by simp, by simp, by simp⟩ ?_
      rintro n f H ⟨i, hi, rfl, hp, rfl, g3, g5, g7, g33, g34, g35⟩
      repeat' (first
        | apply w_seq
        | apply w_region
        | apply o_end
        | apply t_normal
        | (apply o_add; exact kc0; exact kc2; rfl; exact kc2; rfl; exact ke2)
        | (apply o_val; exact kc0; exact kc2)
        | (apply o_fn fine; exact kc0; exact kc1; (focus (exact depthO_ok _ (hdp _ (List.getElem_mem _)))); exact kc3)
        | (apply o_mem; exact kc0; rfl; exact kc1)
        | apply w_skip
        | apply w_block
        | apply b_normal
        | apply w_ret
        | apply t_ret
        | apply b_ret
        | apply w_exit
        | apply t_exit
        | apply b_here
        | ((apply w_cond; exact kc2; rfl) <;> (intro hc; have hc' := hc; try simp at hc'))
        | (apply w_drawN; rfl; exact ke3; exact kc4)
        | (apply a_end; exact kc4)
        | (apply a_val; exact kc4; exact kc5; exact kd9; exact kc6)
        | (apply a_tie; exact kc4; exact kc5; exact ke0; exact kc7; exact kc6; exact kc4)
        | (apply a_mem; exact kc4; exact kc5; exact ke1; exact kd8; exact kc7; exact kc6; exact kc4)
        | fail)
      · apply f_retf
        · simp [*]; rfl
        · simp
        · rw [deep_yes (by assumption) (by omega)]; rfl
      · refine ⟨l.length - (i + 1), by omega, [.cells 0 2 false [[.int .i64 0, .int .i64 0]], .cells 0 2 false [[.int .i64 0, .int .i64 0]], .gone g], 3, [(3, .ref 0 0 0 0), (5, .ref 1 0 0 0), (7, .isl 17 (l.map itemC)), (33, .isl 17 (l.map itemC)), (34, .int .i64 l.length), (35, .int .i64 ((i + 1 : Nat) : Int))],
          by simp, rfl, by simp, ?_, ?_, i + 1, by omega, rfl, deep_more (by assumption) hp (by omega), rfl, by simp [lookF], by simp [lookF], by simp [lookF], by simp [lookF], by simp [lookF], by simp [lookF]⟩
        · intro b hb
          simp only [List.mem_cons, List.not_mem_nil, or_false] at hb
          rcases hb with rfl | rfl | rfl
          all_goals simp [Blk.under]
        · intro p hp
          simp only [List.mem_cons, List.not_mem_nil, or_false] at hp
          rcases hp with rfl | rfl | rfl | rfl | rfl | rfl
          all_goals exact .inl ⟨by simp [*], by simp⟩
      · apply f_retf
        · simp [*]; rfl
        · simp [itemsL_flat]
        · rw [deep_no (by assumption) hp]; simp [hL]
theorem Read_ok (s : List UInt8) (hs : s.length < 1000000) : Ans (L m) 17 [.str s] (.tuple [itemsL (readP s).1, wrD (readP s).2.1 (readP s).2.2]) := by
  by_cases h : (toks s).2.1 = 0
  · exact read_items s hs h
  · have := read_toks (m := m) s hs h
    unfold readP
    rw [if_pos h]
    exact this
end Go.Proofs.Ytknkkfdkcemolaa.Vm
end
section
/- A strings.Builder's methods, with all that they turn. -/
set_option linter.unusedVariables false
set_option linter.unusedSimpArgs false
namespace Go.Proofs.Ytknkkfdkcemolaa.Vm
open Go Go.RowKit Go.Shelf

set_option maxHeartbeats 1000000 in
set_option maxRecDepth 100000 in
theorem copyCheck_used (b : Nat) (w : World) (h0 : w.cell? ⟨b, 0, none⟩ = some (.pointer (some ⟨b, 0, none⟩))) :
    Calls Try.prog 33 #[.pointer (some ⟨b, 0, none⟩)] w fun e w' => e = .returned (.tuple #[]) ∧ w' = w := by
  obtain ⟨j, hj, _⟩ := Option.map_eq_some_iff.1 Try.Builder_Extra_169.sizeBuilder
  have mixed := Try.lays169.mixed
  have t57 := Try.underlying57; have a57 := Try.isAgg57; have z57 := Try.sizeOf57; have v57 := Try.zeroValue57; have u57 := run_underlying Try.underlying57
  have t55 := Try.underlying55; have a55 := Try.isAgg55; have z55 := Try.sizeOf55; have v55 := Try.zeroValue55; have u55 := run_underlying Try.underlying55
  have t110 := Try.underlying110; have a110 := Try.isAgg110; have z110 := Try.sizeOf110; have v110 := Try.zeroValue110; have u110 := run_underlying Try.underlying110
  go_enter Try.func33, Try.ntmps33
  go_wp2
  rw [Lib.run_neq_ptr_same w _ t55 hj]
  go_wp2
  go_end0
  exact ⟨rfl, rfl⟩

set_option maxHeartbeats 1000000 in
set_option maxRecDepth 100000 in
theorem copyCheck_fresh (b : Nat) (w : World) (h0 : w.cell? ⟨b, 0, none⟩ = some (.pointer none)) (hsh : w.shape? b = some (57, 2)) (hfz : w.frozen? ⟨b, 0, none⟩ = false) :
    Calls Try.prog 33 #[.pointer (some ⟨b, 0, none⟩)] w fun e w' => e = .returned (.tuple #[]) ∧ w' = w.setCell ⟨b, 0, none⟩ (.pointer (some ⟨b, 0, none⟩)) := by
  obtain ⟨j, hj, hjs⟩ := Option.map_eq_some_iff.1 Try.Builder_Extra_169.sizeBuilder
  have mixed := Try.lays169.mixed
  have t57 := Try.underlying57; have a57 := Try.isAgg57; have z57 := Try.sizeOf57; have v57 := Try.zeroValue57; have u57 := run_underlying Try.underlying57
  have t55 := Try.underlying55; have a55 := Try.isAgg55; have z55 := Try.sizeOf55; have v55 := Try.zeroValue55; have u55 := run_underlying Try.underlying55
  have t110 := Try.underlying110; have a110 := Try.isAgg110; have z110 := Try.sizeOf110; have v110 := Try.zeroValue110; have u110 := run_underlying Try.underlying110
  go_enter Try.func33, Try.ntmps33
  go_wp2
  rw [Lib.run_to_unsafe w ⟨b, 0, none⟩ t55 t110 hj (by rw [hjs]; decide) hsh (Nat.zero_lt_succ 1)]
  simp only [Result.andThen]
  rw [Oper.upon_value]
  go_wp2
  rw [run_callFunc_extern Try.func49 (by kernel_rfl) (by kernel_rfl) (by kernel_rfl) (e := Extern.AbiNoEscape.same) (by kernel_rfl)]
  rw [Lib.run_noEscape]
  simp only [Result.andThen]
  rw [Oper.upon_value]
  go_wp2
  rw [Lib.run_from_unsafe w ⟨b, 0, none⟩ t110 t55 hj hsh Try.Builder_Extra_169.liesBuilder]
  simp only [Result.andThen]
  rw [Oper.upon_value]
  go_wp2
  go_end0
  exact ⟨rfl, rfl⟩

/-- Where an append to a builder's bytes lays them: where they lay, or in a new block. -/
theorem append_bld {P : Program} {w : World} (t u ty e : TypeId) (i : TypeInfo) (ht : P.underlying t = some (.slice e)) (hu : P.underlying u = some .string) (hi : P.info? e = some i) (hz : i.zero = some (.int .u8 0))
    (hsize : i.size = 1) (hby : i.bytes = 1) (v : Value) (n : Nat) (xs : List Value) (hown : w.ownsRow 0 e 1 v n xs) (s : ByteArray) (hbytes : n + s.size ≤ 140737488355328) :
    ∃ v' w', (Builtin.append_ #[t, u] ty #[v, .string s]).run P w = .ok v' w' ∧ w'.ownsRow 0 e 1 v' (n + s.size) (xs ++ Lib.strCells s) ∧ w.grownBy w' v.ownBlock ∧
      (v' = .slice none 0 0 ↔ v = .slice none 0 0 ∧ s.size = 0) ∧ ∀ g, v'.ownBlock = some g → v.ownBlock = some g ∨ w.heap.size ≤ g := by
  have h63 : n + s.size ≤ maxLen := by unfold maxLen; omega
  obtain ⟨v', w', hr, h2, h3, h4⟩ := Lib.run_append_own_string (P := P) w 0 t u ty e i ht hu hi hz hsize hby v n xs hown s h63 hbytes (Nat.zero_le _)
  refine ⟨v', w', hr, h2, h3, h4, ?_⟩
  have hxl : xs.length = n := by simpa using hown.1
  rcases hown.2 with ⟨rfl, rfl⟩ | ⟨g, cap, cur, rfl, hbg, hg, hnc, hcm, hcs, htake⟩
  · by_cases hm : s.size = 0
    · rw [h4.2 ⟨rfl, hm⟩]
      intro g hg
      simp [Value.ownBlock] at hg
    · have hr' := run_append_nil_string (P := P) w t u ty e i (.int .u8 0) ht hu hi hz s (by omega) (by omega) (by rw [hby]; omega)
      rw [hr] at hr'
      injection hr' with e1 e2
      subst e1
      intro g hg
      simp only [Value.ownBlock, Option.some.injEq] at hg
      subst hg
      exact .inr (Nat.le_refl _)
  · by_cases hroom : n + s.size ≤ cap
    · have hcs' : cur.size = cap := by simpa using hcs
      have hr' := Lib.run_append_room_string (P := P) w t u ty e i ht hu hi hsize g n cap cur hg s hroom (by omega)
      rw [hr] at hr'
      injection hr' with e1 e2
      subst e1
      exact fun _ h => .inl h
    · have holds : ∀ j u, xs[j]? = some u → w.cell? ((⟨g, 0, none⟩ : Addr).add j) = some u := hown.cells (g := g) rfl
      have hr' := Lib.run_append_grow_string (P := P) w t u ty e i (.int .u8 0) ht hu hi hz ⟨g, 0, none⟩ n cap xs (by rw [hsize]; simpa using hxl) holds s (by omega) (by omega) (by rw [hby]; exact growslice_fits (by omega) (by omega))
      rw [hr] at hr'
      injection hr' with e1 e2
      subst e1
      intro g hg
      simp only [Value.ownBlock, Option.some.injEq] at hg
      subst hg
      exact .inr (Nat.le_refl _)
theorem wpList_append_bld {P : Program} {w : World} {ops : Array Oper} {rest : List Oper} {o : Oper} {a : Act} {Q : Exit → Act → World → Prop} (hgd : o.guard = none) (sl x : Operand) (t u : TypeId)
    (ho : o.op = .call { callee := .builtin .append, args := #[sl, x], argTypes := #[t, u] })
    (e : TypeId) (i : TypeInfo) (ht : P.underlying t = some (.slice e)) (hu : P.underlying u = some .string) (hi : P.info? e = some i) (hz : i.zero = some (.int .u8 0))
    (hsize : i.size = 1) (hby : i.bytes = 1)
    (v : Value) (n : Nat) (xs : List Value) (hs : a.eval sl = v) (hown : w.ownsRow 0 e 1 v n xs) (s : ByteArray) (hx : a.eval x = .string s) (hbytes : n + s.size ≤ 140737488355328)
    (h : ∀ v' w', w'.ownsRow 0 e 1 v' (n + s.size) (xs ++ Lib.strCells s) → w.grownBy w' v.ownBlock → (v' = .slice none 0 0 ↔ v = .slice none 0 0 ∧ s.size = 0) → (∀ g, v'.ownBlock = some g → v.ownBlock = some g ∨ w.heap.size ≤ g) → wpList P ops Q rest (a.put o.dst v') w') : wpList P ops Q (o :: rest) a w := by
  refine wpList_plain hgd fun K hK => ?_
  obtain ⟨v', w', hr, h2, h3, h4, h5⟩ := append_bld (P := P) (w := w) t u o.type e i ht hu hi hz hsize hby v n xs hown s hbytes
  unfold Oper.wp execOp
  simp only [ho, resolve, invoke, builtin, Sem.run_bind, Sem.run_pure, Result.andThen_ok, List.map_toArray, List.map_cons, List.map_nil, hs, hx, hr]
  exact hK _ _ (h v' w' h2 h3 h4 h5)
/-- From w to w' nothing turned but these blocks, and what is new. -/
structure But (w w' : World) (x y : Nat) : Prop where
  os : w'.os = w.os
  tape : w'.tape = w.tape
  output : w'.output = w.output
  size : w.heap.size ≤ w'.heap.size
  block : ∀ k, k < w.heap.size → k ≠ x → k ≠ y → w'.heap[k]? = w.heap[k]?
theorem setCell_heap {w : World} {b o : Nat} {v : Value} {k : Nat} (h : k ≠ b) : (w.setCell ⟨b, o, none⟩ v).heap[k]? = w.heap[k]? := by
  simp [World.setCell, Array.getElem?_modify, Ne.symm h]
theorem copyCheck_run {m : Nat × Nat} {w : World} {p v : Value} (hp : p = Value.pointer none ∨ p = Value.pointer (some ⟨m.1, 0, none⟩)) (hb : w.heap[m.1]? = some (.cells #[p, v] 57 (0, 0))) :
    Calls Try.prog 33 #[.pointer (some ⟨m.1, 0, none⟩)] w fun e w' => e = .returned (.tuple #[]) ∧ w'.heap[m.1]? = some (.cells #[.pointer (some ⟨m.1, 0, none⟩), v] 57 (0, 0)) ∧ w'.heap.size = w.heap.size ∧ But w w' m.1 m.1 := by
  rcases hp with rfl | rfl
  · refine (copyCheck_fresh m.1 w (by rw [Lib.cell_of_heap hb]; rfl) (by simp [World.shape?, hb]) (Lib.frozen_of_heap hb 0)).mono ?_
    rintro e w' ⟨rfl, rfl⟩
    refine ⟨rfl, ?_, by simp [World.setCell], ⟨rfl, rfl, rfl, by simp [World.setCell], fun k _ hk _ => setCell_heap hk⟩⟩
    simp [World.setCell, Array.getElem?_modify, hb]
  · refine (copyCheck_used m.1 w (by rw [Lib.cell_of_heap hb]; rfl)).mono ?_
    rintro e w' ⟨rfl, rfl⟩
    exact ⟨rfl, hb, rfl, ⟨rfl, rfl, rfl, Nat.le_refl _, fun _ _ _ _ => rfl⟩⟩

set_option maxHeartbeats 4000000 in
set_option maxRecDepth 100000 in
theorem writeString_run {m : Nat × Nat} {w : World} {l : List UInt8} (s : ByteArray) (h : BldOk w m 57 5 l) (hlen : l.length + s.size ≤ 140737488355328) :
    Calls Try.prog 18 #[.pointer (some ⟨m.1, 0, none⟩), .string s] w fun e w' => e = .returned (.tuple #[.int .i64 s.size, .nilIface]) ∧
      ∃ m2, BldOk w' (m.1, m2) 57 5 (l ++ s.data.toList) ∧ (m2 = m.1 ∨ m2 = m.2 ∨ w.heap.size ≤ m2) ∧ But w w' m.1 m.2 := by
  obtain ⟨p, v, hp, hb, hown, hne, hm2, hz0⟩ := h
  have hlt := (Array.getElem?_eq_some_iff.1 hb).1
  obtain ⟨i0, hi, hz, hz1, hz2⟩ := info_parts Try.Builder_Extra_169.infoByte
  have mixed := Try.lays169.mixed
  have t57 := Try.underlying57; have a57 := Try.isAgg57; have z57 := Try.sizeOf57; have v57 := Try.zeroValue57; have u57 := run_underlying Try.underlying57
  have t55 := Try.underlying55; have a55 := Try.isAgg55; have z55 := Try.sizeOf55; have v55 := Try.zeroValue55; have u55 := run_underlying Try.underlying55
  have t47 := Try.underlying47; have a47 := Try.isAgg47; have z47 := Try.sizeOf47; have v47 := Try.zeroValue47; have u47 := run_underlying Try.underlying47
  have t3 := Try.underlying3; have a3 := Try.isAgg3; have z3 := Try.sizeOf3; have v3 := Try.zeroValue3; have u3 := run_underlying Try.underlying3
  have t9 := Try.underlying9; have a9 := Try.isAgg9; have z9 := Try.sizeOf9; have v9 := Try.zeroValue9; have u9 := run_underlying Try.underlying9
  have t5 := Try.underlying5; have a5 := Try.isAgg5; have z5 := Try.sizeOf5; have v5 := Try.zeroValue5; have u5 := run_underlying Try.underlying5
  have ecc : ∀ args w, (callFunc 33 args).run Try.prog w = .ok (.enter 33 args) w := enters_of Try.func33 (by kernel_rfl) rfl
  go_enter Try.func18, Try.ntmps18
  go_wp2_with (go_at_fn 33; refine (copyCheck_run (m := m) hp hb).mono ?_)
  rintro e w1 ⟨rfl, hbk, hs1, hbut⟩
  have hown1 : w1.ownsRow 0 5 1 v l.length (Lib.byteCells l) := by
    refine ⟨hown.1, ?_⟩
    rcases hown.2 with h8 | ⟨g, cap, cur, rfl, hbg, hg, rest⟩
    · exact .inl h8
    · refine .inr ⟨g, cap, cur, rfl, hbg, ?_, rest⟩
      have hgm : g ≠ m.1 := fun he => hne (by simp [Value.ownBlock, he])
      rw [hbut.block g (Array.getElem?_eq_some_iff.1 hg).1 hgm hgm]
      exact hg
  have c0 : w1.cell? ⟨m.1, 0, none⟩ = some (.pointer (some ⟨m.1, 0, none⟩)) := by rw [Lib.cell_of_heap hbk]; rfl
  have c1 : w1.cell? ⟨m.1, 1, none⟩ = some v := by rw [Lib.cell_of_heap hbk]; rfl
  go_wp2_with (at_builtin; refine wpList_append_bld rfl _ _ 47 9 rfl 5 i0 t47 t9 hi hz hz1 hz2 _ _ _ rfl hown1 s rfl hlen ?_)
  intro v' w2 hown' hgrow hnil hplace
  have hb2 : w2.heap[m.1]? = some (.cells #[.pointer (some ⟨m.1, 0, none⟩), v] 57 (0, 0)) := by
    rw [hgrow.block m.1 (by omega) (fun e => hne e.symm)]
    exact hbk
  have d0 : w2.cell? ⟨m.1, 0, none⟩ = some (.pointer (some ⟨m.1, 0, none⟩)) := by rw [Lib.cell_of_heap hb2]; rfl
  have d1 : w2.cell? ⟨m.1, 1, none⟩ = some v := by rw [Lib.cell_of_heap hb2]; rfl
  have f1 : w2.frozen? ⟨m.1, 1, none⟩ = false := Lib.frozen_of_heap hb2 1
  obtain ⟨ao, n', cap, rfl⟩ : ∃ ao n' cap, v' = .slice ao n' cap := by
    rcases hown'.2 with ⟨hv, _⟩ | ⟨g, cap, cur, hv, _⟩
    · exact ⟨_, _, _, hv⟩
    · exact ⟨_, _, _, hv⟩
  go_wp2
  go_ret2
  have hlt1 : m.1 < w1.heap.size := by omega
  have hown2 : w2.ownsRow 0 5 1 (.slice ao n' cap) (l ++ s.data.toList).length (Lib.byteCells (l ++ s.data.toList)) := by
    rw [Lib.byteCells_append, ← Lib.strCells_eq]
    simpa using hown'
  have hne2 : (Value.slice ao n' cap).ownBlock ≠ some m.1 := Lib.ownBlock_ne hown2 hb2 (by decide)
  refine ⟨rfl, ((Value.slice ao n' cap).ownBlock).getD m.1, ⟨_, _, .inr rfl, ?_, ?_, hne2, ?_, ?_⟩, ?_, ?_⟩
  · simp [World.setCell, Array.getElem?_modify, hb2]
  · exact hown2.kept (row := some m.1) ⟨rfl, rfl, rfl, by simp [World.setCell], fun k _ hk => setCell_heap (fun e => hk (by rw [e]))⟩ (.inr hne2)
  · cases hq : (Value.slice ao n' cap).ownBlock with
    | none => exact .inr ⟨rfl, rfl⟩
    | some g => exact .inl rfl
  · intro h0
    have h1 : l = [] ∧ s.data.toList = [] := List.append_eq_nil_iff.1 h0
    refine hnil.2 ⟨hz0 h1.1, ?_⟩
    have := congrArg List.length h1.2
    simpa using this
  · cases hq : (Value.slice ao n' cap).ownBlock with
    | none => exact .inl rfl
    | some g =>
      rcases hplace g hq with h1 | h1
      · rcases hm2 with h2 | ⟨h2, _⟩
        · rw [h2] at h1
          obtain rfl := Option.some.inj h1
          exact .inr (.inl rfl)
        · rw [h2] at h1
          cases h1
      · exact .inr (.inr (by simpa using (by omega : w.heap.size ≤ g)))
  · refine ⟨hgrow.os.trans hbut.os, hgrow.tape.trans hbut.tape, hgrow.output.trans hbut.output, by have := hgrow.size; simp [World.setCell]; omega, fun k hk h1 h2 => ?_⟩
    rw [setCell_heap h1, hgrow.block k (by omega) (fun he => ?_), hbut.block k hk h1 h1]
    rcases hm2 with h3 | ⟨h3, _⟩
    · rw [h3] at he
      exact h2 (Option.some.inj he)
    · rw [h3] at he
      cases he
end Go.Proofs.Ytknkkfdkcemolaa.Vm
end
section
/- A strings.Builder's methods as contracts: it is a place of the small heap that holds bytes. -/
set_option linter.unusedVariables false
set_option linter.unusedSimpArgs false
namespace Go.Proofs.Ytknkkfdkcemolaa.Vm
open Go Go.RowKit Go.Shelf
variable {mx : Int}

set_option maxHeartbeats 2000000 in
set_option maxRecDepth 100000 in
theorem string_run {m : Nat × Nat} {w : World} {l : List UInt8} (h : BldOk w m 57 5 l) :
    Calls Try.prog 23 #[.pointer (some ⟨m.1, 0, none⟩)] w fun e w' => e = .returned (.string ⟨l.toArray⟩) ∧ But w w' m.1 m.2 := by
  obtain ⟨p, v, hp, hb, hown, hne, hm2, hz0⟩ := h
  have mixed := Try.lays169.mixed
  have t57 := Try.underlying57; have a57 := Try.isAgg57; have z57 := Try.sizeOf57; have v57 := Try.zeroValue57; have u57 := run_underlying Try.underlying57
  have t55 := Try.underlying55; have a55 := Try.isAgg55; have z55 := Try.sizeOf55; have v55 := Try.zeroValue55; have u55 := run_underlying Try.underlying55
  have t47 := Try.underlying47; have a47 := Try.isAgg47; have z47 := Try.sizeOf47; have v47 := Try.zeroValue47; have u47 := run_underlying Try.underlying47
  have t94 := Try.underlying94; have a94 := Try.isAgg94; have z94 := Try.sizeOf94; have v94 := Try.zeroValue94; have u94 := run_underlying Try.underlying94
  have t3 := Try.underlying3; have a3 := Try.isAgg3; have z3 := Try.sizeOf3; have v3 := Try.zeroValue3; have u3 := run_underlying Try.underlying3
  have t9 := Try.underlying9; have a9 := Try.isAgg9; have z9 := Try.sizeOf9; have v9 := Try.zeroValue9; have u9 := run_underlying Try.underlying9
  have t5 := Try.underlying5; have a5 := Try.isAgg5; have z5 := Try.sizeOf5; have v5 := Try.zeroValue5; have u5 := run_underlying Try.underlying5
  by_cases h0 : l = []
  · obtain rfl := hz0 h0
    subst h0
    have hUS : ∀ (W : World) (q : Option Addr), (Builtin.unsafeString_ #[94, 3] 9 #[.pointer q, .int .i64 0]).run Try.prog W = .ok (.string .empty) W := fun W q => Lib.run_unsafeString_none W _ _ _ q
    have c1 : w.drew.cell? ⟨m.1, 1, none⟩ = some (.slice none 0 0) := by
      have : w.drew.heap[m.1]? = some (.cells #[p, .slice none 0 0] 57 (0, 0)) := hb
      rw [Lib.cell_of_heap this]; rfl
    have hSD : (Builtin.unsafeSliceData_ #[47] 94 #[.slice none 0 0]).run Try.prog w.drew = .ok (.pointer none) w.drew := rfl
    clear hp hne hm2 hown
    go_enter Try.func23, Try.ntmps23
    go_wp2
    go_region_o
    all_goals (go_wp2; go_ret; exact ⟨rfl, ⟨rfl, rfl, rfl, Nat.le_refl _, fun _ _ _ _ => rfl⟩⟩)
  · have hl0 : l.length ≠ 0 := by simpa using h0
    obtain ⟨g, cap, cur, rfl, hbg, hg, hnc, hcm, hcs, htake⟩ : ∃ g cap cur, v = .slice (some ⟨g, 0, none⟩) l.length cap ∧ 0 ≤ g ∧ w.heap[g]? = some (.cells cur 5 (0, 0)) ∧ l.length ≤ cap ∧ cap ≤ maxLen ∧ cur.size = cap * 1 ∧ cur.toList.take (l.length * 1) = Lib.byteCells l := by
      rcases hown.2 with ⟨_, hz⟩ | ⟨g, cap, cur, hv, r⟩
      · exact absurd hz hl0
      · exact ⟨g, cap, cur, hv, r⟩
    have hgm : g = m.2 := by
      rcases hm2 with h1 | ⟨h1, _⟩
      · simpa [Value.ownBlock] using h1
      · simp [Value.ownBlock] at h1
    have c1 : w.drew.cell? ⟨m.1, 1, none⟩ = some (.slice (some ⟨g, 0, none⟩) l.length cap) := by
      have : w.drew.heap[m.1]? = some (.cells #[p, .slice (some ⟨g, 0, none⟩) l.length cap] 57 (0, 0)) := hb
      rw [Lib.cell_of_heap this]; rfl
    have hSD : (Builtin.unsafeSliceData_ #[47] 94 #[.slice (some ⟨g, 0, none⟩) l.length cap]).run Try.prog w.drew = .ok (.pointer (some ⟨g, 0, none⟩)) w.drew :=
      Lib.run_unsafeSliceData_row _ _ _ _ _ _ (by omega)
    have hUS : (Builtin.unsafeString_ #[94, 3] 9 #[.pointer (some ⟨g, 0, none⟩), .int .i64 l.length]).run Try.prog w.drew = .ok (.string ⟨l.toArray⟩) (w.drew.freeze ⟨g, 0, none⟩ l.length) := by
      refine Lib.run_unsafeString_row w.drew 94 3 9 5 t94 (by kernel_rfl) g cur.size (by have hg' : w.drew.heap[g]? = some (.cells cur 5 (0, 0)) := hg; simp [World.shape?, hg']) l h0 (by omega) (by unfold maxLen at hcm; omega) ?_
      intro j x hx
      have := hown.cells (g := g) rfl j (.int .u8 x.toNat) (by simp [Lib.byteCells, hx])
      exact this
    clear hp hne hm2
    have hfr : But w (w.drew.freeze ⟨g, 0, none⟩ l.length) m.1 m.2 := by
      have h1 := Lib.below_freeze (Below.drew (Below.refl g w)) (p := ⟨g, 0, none⟩) (Nat.le_refl g) l.length
      refine ⟨h1.os, h1.tape, h1.output, h1.size, fun k hk _ hk2 => ?_⟩
      unfold World.freeze
      split
      · rfl
      · simp only [Array.getElem?_modify]
        rw [if_neg (by rw [hgm]; exact Ne.symm hk2)]
        rfl
    clear hgm
    go_enter Try.func23, Try.ntmps23
    go_wp2
    go_region_o
    all_goals (go_wp2; go_ret; exact ⟨rfl, hfr⟩)

/-- A place that holds a strings.Builder with these bytes. -/
abbrev bld (l : List UInt8) : Blk := .map 0 false [(.int .i64 1, .tuple [.int .i64 57, .int .i64 5, .str l])]
theorem bld_ok {c : Cx} (inv : Inv c) {r : Nat} {l : List UInt8} (h : c.hp[r]? = some (bld l)) : BldOk c.w (c.mu r) 57 5 l := (inv.blk r _ h).1
theorem put_bld {c : Cx} (inv : Inv c) {r : Nat} {l l' : List UInt8} (h : c.hp[r]? = some (bld l)) {w' : World} {m2 : Nat} (hb : BldOk w' ((c.mu r).1, m2) 57 5 l')
    (hm : m2 = (c.mu r).1 ∨ m2 = (c.mu r).2 ∨ c.w.heap.size ≤ m2) (hbut : But c.w w' (c.mu r).1 (c.mu r).2) : Inv (c.put r (bld l') ((c.mu r).1, m2) w') ∧ Le c (c.put r (bld l') ((c.mu r).1, m2) w') := by
  refine put_ok inv h rfl hbut.os hbut.tape hbut.output hbut.size (fun b hb hne => hbut.block b hb (fun he => hne rfl (.inl he.symm)) (fun he => hne rfl (.inr he.symm))) (fun b _ hat => ?_) (Nat.le_refl _) ⟨fun g sz ro xs he => (by cases he), fun g ro es he _ => ?_⟩ (fun le => ?_)
  · rcases hat with hat | hat
    · exact .inl ⟨rfl, .inl hat⟩
    · have hat' : m2 = b := hat
      subst hat'
      rcases hm with h1 | h1 | h1
      · exact .inl ⟨rfl, .inl h1.symm⟩
      · exact .inl ⟨rfl, .inr h1.symm⟩
      · exact .inr h1
  · cases he
    exact ⟨_, _, rfl, rfl, rfl⟩
  · have h0 := (inv.blk r _ h).2.2 rfl
    refine ⟨?_, (fun h => nomatch h), fun _ => ?_⟩
    · simp only [Cx.put, upd_same]
      exact hb
    · simp only [Cx.put, upd_same]
      refine ⟨h0.1, fun hi => ?_⟩
      rcases hm with h1 | h1 | h1
      · exact h0.1 (h1 ▸ hi)
      · exact h0.2 (h1 ▸ hi)
      · exact absurd (inv.imlt _ hi) (by omega)
theorem writeString_ok (l s : List UInt8) (h : l.length + s.length ≤ 140737488355328) :
    CallsV (L mx) 18 [.map 0 0, .str s] [bld l] (Turns (.tuple [.int .i64 s.length, .niliface]) [bld (l ++ s)]) := by
  refine ⟨⟨_, Try.func18, rfl, by kernel_rfl⟩, fun c vs inv hc hg hsz hargs => ?_⟩
  have hget : c.hp[0]? = some (bld l) := by rw [hc]; rfl
  obtain ⟨t, ht, rfl⟩ := rep_str (hargs 1 _ rfl)
  have h0 : vs.getD 0 undef = .pointer (some ⟨(c.mu 0).1, 0, none⟩) := by
    have := hargs 0 _ rfl
    generalize vs.getD 0 undef = q at this ⊢
    cases this with
    | map _ _ _ _ _ hv => exact hv _ _ hget
  rw [args_two hsz, h0, ht]
  refine (writeString_run t (bld_ok inv hget) (by simpa using h)).mono fun e w' ⟨he, m2, h1, h2, h3⟩ => ?_
  obtain ⟨i1, l1⟩ := put_bld inv hget h1 h2 h3
  refine ⟨.ret _, _, ⟨rfl, ?_⟩, rfl, i1, l1, ?_⟩
  · simp only [Cx.put, hc]
    rfl
  · subst he
    refine .tuple _ _ rfl fun i d hd => ?_
    match i, hd with
    | 0, hd => obtain rfl := Option.some.inj hd; simpa using Rep.int IntKind.i64 (t.size : Int)
    | 1, hd => obtain rfl := Option.some.inj hd; exact .niliface
theorem string_ok (l : List UInt8) : CallsV (L mx) 23 [.map 0 0] [bld l] (Turns (.str l) [.gone 1]) := by
  refine ⟨⟨_, Try.func23, rfl, by kernel_rfl⟩, fun c vs inv hc hg hsz hargs => ?_⟩
  have hget : c.hp[0]? = some (bld l) := by rw [hc]; rfl
  have h0 : vs.getD 0 undef = .pointer (some ⟨(c.mu 0).1, 0, none⟩) := by
    have := hargs 0 _ rfl
    generalize vs.getD 0 undef = q at this ⊢
    cases this with
    | map _ _ _ _ _ hv => exact hv _ _ hget
  rw [args_one hsz, h0]
  refine (string_run (bld_ok inv hget)).mono fun e w' ⟨he, hbut⟩ => ?_
  obtain ⟨i1, l1⟩ := put_ok inv (k' := .gone 1) (m := c.mu 0) hget rfl hbut.os hbut.tape hbut.output hbut.size (fun b hb hne => hbut.block b hb (fun he => hne rfl (.inl he.symm)) (fun he => hne rfl (.inr he.symm))) (fun b ha _ => by cases ha) (Nat.le_refl _)
    ⟨fun g sz ro xs he => (by cases he), fun g ro es he => (by cases he)⟩ (fun _ => trivial)
  refine ⟨.ret _, _, ⟨rfl, ?_⟩, rfl, i1, l1, ?_⟩
  · simp only [Cx.put, hc]
    rfl
  · subst he
    exact .str _ _ rfl
end Go.Proofs.Ytknkkfdkcemolaa.Vm
end
section
/- Walks: how parts of a description are shown. -/
set_option linter.unusedSimpArgs false
set_option linter.unusedVariables false
set_option maxRecDepth 100000
set_option maxHeartbeats 4000000
namespace Go.Proofs.Ytknkkfdkcemolaa.Vm
open Go
variable {m : Int}
attribute [local irreducible] wpD opsD thenD blockD planD planA LoopD
attribute [local simp] List.take_of_length_le List.drop_of_length_le bne mvD

theorem Quoted_ok (t : Tok) (ht : t.text.length ≤ 8000) : Ans (L m) 35 [.agg (encT t)] (.str (quotS t)) := by
  refine fn_of_body L_ok (fn := Try.f35) rfl rfl rfl rfl (by kernel_rfl) ?_
  obtain ⟨k, a, x⟩ := t
  simp only at ht
  by_cases hk : k = 3
  · subst hk
    repeat' (first
      | apply w_seq
      | apply w_region
      | apply o_end
      | apply t_normal
      | (apply o_cat; exact kc0; exact kc2; rfl; exact kc2; rfl; exact ke5; exact ke6)
      | (apply o_val; exact kc0; exact kc2)
      | (apply o_mem; exact kc0; rfl; exact kc1)
      | apply w_ret
      | apply t_ret
      | (apply w_true; exact kc3)
      | fail)
    · apply f_retf
      · simp [*]; rfl
      · simp
      · rfl
  · have hb : ((k : Int) == 3) = false := by simp; omega
    repeat' (first
      | apply w_seq
      | apply w_region
      | apply o_end
      | apply t_normal
      | (apply o_val; exact kc0; exact kc2)
      | (apply o_mem; exact kc0; rfl; exact kc1)
      | apply w_skip
      | apply w_ret
      | (apply w_false; exact kc3)
      | fail)
    · apply f_retf
      · simp [*]; rfl
      · simp
      · simp [quotS, hk]
theorem Show_ok (t : AttrT) (h1 : t.word.text.length ≤ 8000) (h2 : t.arg.text.length ≤ 8000) : Ans (L m) 21 [.agg (encA t)] (.str (attrS t)) := by
  refine fn_of_body L_ok (fn := Try.f21) rfl rfl rfl rfl (by kernel_rfl) ?_
  obtain ⟨w, g⟩ := t
  simp only at h1 h2
  have hq := Quoted_ok (m := m) g h2
  have hl := quotS_len h2
  by_cases hk : g.kind = 0
  · have hb : ((g.kind : Int) == 0) = true := by simp [hk]
    repeat' (first
      | apply w_seq
      | apply w_region
      | apply o_end
      | apply t_normal
      | (apply o_val; exact kc0; exact kc2)
      | (apply o_mem; exact kc0; rfl; exact kc1)
      | apply w_ret
      | apply t_ret
      | (apply w_true; exact kc3)
      | fail)
    · apply f_retf
      · simp [*]; rfl
      · simp
      · simp [attrS, hk]
  · have hb : ((g.kind : Int) == 0) = false := by simp; omega
    have hc1 : w.text.length ≤ 9223372036854775806 := by omega
    have hc2 : w.text.length + 1 + (quotS g).length ≤ 9223372036854775807 := by omega
    repeat' (first
      | apply w_seq
      | apply w_region
      | apply o_end
      | apply t_normal
      | (apply o_val; exact kc0; exact kc2)
      | (apply o_mem; exact kc0; rfl; exact kc1)
      | apply w_skip
      | apply w_ret
      | (apply w_false; exact kc3)
      | (apply w_drawA; rfl; exact ke3; exact kc4; exact kc4)
      | (apply a_end; exact kc4)
      | (apply a_val; exact kc4; exact kc5; exact kd9; exact kc6)
      | (apply a_fn fine; exact kc4; exact kc5; exact kd8; exact hq; exact kc3; exact kc6)
      | (apply a_tie; exact kc4; exact kc5; exact ke0; exact kc7; exact kc6; exact kc4)
      | fail)
    · apply f_retf
      · simp [*]; rfl
      · simp
      · simp [attrS, hk]
abbrev textsD (l : List (List UInt8)) : D := .isl 1 (l.map fun x => [.str x])
theorem Words_ok (i : ItemT) (h : allI (fun t => t.text.length ≤ 8000) i) : Ans (L m) 20 [itemD i] (textsD (wordsS i)) := by
  refine fn_of_body L_ok (fn := Try.f20) rfl rfl rfl rfl (by kernel_rfl) ?_
  have hq := Quoted_ok (m := m) i.text h.2.2.2.2.1
  clear h
  unfold wordsS
  obtain ⟨⟨wk, wa, wt⟩, n, o, c, x, al, fo⟩ := i
  simp only at hq ⊢
  by_cases h1 : wt = [111, 114, 105, 103, 105, 110]
  · subst h1
    rw [if_pos rfl]
    repeat' (first
      | apply w_seq
      | apply w_region
      | apply o_end
      | apply t_normal
      | (apply o_val; exact kc0; exact kc2)
      | (apply o_frz; exact kc0; rfl; exact kc1; (focus (simp; done)); exact kd7)
      | apply w_block
      | apply w_ret
      | apply t_ret
      | apply b_ret
      | (apply w_true; exact kc3)
      | (apply w_drawA; rfl; exact ke3; exact kc4; exact kc4)
      | (apply a_end; exact kc4)
      | (apply a_val; exact kc4; exact kc5; exact kd9; exact kc6)
      | (apply a_fn fine; exact kc4; exact kc5; exact kd8; exact hq; exact kc3; exact kc6)
      | (apply a_frz; exact kc4; exact kc5; exact ke1; exact ke9; exact kc6)
      | fail)
    · apply f_retf
      · simp [*]; rfl
      · simp
      · rfl
  rw [if_neg h1]
  have b1 : (wt == [111, 114, 105, 103, 105, 110]) = false := by simpa using h1
  clear h1
  by_cases h2 : wt = [99, 111, 111, 107, 105, 101]
  · subst h2
    rw [if_pos rfl]
    repeat' (first
      | apply w_seq
      | apply w_region
      | apply o_end
      | apply t_normal
      | (apply o_val; exact kc0; exact kc2)
      | (apply o_frz; exact kc0; rfl; exact kc1; (focus (simp; done)); exact kd7)
      | apply w_block
      | apply w_ret
      | apply t_ret
      | apply b_ret
      | (apply w_true; exact kc3)
      | (apply w_false; exact kc3)
      | (apply w_drawA; rfl; exact ke3; exact kc4; exact kc4)
      | (apply a_end; exact kc4)
      | (apply a_val; exact kc4; exact kc5; exact kd9; exact kc6)
      | (apply a_fn fine; exact kc4; exact kc5; exact kd8; exact hq; exact kc3; exact kc6)
      | (apply a_frz; exact kc4; exact kc5; exact ke1; exact ke9; exact kc6)
      | fail)
    · apply f_retf
      · simp [*]; rfl
      · simp
      · rfl
  rw [if_neg h2]
  have b2 : (wt == [99, 111, 111, 107, 105, 101]) = false := by simpa using h2
  clear h2
  by_cases h3 : wt = [101, 110, 100, 112, 111, 105, 110, 116]
  · subst h3
    rw [if_pos rfl]
    repeat' (first
      | apply w_seq
      | apply w_region
      | apply o_end
      | apply t_normal
      | (apply o_val; exact kc0; exact kc2)
      | (apply o_frz; exact kc0; rfl; exact kc1; (focus (simp; done)); exact kd7)
      | apply w_block
      | apply w_ret
      | apply t_ret
      | apply b_ret
      | (apply w_true; exact kc3)
      | (apply w_false; exact kc3)
      | (apply w_drawA; rfl; exact ke3; exact kc4; exact kc4)
      | (apply a_end; exact kc4)
      | (apply a_val; exact kc4; exact kc5; exact kd9; exact kc6)
      | (apply a_fn fine; exact kc4; exact kc5; exact kd8; exact hq; exact kc3; exact kc6)
      | (apply a_frz; exact kc4; exact kc5; exact ke1; exact ke9; exact kc6)
      | fail)
    · apply f_retf
      · simp [*]; rfl
      · simp
      · rfl
  rw [if_neg h3]
  have b3 : (wt == [101, 110, 100, 112, 111, 105, 110, 116]) = false := by simpa using h3
  clear h3
  by_cases h4 : wt = [110, 101, 116, 119, 111, 114, 107]
  · subst h4
    rw [if_pos rfl]
    repeat' (first
      | apply w_seq
      | apply w_region
      | apply o_end
      | apply t_normal
      | (apply o_val; exact kc0; exact kc2)
      | (apply o_frz; exact kc0; rfl; exact kc1; (focus (simp; done)); exact kd7)
      | apply w_block
      | apply w_ret
      | apply t_ret
      | apply b_ret
      | (apply w_true; exact kc3)
      | (apply w_false; exact kc3)
      | fail)
    · apply f_retf
      · simp [*]; rfl
      · simp
      · rfl
  rw [if_neg h4]
  have b4 : (wt == [110, 101, 116, 119, 111, 114, 107]) = false := by simpa using h4
  clear h4
  repeat' (first
    | apply w_seq
    | apply w_region
    | apply o_end
    | apply t_normal
    | (apply o_val; exact kc0; exact kc2)
    | (apply o_frz; exact kc0; rfl; exact kc1; (focus (simp; done)); exact kd7)
    | apply w_skip
    | apply w_block
    | apply b_normal
    | apply w_ret
    | (apply w_false; exact kc3)
    | fail)
  · apply f_retf
    · simp [*]; rfl
    · simp
    · rfl
/-- Texts with another one between them. -/
theorem Join_ok (ws : List (List UInt8)) (sep : List UInt8) (hne : ws ≠ []) (hl : (Lib.join ws sep).length ≤ 140737488355328) (hn : ws.length ≤ 140737488355328) : Ans (L m) 19 [textsD ws, .str sep] (.str (Lib.join ws sep)) := by
  refine ext_below ⟨_, Try.func19, rfl, by kernel_rfl⟩ fun c vs inv hg hsz hargs => ⟨.string ⟨(Lib.join ws sep).toArray⟩, fun _ => .str _ _ (by simp), ?_⟩
  obtain ⟨t, ht, rfl⟩ := rep_str (hargs 1 _ rfl)
  have h0 : Rep c (vs.getD 0 undef) (.isl 1 (ws.map fun x => [D.str x])) := hargs 0 _ rfl
  rw [args_two hsz, ht]
  generalize vs.getD 0 undef = q at h0 ⊢
  have hpos : ws.length ≠ 0 := by simpa using hne
  generalize hx : (ws.map fun x => [D.str x]) = xs at h0
  have hxl : xs.length = ws.length := by rw [← hx]; simp
  cases h0 with
  | islnil => simp at hxl; exact absurd hxl.symm hpos
  | isl0 => simp at hxl; exact absurd hxl.symm hpos
  | isl b off n cap _ _ f hn hcap hi hs hc h1 hh =>
  subst hn
  have hget : ∀ (j : Nat) (x : List UInt8), ws[j]? = some x → xs[j]? = some [.str x] := fun j x hj => by rw [← hx, List.getElem?_map, hj]; rfl
  have hcell : ∀ (j : Nat) (x : List UInt8), ws[j]? = some x → c.w.cell? ⟨b, off + j, none⟩ = some (.string ⟨x.toArray⟩) := fun j x hj => by
    have h2 := hc j _ 0 _ (hget j x hj) rfl
    have h3 := hh j _ 0 _ (hget j x hj) rfl
    obtain ⟨s, hs1, hs2⟩ := rep_str h3
    rw [hs1] at h2
    have : s = ⟨x.toArray⟩ := by
      cases s
      simp only [ByteArray.mk.injEq]
      apply Array.toList_inj.1
      simpa using hs2
    simp only [Nat.mul_one, Nat.add_zero] at h2
    rw [h2, this]
  have e1 : (ws.map fun l => (⟨l.toArray⟩ : ByteArray)).map (·.data.toList) = ws := by simp [Function.comp_def]
  have key := Try.strings_Join b off cap (ws.map fun l => ⟨l.toArray⟩) t c.w (fun j x hj => by
    rw [List.getElem?_map] at hj
    obtain ⟨l, hl1, rfl⟩ := Option.map_eq_some_iff.1 hj
    exact hcell j l hl1) (inv.imlt _ hi) (by simpa using hn) (by simpa [hxl] using hcap) (by rw [e1]; exact hl)
  rw [e1] at key
  show Calls Try.prog _ _ _ _
  simpa [hxl] using key
theorem lineS_len {i : ItemT} (h : allI (fun t => t.text.length ≤ 8000) i) (hs : sizeI i ≤ 2000) : (Lib.join (wordsS i) [32]).length ≤ 40000 ∧ (wordsS i) ≠ [] ∧ (wordsS i).length ≤ 6 := by
  have h1 : i.word.text.length ≤ 8000 := h.1
  have h2 : i.name.text.length ≤ 8000 := h.2.1
  have h3 : i.of_.text.length ≤ 8000 := h.2.2.1
  have h4 : i.caps.text.length ≤ 8000 := h.2.2.2.1
  have h5 : i.text.text.length ≤ 8000 := h.2.2.2.2.1
  have hq := quotS_len h5
  unfold wordsS
  repeat' split
  all_goals simp [Lib.join, List.intercalate]
  all_goals omega
/-! ### formulas -/
abbrev bR : D := .map 0 0
theorem dump_leaf (w n : Tok) (l : List UInt8) (h1 : w.text.length ≤ 8000) (h2 : n.text.length ≤ 8000) (hl : l.length ≤ 100000000000) : CallsV (L m) 22 [treeD (.leaf w n), bR] [bld l] (Turns (.tuple []) [bld (l ++ treeS (.leaf w n))]) := by
  refine turns_of_body L_ok (fn := Try.f22) rfl rfl rfl rfl (by kernel_rfl) ?_
  rw [treeD]
  have c1 : w.text.length ≤ 9223372036854775806 := by omega
  have c2 : n.text.length ≤ 9223372036854775806 := by omega
  have w1 := fun (l s : List UInt8) (h : l.length + s.length ≤ 140737488355328) => writeString_ok (mx := m) l s h
  by_cases hk : n.kind = 0
  · have hb : ((n.kind : Int) == 0) = true := by simp [hk]
    simp only [treeS, hk, if_true]
    have a1 := w1 l (40 :: w.text) (by simp; omega)
    have a2 := w1 (l ++ 40 :: w.text) [41] (by simp; omega)
    clear w1
    repeat' (first
      | apply w_seq
      | apply w_region
      | apply o_end
      | apply t_normal
      | (apply o_cat; exact kc0; exact kc2; rfl; exact kc2; rfl; exact ke5; exact ke6)
      | (apply o_val; exact kc0; exact kc2)
      | (apply o_turns; exact kc0; exact kc1; exact a1)
      | apply w_skip
      | apply w_block
      | (apply w_false; exact kc3)
      | fail)
    apply loop_is
    apply loop_unfold
    repeat' (first
      | apply w_seq
      | apply w_region
      | apply o_end
      | apply t_normal
      | (apply o_val; exact kc0; exact kc2)
      | (apply o_turns; exact kc0; exact kc1; exact a2)
      | apply w_exit
      | apply t_exit
      | apply b_here
      | (apply w_false; exact kc3)
      | fail)
    exact t_normT rfl rfl (by simp)
  · have hb : ((n.kind : Int) == 0) = false := by simp; omega
    simp only [treeS, hk, if_false]
    have a1 := w1 l (40 :: w.text) (by simp; omega)
    have a2 := w1 (l ++ 40 :: w.text) (32 :: n.text) (by simp; omega)
    have a3 := w1 (l ++ 40 :: w.text ++ 32 :: n.text) [41] (by simp; omega)
    clear w1
    repeat' (first
      | apply w_seq
      | apply w_region
      | apply o_end
      | apply t_normal
      | (apply o_cat; exact kc0; exact kc2; rfl; exact kc2; rfl; exact ke5; exact ke6)
      | (apply o_val; exact kc0; exact kc2)
      | (apply o_turns; exact kc0; exact kc1; exact a1)
      | (apply o_turns; exact kc0; exact kc1; exact a2)
      | apply w_block
      | (apply w_true; exact kc3)
      | fail)
    apply loop_is
    apply loop_unfold
    repeat' (first
      | apply w_seq
      | apply w_region
      | apply o_end
      | apply t_normal
      | (apply o_val; exact kc0; exact kc2)
      | (apply o_turns; exact kc0; exact kc1; exact a3)
      | apply w_exit
      | apply t_exit
      | apply b_here
      | (apply w_false; exact kc3)
      | fail)
    exact t_normT rfl rfl (by simp)
theorem dump_ok (t : Tree) : ∀ (l : List UInt8), allT (fun t => t.text.length ≤ 8000) t → l.length + (treeS t).length ≤ 100000000000 → CallsV (L m) 22 [treeD t, bR] [bld l] (Turns (.tuple []) [bld (l ++ treeS t)]) := by
  induction t with
  | leaf w n => intro l ha hl; exact dump_leaf w n l ha.1 ha.2 (by omega)
  | un w k ih =>
    intro l ha hl
    have h1 : w.text.length ≤ 8000 := ha.1
    have w1 := fun (l s : List UInt8) (h : l.length + s.length ≤ 140737488355328) => writeString_ok (mx := m) l s h
    simp only [treeS, List.length_append, List.length_cons, List.length_nil] at hl
    have a1 := w1 l (40 :: w.text) (by simp; omega)
    have a2 := w1 (l ++ 40 :: w.text) [32] (by simp; omega)
    have a3 := ih (l ++ 40 :: w.text ++ [32]) ha.2 (by simp; omega)
    have a4 := w1 (l ++ 40 :: w.text ++ [32] ++ treeS k) [41] (by simp; omega)
    have c1 : w.text.length ≤ 9223372036854775806 := by omega
    refine turns_of_body L_ok (fn := Try.f22) rfl rfl rfl rfl (by kernel_rfl) ?_
    obtain ⟨ck, hck⟩ := isTree_ex k
    rw [treeD, show treeD k = .box ck from hck]
    simp only [zeroTok]
    rw [show treeD k = .box ck from hck] at a3
    simp only [treeS]
    generalize treeS k = sk at a3 a4 hl ⊢
    clear w1 ih ha hl hck
    repeat' (first
      | apply w_seq
      | apply w_region
      | apply o_end
      | apply t_normal
      | (apply o_cat; exact kc0; exact kc2; rfl; exact kc2; rfl; exact ke5; exact ke6)
      | (apply o_val; exact kc0; exact kc2)
      | (apply o_turns; exact kc0; exact kc1; exact a1)
      | apply w_skip
      | apply w_block
      | (apply w_false; exact kc3)
      | fail)
    apply loop_is
    apply loop_unfold
    repeat' (first
      | apply w_seq
      | apply w_region
      | apply o_end
      | apply t_normal
      | (apply o_add; exact kc0; exact kc2; rfl; exact kc2; rfl; exact ke2)
      | (apply o_val; exact kc0; exact kc2)
      | (apply o_turns; exact kc0; exact kc1; exact a2)
      | (apply o_turns; exact kc0; exact kc1; exact a3)
      | apply w_skip
      | apply w_block
      | apply b_normal
      | (apply w_true; exact kc3)
      | fail)
    apply loop_unfold
    repeat' (first
      | apply w_seq
      | apply w_region
      | apply o_end
      | apply t_normal
      | (apply o_val; exact kc0; exact kc2)
      | (apply o_turns; exact kc0; exact kc1; exact a4)
      | apply w_exit
      | apply t_exit
      | apply b_here
      | (apply w_false; exact kc3)
      | fail)
    exact t_normT rfl rfl (by simp)
  | bin w a b iha ihb =>
    intro l ha hl
    have h1 : w.text.length ≤ 8000 := ha.1
    have w1 := fun (l s : List UInt8) (h : l.length + s.length ≤ 140737488355328) => writeString_ok (mx := m) l s h
    simp only [treeS, List.length_append, List.length_cons, List.length_nil] at hl
    have a1 := w1 l (40 :: w.text) (by simp; omega)
    have a2 := w1 (l ++ 40 :: w.text) [32] (by simp; omega)
    have a3 := iha (l ++ 40 :: w.text ++ [32]) ha.2.1 (by simp; omega)
    have a4 := w1 (l ++ 40 :: w.text ++ [32] ++ treeS a) [32] (by simp; omega)
    have a5 := ihb (l ++ 40 :: w.text ++ [32] ++ treeS a ++ [32]) ha.2.2 (by simp; omega)
    have a6 := w1 (l ++ 40 :: w.text ++ [32] ++ treeS a ++ [32] ++ treeS b) [41] (by simp; omega)
    have c1 : w.text.length ≤ 9223372036854775806 := by omega
    refine turns_of_body L_ok (fn := Try.f22) rfl rfl rfl rfl (by kernel_rfl) ?_
    obtain ⟨ca, hca⟩ := isTree_ex a
    obtain ⟨cb, hcb⟩ := isTree_ex b
    rw [treeD, show treeD a = .box ca from hca, show treeD b = .box cb from hcb]
    simp only [zeroTok]
    rw [show treeD a = .box ca from hca] at a3
    rw [show treeD b = .box cb from hcb] at a5
    simp only [treeS]
    generalize treeS a = sa at a3 a4 a5 a6 hl ⊢
    generalize treeS b = sb at a5 a6 hl ⊢
    clear w1 iha ihb ha hl hca hcb
    repeat' (first
      | apply w_seq
      | apply w_region
      | apply o_end
      | apply t_normal
      | (apply o_cat; exact kc0; exact kc2; rfl; exact kc2; rfl; exact ke5; exact ke6)
      | (apply o_val; exact kc0; exact kc2)
      | (apply o_turns; exact kc0; exact kc1; exact a1)
      | apply w_skip
      | apply w_block
      | (apply w_false; exact kc3)
      | fail)
    apply loop_is
    apply loop_unfold
    repeat' (first
      | apply w_seq
      | apply w_region
      | apply o_end
      | apply t_normal
      | (apply o_add; exact kc0; exact kc2; rfl; exact kc2; rfl; exact ke2)
      | (apply o_val; exact kc0; exact kc2)
      | (apply o_turns; exact kc0; exact kc1; exact a2)
      | (apply o_turns; exact kc0; exact kc1; exact a3)
      | apply w_skip
      | apply w_block
      | apply b_normal
      | (apply w_true; exact kc3)
      | fail)
    apply loop_unfold
    repeat' (first
      | apply w_seq
      | apply w_region
      | apply o_end
      | apply t_normal
      | (apply o_add; exact kc0; exact kc2; rfl; exact kc2; rfl; exact ke2)
      | (apply o_val; exact kc0; exact kc2)
      | (apply o_turns; exact kc0; exact kc1; exact a4)
      | (apply o_turns; exact kc0; exact kc1; exact a5)
      | apply w_skip
      | apply w_block
      | apply b_normal
      | (apply w_true; exact kc3)
      | fail)
    apply loop_unfold
    repeat' (first
      | apply w_seq
      | apply w_region
      | apply o_end
      | apply t_normal
      | (apply o_val; exact kc0; exact kc2)
      | (apply o_turns; exact kc0; exact kc1; exact a6)
      | apply w_exit
      | apply t_exit
      | apply b_here
      | (apply w_false; exact kc3)
      | fail)
    exact t_normT rfl rfl (by simp)
end Go.Proofs.Ytknkkfdkcemolaa.Vm
end
section
/- Walks: a description's dump, and where its items begin. -/
set_option linter.unusedSimpArgs false
set_option linter.unusedVariables false
set_option maxRecDepth 100000
set_option maxHeartbeats 4000000
namespace Go.Proofs.Ytknkkfdkcemolaa.Vm
open Go
variable {m : Int}
attribute [local irreducible] wpD opsD thenD blockD planD planA LoopD
attribute [local simp] List.take_of_length_le List.drop_of_length_le bne mvD itemsL_flat

@[simp] theorem bld_under (n : Nat) (l : List UInt8) : (bld l).under n := by
  intro e he
  obtain rfl := List.mem_singleton.1 he
  refine ⟨.int _ _, .tuple _ fun d hd => ?_⟩
  simp only [List.mem_cons, List.not_mem_nil, or_false] at hd
  rcases hd with rfl | rfl | rfl
  · exact .int _ _
  · exact .int _ _
  · exact .str _
attribute [local simp] under_map
theorem readP_wrong {s : List UInt8} : (readP s).2.1 ≠ 0 → (readP s).1 = [] := by
  unfold readP
  split
  · intro _; rfl
  split
  · intro _; rfl
  · split
    · intro _; rfl
    · intro h; exact absurd rfl h
theorem lineS_len2 {i : ItemT} (h : allI (fun t => t.text.length ≤ 8000) i) (hs : sizeI i ≤ 2000) : (lineS i).length ≤ (sizeI i + 1) * 50000 := by
  have h1 := (lineS_len h hs).1
  have h2 := attrsS_len h.2.2.2.2.2.1
  have h3 := h.2.2.2.2.2.2
  unfold lineS
  unfold sizeI at hs ⊢
  cases hf : i.form with
  | none =>
    rw [hf] at hs
    simp only at hs
    simp only [List.length_append, List.length_nil, List.length_cons]
    omega
  | some t =>
    rw [hf] at hs
    simp only at hs
    have h4 := treeS_len (h3 t hf)
    simp only [List.length_append, List.length_nil, List.length_cons]
    omega
theorem dumpS_len {l : List ItemT} (h : ∀ i, i ∈ l → allI (fun t => t.text.length ≤ 8000) i) : sizeL l ≤ 2000 → (dumpS l).length ≤ sizeL l * 50000 := by
  induction l with
  | nil => intro _; simp [dumpS]
  | cons x l ih =>
    intro hs
    simp only [sizeL] at hs
    have h1 := ih (fun i hi => h i (List.mem_cons_of_mem _ hi)) (by omega)
    have h2 := lineS_len2 (h x (List.mem_cons_self ..)) (by omega)
    simp only [dumpS, List.map_cons, List.flatten_cons, List.length_append, sizeL] at h1 ⊢
    omega
theorem sizeL_take {l : List ItemT} {i : Nat} (hi : i < l.length) : sizeL (l.take i) + sizeI l[i] + 1 ≤ sizeL l := by
  have h1 : l = l.take i ++ l[i] :: l.drop (i + 1) := by simp
  have h2 := congrArg sizeL h1
  rw [sizeL_app] at h2
  simp only [sizeL] at h2
  omega
theorem dumpS_take {l : List ItemT} {i : Nat} (hi : i < l.length) : dumpS (l.take (i + 1)) = dumpS (l.take i) ++ lineS l[i] := by
  unfold dumpS
  rw [List.take_succ_eq_append_getElem hi, List.map_append, List.flatten_append]
  simp only [List.map_cons, List.map_nil, List.flatten_cons, List.flatten_nil, List.append_nil]
theorem attrsS_take {l : List AttrT} {i : Nat} (hi : i < l.length) : attrsS (l.take (i + 1)) = attrsS (l.take i) ++ (32 :: 40 :: attrS l[i] ++ [41]) := by
  unfold attrsS
  rw [List.take_succ_eq_append_getElem hi, List.map_append, List.flatten_append]
  simp only [List.map_cons, List.map_nil, List.flatten_cons, List.flatten_nil, List.append_nil]
theorem Dump_ok (s : List UInt8) (hs : s.length < 1000000) : Ans (L m) 10 [.str s] (.tuple [.str (dumpS (readP s).1), wrD (readP s).2.1 (readP s).2.2]) := by
  refine fn_of_body L_ok (fn := Try.f10) rfl rfl rfl rfl (by kernel_rfl) ?_
  have a1 := Read_ok (m := m) s hs
  obtain ⟨hall, hsz⟩ := readP_all s
  generalize readP s = x at a1 hall hsz ⊢
  obtain ⟨l, c, a⟩ := x
  simp only at a1 hall hsz ⊢
  have hS : ∀ (b0 b1 : Blk) (acc : List UInt8), b0.under 0 → b1.under 0 → CallsV (L m) 23 [.map 2 0] [b0, b1, bld acc] (Turns (.str acc) [b0, b1, .gone 1]) := fun b0 b1 acc h0 h1 => by
    have := (string_ok (mx := m) acc).amid fine rfl (by intro a ha; obtain rfl := List.mem_singleton.1 ha; exact .map _ _ (by simp)) (by
      intro k hk
      obtain rfl := List.mem_singleton.1 hk
      intro e he
      obtain rfl := List.mem_singleton.1 he
      exact ⟨.int _ _, .tuple _ fun d hd => by
        simp only [List.mem_cons, List.not_mem_nil, or_false] at hd
        rcases hd with rfl | rfl | rfl
        · exact .int _ _
        · exact .int _ _
        · exact .str _⟩) (by
      intro k hk
      obtain rfl := List.mem_singleton.1 hk
      trivial) (.str _) [b0, b1] []
    simpa [rn] using this
  by_cases hne : l = []
  · subst hne
    simp only [itemsL] at a1
    have hs1 := hS (.cells 0 2 false [[.int .i64 0, .int .i64 0]]) (.cells 0 2 false [[.int .i64 c, .int .i64 a]]) [] (by simp) (by simp)
    repeat' (first
      | apply w_seq
      | apply w_region
      | apply o_end
      | apply t_normal
      | (apply o_val; exact kc0; exact kc2)
      | (apply o_fn fine; exact kc0; exact kc1; exact a1; exact kc3)
      | (apply o_bld (t := 57) (e := 5); exact kc0; (focus (simp; done)); (focus (simp; done)))
      | (apply o_mem; exact kc0; rfl; exact kc1)
      | apply w_block
      | fail)
    apply loop_is
    apply loop_unfold
    repeat' (first
      | apply w_seq
      | apply w_region
      | apply o_end
      | apply t_normal
      | (apply o_val; exact kc0; exact kc2)
      | apply w_ret
      | apply w_exit
      | apply t_exit
      | apply b_here
      | (apply w_false; exact kc3)
      | (apply w_drawN; rfl; exact ke3; exact kc4)
      | (apply a_end; exact kc4)
      | (apply a_val; exact kc4; exact kc5; exact kd9; exact kc6)
      | (apply a_turns; exact kc4; exact kc5; exact kd8; exact hs1; exact kc7; exact kc6; exact kc4)
      | (apply a_mem; exact kc4; exact kc5; exact ke1; exact kd8; exact kc7; exact kc6; exact kc4)
      | (apply a_tieG; exact kc4; exact kc5; exact ke0; (focus (simp only [List.mem_cons, List.not_mem_nil, or_false, forall_eq_or_imp, forall_eq]; (repeat' apply And.intro) <;> first | (left; (first | rfl | (simp only [List.all_cons, List.all_nil, List.length_cons, List.length_nil, Nat.zero_add, Nat.reduceAdd, Bool.and_true, Bool.true_and]; done) | (simp only [List.all_cons, List.all_nil, List.length_cons, List.length_nil, Nat.zero_add, Nat.reduceAdd, Bool.and_true, Bool.true_and]; decide +kernel))) | (right; intro u; simp [*]; done) | (right; intro u; simp [*]; rfl))); exact kc6; exact kc4)
      | fail)
    · apply f_retf
      · simp [*]; rfl
      · simp
      · rfl
  · have hL := itemsL_some hne
    rw [hL] at a1
    clear hL
    have hlen := sizeL_len l
    have hs1 := hS (.cells 0 2 false [[.int .i64 0, .int .i64 0]]) (.cells 0 2 false [[.int .i64 c, .int .i64 a]]) (dumpS l) (by simp) (by simp)
    clear hS
    repeat' (first
      | apply w_seq
      | apply w_region
      | apply o_end
      | apply t_normal
      | (apply o_val; exact kc0; exact kc2)
      | (apply o_fn fine; exact kc0; exact kc1; exact a1; exact kc3)
      | (apply o_bld (t := 57) (e := 5); exact kc0; (focus (simp; done)); (focus (simp; done)))
      | (apply o_mem; exact kc0; rfl; exact kc1)
      | apply w_block
      | fail)
    clear a1
    refine w_loopT (fun n f H => ∃ (i : Nat), i ≤ l.length ∧ n = l.length - i ∧ H = [.cells 0 2 false [[.int .i64 0, .int .i64 0]], .cells 0 2 false [[.int .i64 c, .int .i64 a]], bld (dumpS (l.take i))] ∧ f 3 = .ref 0 0 0 0 ∧ f 5 = .ref 1 0 0 0 ∧ f 6 = .map 2 0 ∧ f 16 = .isl 17 (l.map itemC) ∧ f 17 = .int .i64 l.length ∧ f 18 = .int .i64 i) l.length ⟨0, by simp, by simp, rfl, by simp, by simp, by simp, by simp, by simp, by simp⟩ ?_
    rintro n f H ⟨i, hi, rfl, rfl, g3, g5, g6, g16, g17, g18⟩
    by_cases hlt : i < l.length
    · have hc : decide ((i : Int) < (l.length : Int)) = true := by simp; omega
      have hd0 := dumpS_len (l := l.take i) (fun x hx => hall x (List.mem_of_mem_take hx)) (by have := sizeL_take hlt; omega)
      have hz0 : sizeL (l.take i) + sizeI l[i] + 1 ≤ 2000 := by
        have := sizeL_take hlt
        omega
      have hxa := hall _ (List.getElem_mem hlt)
      have hE : dumpS (l.take (i + 1)) = dumpS (l.take i) ++ lineS l[i] := dumpS_take hlt
      have hsI : sizeI l[i] ≤ 2000 := by omega
      obtain ⟨hj1, hj2, hj3⟩ := lineS_len hxa hsI
      have hw := Words_ok (m := m) _ hxa
      have hj := Join_ok (m := m) (wordsS l[i]) [32] hj2 (by omega) (by omega)
      have q1 := writeString_ok (mx := m) (dumpS (l.take i)) (Lib.join (wordsS l[i]) [32]) (by omega)
      have hxal : ∀ a, a ∈ (l[i]).attrs → a.word.text.length ≤ 8000 ∧ a.arg.text.length ≤ 8000 := hxa.2.2.2.2.2.1
      have hxt : ∀ t, (l[i]).form = some t → allT (fun t => t.text.length ≤ 8000) t := hxa.2.2.2.2.2.2
      clear hs1
      unfold lineS at hE
      unfold sizeI at hsI hz0
      have hwS : wordsS l[i] = wordsS l[i] := rfl
      generalize hW : wordsS l[i] = W at hj1 hj2 hj3 hw hj q1 hE
      clear hxa hj2 hj3 hwS
      clear hW
      rcases hx : l[i] with ⟨w, n, o, cc, t, al, fo⟩
      rw [hx] at hw hE hsI hz0 hxal hxt
      simp only at hw hE hsI hz0 hxal hxt
      have hmono : (dumpS (l.take i)).length ≤ 100000000 := by omega
      generalize dumpS (l.take i) = D0 at hE q1 hmono ⊢
      generalize hJ : Lib.join W [32] = J at hE q1 hj hj1
      clear hJ hd0 hz0
      repeat' (first
        | apply w_seq
        | apply w_region
        | apply o_end
        | apply t_normal
        | (apply o_val; exact kc0; exact kc2)
        | (apply o_fuse; exact kc0; rfl; (focus (simp [*]; first | rfl | exact ⟨rfl, rfl⟩)); exact kc0; rfl; (focus (simp [*]; first | rfl | exact ⟨rfl, rfl⟩ | exact ⟨rfl, rfl, rfl⟩)); (focus (intro d hd; apply Under.flat; revert hd; revert d; simp; done)))
        | (apply o_fn fine; exact kc0; exact kc1; exact hw; exact kc3)
        | (apply o_fn fine; exact kc0; exact kc1; exact hj; exact kc3)
        | (apply o_amid fine 2; exact kc0; exact kc1; exact q1; (focus (simp [rn, rnL]; done)); rfl; rfl; rfl; exact kd4; (focus (simp only [rowH, List.take_succ_cons, List.take_zero, List.cons_append, List.nil_append]; rfl)))
        | apply w_skip
        | apply w_block
        | (apply w_true; exact kc3)
        | fail)
      cases al with
      | nil =>
        simp only [List.length_nil] at hsI
        repeat' (first
          | apply o_end
          | apply t_normal
          | (apply o_val; exact kc0; exact kc2)
          | apply w_block
          | fail)
        apply loop_is
        apply loop_unfold
        repeat' (first
          | apply w_seq
          | apply w_region
          | apply o_end
          | apply t_normal
          | (apply o_val; exact kc0; exact kc2)
          | apply w_exit
          | apply t_exit
          | apply b_here
          | (apply w_false; exact kc3)
          | fail)
        clear q1 hj
        cases fo with
        | none =>
          have q5 := writeString_ok (mx := m) (D0 ++ J) [10] (by simp; omega)
          simp only [attrsS, List.map_nil, List.flatten_nil, List.append_nil] at hE
          simp only [formO]
          repeat' (first
            | apply w_region
            | apply o_end
            | apply t_normal
            | (apply o_add; exact kc0; exact kc2; rfl; exact kc2; rfl; exact ke2)
            | (apply o_val; exact kc0; exact kc2)
            | (apply o_amid fine 2; exact kc0; exact kc1; exact q5; (focus (simp [rn, rnL]; done)); rfl; rfl; rfl; exact kd4; (focus (simp only [rowH, List.take_succ_cons, List.take_zero, List.cons_append, List.nil_append]; rfl)))
            | apply w_skip
            | apply b_normal
            | (apply w_false; exact kc3)
            | fail)
          refine ⟨l.length - (i + 1), by omega, [.cells 0 2 false [[.int .i64 0, .int .i64 0]], .cells 0 2 false [[.int .i64 c, .int .i64 a]], bld (dumpS (l.take (i + 1)))], 3, [(3, .ref 0 0 0 0), (5, .ref 1 0 0 0), (6, .map 2 0), (16, .isl 17 (l.map itemC)), (17, .int .i64 l.length), (18, .int .i64 ((i + 1 : Nat) : Int))],
            by simp, by rw [hE]; simp, by simp, ?_, ?_, i + 1, by omega, rfl, rfl, by simp [lookF], by simp [lookF], by simp [lookF], by simp [lookF], by simp [lookF], by simp [lookF]⟩
          · intro b hb
            simp only [List.mem_cons, List.not_mem_nil, or_false] at hb
            rcases hb with rfl | rfl | rfl
            · simp
            · simp
            · exact bld_under _ _
          · intro p hp
            simp only [List.mem_cons, List.not_mem_nil, or_false] at hp
            rcases hp with rfl | rfl | rfl | rfl | rfl | rfl
            all_goals exact .inl ⟨by simp [*], by simp⟩
        | some t0 =>
          have hta := hxt t0 rfl
          have htl := treeS_len hta
          simp only at hsI
          have q5 := writeString_ok (mx := m) (D0 ++ J) [32] (by simp; omega)
          have q6 := dump_ok (m := m) t0 (D0 ++ J ++ [32]) hta (by simp; omega)
          have q7 := writeString_ok (mx := m) (D0 ++ J ++ [32] ++ treeS t0) [10] (by simp; omega)
          simp only [attrsS, List.map_nil, List.flatten_nil, List.append_nil] at hE
          simp only [formO]
          obtain ⟨ct, hct⟩ := isTree_ex t0
          have hft := treeD_flat t0
          rw [show treeD t0 = .box ct from hct] at q6 hft
          rw [show treeD t0 = .box ct from hct]
          have hrn : rnL (fun x => x + 2) ct = ct := by
            have h1 := rn_under (ι := fun x => x + 2) (n := 0) (fun j hj => by omega) (Under.flat (n := 0) hft)
            simpa [rn] using h1
          generalize treeS t0 = st at q6 q7 hE htl
          clear hct hxt
          repeat' (first
            | apply w_seq
            | apply w_region
            | apply o_end
            | apply t_normal
            | (apply o_add; exact kc0; exact kc2; rfl; exact kc2; rfl; exact ke2)
            | (apply o_val; exact kc0; exact kc2)
            | (apply o_amid fine 2; exact kc0; exact kc1; exact q5; (focus (simp [rn, rnL, *]; done)); rfl; rfl; rfl; (focus (simp [under_func, under_agg, under_tuple, *]; done)); (focus (simp only [rowH, List.take_succ_cons, List.take_zero, List.cons_append, List.nil_append]; rfl)))
            | (apply o_amid fine 2; exact kc0; exact kc1; exact q6; (focus (simp [rn, rnL, *]; done)); rfl; rfl; rfl; (focus (simp [under_func, under_agg, under_tuple, *]; done)); (focus (simp only [rowH, List.take_succ_cons, List.take_zero, List.cons_append, List.nil_append]; rfl)))
            | (apply o_amid fine 2; exact kc0; exact kc1; exact q7; (focus (simp [rn, rnL, *]; done)); rfl; rfl; rfl; (focus (simp [under_func, under_agg, under_tuple, *]; done)); (focus (simp only [rowH, List.take_succ_cons, List.take_zero, List.cons_append, List.nil_append]; rfl)))
            | apply b_normal
            | (apply w_true; exact kc3)
            | fail)
          refine ⟨l.length - (i + 1), by omega, [.cells 0 2 false [[.int .i64 0, .int .i64 0]], .cells 0 2 false [[.int .i64 c, .int .i64 a]], bld (dumpS (l.take (i + 1)))], 3, [(3, .ref 0 0 0 0), (5, .ref 1 0 0 0), (6, .map 2 0), (16, .isl 17 (l.map itemC)), (17, .int .i64 l.length), (18, .int .i64 ((i + 1 : Nat) : Int))],
            by simp, by rw [hE]; simp, by simp, ?_, ?_, i + 1, by omega, rfl, rfl, by simp [lookF], by simp [lookF], by simp [lookF], by simp [lookF], by simp [lookF], by simp [lookF]⟩
          · intro b hb
            simp only [List.mem_cons, List.not_mem_nil, or_false] at hb
            rcases hb with rfl | rfl | rfl
            · simp
            · simp
            · exact bld_under _ _
          · intro p hp
            simp only [List.mem_cons, List.not_mem_nil, or_false] at hp
            rcases hp with rfl | rfl | rfl | rfl | rfl | rfl
            all_goals exact .inl ⟨by simp [*], by simp⟩
      | cons a0 al =>
        have hAD := attrsD_some (l := a0 :: al) (by simp)
        generalize a0 :: al = A at hx hw hE hsI hxal hAD
        simp only [itemD, hAD] at hw
        have hAl := attrsS_len hxal
        repeat' (first
          | apply o_end
          | apply t_normal
          | (apply o_val; exact kc0; exact kc2)
          | apply w_block
          | fail)
        clear q1 hj hw
        refine w_loopT (fun kk f H => ∃ (j : Nat), j ≤ A.length ∧ kk = A.length - j ∧ H = [.cells 0 2 false [[.int .i64 0, .int .i64 0]], .cells 0 2 false [[.int .i64 c, .int .i64 a]], bld (D0 ++ J ++ attrsS (A.take j))] ∧ f 3 = .ref 0 0 0 0 ∧ f 5 = .ref 1 0 0 0 ∧ f 6 = .map 2 0 ∧ f 16 = .isl 17 (l.map itemC) ∧ f 17 = .int .i64 l.length ∧ f 18 = .int .i64 i ∧
          f 8 = .box (encT w ++ encT n ++ encT o ++ encT cc ++ encT t ++ [.isl 6 (A.map encA), formO fo]) ∧ f 27 = .isl 6 (A.map encA) ∧ f 28 = .int .i64 A.length ∧ f 29 = .int .i64 j) A.length ⟨0, by simp, by simp, by simp [attrsS], by simp [*], by simp [*], by simp [*], by simp [*], by simp [*], by simp [*], by simp [*], by simp [*], by simp [*], by simp [*]⟩ ?_
        clear g3 g5 g6 g16 g17 g18 hx
        rintro k f H ⟨j, hj, rfl, rfl, g3, g5, g6, g16, g17, g18, g8, g27, g28, g29⟩
        by_cases hjl : j < A.length
        · have hcj : decide ((j : Int) < (A.length : Int)) = true := by simp; omega
          have hAE : attrsS (A.take (j + 1)) = attrsS (A.take j) ++ (32 :: 40 :: attrS A[j] ++ [41]) := attrsS_take hjl
          have hAm : (attrsS (A.take j)).length ≤ 100000000 := by
            have h1 := attrsS_len (l := A.take j) (fun x hx => hxal x (List.mem_of_mem_take hx))
            have h2 : (A.take j).length ≤ 2000 := by simp; omega
            omega
          have hm := hxal _ (List.getElem_mem hjl)
          have hSl := attrS_len hm
          have hs2 := Show_ok (m := m) A[j] hm.1 hm.2
          have q2 := writeString_ok (mx := m) (D0 ++ J ++ attrsS (A.take j)) (32 :: 40 :: attrS A[j] ++ [41]) (by simp; omega)
          clear hm
          rcases hxj : A[j] with ⟨w1, v1⟩
          rw [hxj] at hAE hSl hs2 q2
          generalize attrS ⟨w1, v1⟩ = sa at hAE hSl hs2 q2
          generalize attrsS (A.take j) = sA at hAE q2 hAm ⊢
          have c1 : sa.length ≤ 9223372036854775805 := by omega
          have c2 : sa.length ≤ 9223372036854775804 := by omega
          have c3 : sa.length + 1 + 1 ≤ 9223372036854775806 := by omega
          have c4 : sa.length + 1 + 1 + 1 ≤ 9223372036854775807 := by omega
          repeat' (first
            | apply w_seq
            | apply w_region
            | apply o_end
            | apply t_normal
            | (apply o_add; exact kc0; exact kc2; rfl; exact kc2; rfl; exact ke2)
            | (apply o_cat; exact kc0; exact kc2; rfl; exact kc2; rfl; exact ke5; exact ke6)
            | (apply o_val; exact kc0; exact kc2)
            | (apply o_fuse; exact kc0; rfl; (focus (simp [*]; first | rfl | exact ⟨rfl, rfl⟩)); exact kc0; rfl; (focus (simp [*]; first | rfl | exact ⟨rfl, rfl⟩ | exact ⟨rfl, rfl, rfl⟩)); (focus (intro d hd; apply Under.flat; revert hd; revert d; simp; done)))
            | (apply o_fn fine; exact kc0; exact kc1; exact hs2; exact kc3)
            | (apply o_amid fine 2; exact kc0; exact kc1; exact q2; (focus (simp [rn, rnL]; done)); rfl; rfl; rfl; exact kd4; (focus (simp only [rowH, List.take_succ_cons, List.take_zero, List.cons_append, List.nil_append]; rfl)))
            | apply w_skip
            | apply w_block
            | apply b_normal
            | (apply w_true; exact kc3)
            | fail)
          refine ⟨A.length - (j + 1), by omega, [.cells 0 2 false [[.int .i64 0, .int .i64 0]], .cells 0 2 false [[.int .i64 c, .int .i64 a]], bld (D0 ++ J ++ attrsS (A.take (j + 1)))], 3, [(3, .ref 0 0 0 0), (5, .ref 1 0 0 0), (6, .map 2 0), (16, .isl 17 (l.map itemC)), (17, .int .i64 l.length), (18, .int .i64 i), (8, .box (encT w ++ encT n ++ encT o ++ encT cc ++ encT t ++ [.isl 6 (A.map encA), formO fo])), (27, .isl 6 (A.map encA)), (28, .int .i64 A.length), (29, .int .i64 ((j + 1 : Nat) : Int))],
            by simp, by rw [hAE]; simp, by simp, ?_, ?_, j + 1, by omega, rfl, rfl, by simp [lookF], by simp [lookF], by simp [lookF], by simp [lookF], by simp [lookF], by simp [lookF], by simp [lookF], by simp [lookF], by simp [lookF], by simp [lookF]⟩
          · intro b hb
            simp only [List.mem_cons, List.not_mem_nil, or_false] at hb
            rcases hb with rfl | rfl | rfl
            · simp
            · simp
            · exact bld_under _ _
          · intro p hp
            simp only [List.mem_cons, List.not_mem_nil, or_false] at hp
            rcases hp with rfl | rfl | rfl | rfl | rfl | rfl | rfl | rfl | rfl | rfl
            all_goals exact .inl ⟨by simp [*], by simp⟩
        · have hcj : decide ((j : Int) < (A.length : Int)) = false := by simp; omega
          rw [show A.take j = A from List.take_of_length_le (by omega)]
          repeat' (first
            | apply w_seq
            | apply w_region
            | apply o_end
            | apply t_normal
            | (apply o_val; exact kc0; exact kc2)
            | apply w_exit
            | apply t_exit
            | apply b_here
            | (apply w_false; exact kc3)
            | fail)
          clear g27 g28 g29 hAD hcj hjl hj
          cases fo with
          | none =>
            have q5 := writeString_ok (mx := m) (D0 ++ J ++ attrsS A) [10] (by simp; omega)
            simp only [List.append_nil] at hE
            simp only [formO] at g8 ⊢
            repeat' (first
              | apply w_region
              | apply o_end
              | apply t_normal
              | (apply o_add; exact kc0; exact kc2; rfl; exact kc2; rfl; exact ke2)
              | (apply o_val; exact kc0; exact kc2)
              | (apply o_amid fine 2; exact kc0; exact kc1; exact q5; (focus (simp [rn, rnL]; done)); rfl; rfl; rfl; exact kd4; (focus (simp only [rowH, List.take_succ_cons, List.take_zero, List.cons_append, List.nil_append]; rfl)))
              | apply w_skip
              | apply b_normal
              | (apply w_false; exact kc3)
              | fail)
            refine ⟨l.length - (i + 1), by omega, [.cells 0 2 false [[.int .i64 0, .int .i64 0]], .cells 0 2 false [[.int .i64 c, .int .i64 a]], bld (dumpS (l.take (i + 1)))], 3, [(3, .ref 0 0 0 0), (5, .ref 1 0 0 0), (6, .map 2 0), (16, .isl 17 (l.map itemC)), (17, .int .i64 l.length), (18, .int .i64 ((i + 1 : Nat) : Int))],
              by simp, by rw [hE]; simp, by simp, ?_, ?_, i + 1, by omega, rfl, rfl, by simp [lookF], by simp [lookF], by simp [lookF], by simp [lookF], by simp [lookF], by simp [lookF]⟩
            · intro b hb
              simp only [List.mem_cons, List.not_mem_nil, or_false] at hb
              rcases hb with rfl | rfl | rfl
              · simp
              · simp
              · exact bld_under _ _
            · intro p hp
              simp only [List.mem_cons, List.not_mem_nil, or_false] at hp
              rcases hp with rfl | rfl | rfl | rfl | rfl | rfl
              all_goals exact .inl ⟨by simp [*], by simp⟩
          | some t0 =>
            have hta := hxt t0 rfl
            have htl := treeS_len hta
            simp only at hsI
            have q5 := writeString_ok (mx := m) (D0 ++ J ++ attrsS A) [32] (by simp; omega)
            have q6 := dump_ok (m := m) t0 (D0 ++ J ++ attrsS A ++ [32]) hta (by simp; omega)
            have q7 := writeString_ok (mx := m) (D0 ++ J ++ attrsS A ++ [32] ++ treeS t0) [10] (by simp; omega)
            simp only [List.append_nil] at hE
            simp only [formO] at g8 ⊢
            obtain ⟨ct, hct⟩ := isTree_ex t0
            have hft := treeD_flat t0
            rw [show treeD t0 = .box ct from hct] at q6 hft
            rw [show treeD t0 = .box ct from hct] at g8 ⊢
            have hrn : rnL (fun x => x + 2) ct = ct := by
              have h1 := rn_under (ι := fun x => x + 2) (n := 0) (fun j hj => by omega) (Under.flat (n := 0) hft)
              simpa [rn] using h1
            generalize treeS t0 = st at q6 q7 hE htl
            clear hct hxt
            repeat' (first
              | apply w_seq
              | apply w_region
              | apply o_end
              | apply t_normal
              | (apply o_add; exact kc0; exact kc2; rfl; exact kc2; rfl; exact ke2)
              | (apply o_val; exact kc0; exact kc2)
              | (apply o_amid fine 2; exact kc0; exact kc1; exact q5; (focus (simp [rn, rnL, *]; done)); rfl; rfl; rfl; (focus (simp [under_func, under_agg, under_tuple, *]; done)); (focus (simp only [rowH, List.take_succ_cons, List.take_zero, List.cons_append, List.nil_append]; rfl)))
              | (apply o_amid fine 2; exact kc0; exact kc1; exact q6; (focus (simp [rn, rnL, *]; done)); rfl; rfl; rfl; (focus (simp [under_func, under_agg, under_tuple, *]; done)); (focus (simp only [rowH, List.take_succ_cons, List.take_zero, List.cons_append, List.nil_append]; rfl)))
              | (apply o_amid fine 2; exact kc0; exact kc1; exact q7; (focus (simp [rn, rnL, *]; done)); rfl; rfl; rfl; (focus (simp [under_func, under_agg, under_tuple, *]; done)); (focus (simp only [rowH, List.take_succ_cons, List.take_zero, List.cons_append, List.nil_append]; rfl)))
              | apply b_normal
              | (apply w_true; exact kc3)
              | fail)
            refine ⟨l.length - (i + 1), by omega, [.cells 0 2 false [[.int .i64 0, .int .i64 0]], .cells 0 2 false [[.int .i64 c, .int .i64 a]], bld (dumpS (l.take (i + 1)))], 3, [(3, .ref 0 0 0 0), (5, .ref 1 0 0 0), (6, .map 2 0), (16, .isl 17 (l.map itemC)), (17, .int .i64 l.length), (18, .int .i64 ((i + 1 : Nat) : Int))],
              by simp, by rw [hE]; simp, by simp, ?_, ?_, i + 1, by omega, rfl, rfl, by simp [lookF], by simp [lookF], by simp [lookF], by simp [lookF], by simp [lookF], by simp [lookF]⟩
            · intro b hb
              simp only [List.mem_cons, List.not_mem_nil, or_false] at hb
              rcases hb with rfl | rfl | rfl
              · simp
              · simp
              · exact bld_under _ _
            · intro p hp
              simp only [List.mem_cons, List.not_mem_nil, or_false] at hp
              rcases hp with rfl | rfl | rfl | rfl | rfl | rfl
              all_goals exact .inl ⟨by simp [*], by simp⟩
    · have hc : decide ((i : Int) < (l.length : Int)) = false := by simp; omega
      rw [show l.take i = l from List.take_of_length_le (by omega)]
      repeat' (first
        | apply w_seq
        | apply w_region
        | apply o_end
        | apply t_normal
        | (apply o_val; exact kc0; exact kc2)
        | apply w_ret
        | apply w_exit
        | apply t_exit
        | apply b_here
        | (apply w_false; exact kc3)
        | (apply w_drawN; rfl; exact ke3; exact kc4)
        | (apply a_end; exact kc4)
        | (apply a_val; exact kc4; exact kc5; exact kd9; exact kc6)
        | (apply a_turns; exact kc4; exact kc5; exact kd8; exact hs1; exact kc7; exact kc6; exact kc4)
        | (apply a_mem; exact kc4; exact kc5; exact ke1; exact kd8; exact kc7; exact kc6; exact kc4)
        | (apply a_tieG; exact kc4; exact kc5; exact ke0; (focus (simp only [List.mem_cons, List.not_mem_nil, or_false, forall_eq_or_imp, forall_eq]; (repeat' apply And.intro) <;> first | (left; (first | rfl | (simp only [List.all_cons, List.all_nil, List.length_cons, List.length_nil, Nat.zero_add, Nat.reduceAdd, Bool.and_true, Bool.true_and]; done) | (simp only [List.all_cons, List.all_nil, List.length_cons, List.length_nil, Nat.zero_add, Nat.reduceAdd, Bool.and_true, Bool.true_and]; decide +kernel))) | (right; intro u; simp [*]; done) | (right; intro u; simp [*]; rfl))); exact kc6; exact kc4)
        | fail)
      · apply f_retf
        · simp [*]; rfl
        · simp
        · rfl
end Go.Proofs.Ytknkkfdkcemolaa.Vm
end
section
/- Walks: where a description's items begin; the same numbers. -/
set_option linter.unusedSimpArgs false
set_option linter.unusedVariables false
set_option maxRecDepth 100000
set_option maxHeartbeats 4000000
namespace Go.Proofs.Ytknkkfdkcemolaa.Vm
open Go
variable {m : Int}
attribute [local irreducible] wpD opsD thenD blockD planD planA LoopD
attribute [local simp] List.take_of_length_le List.drop_of_length_le bne mvD itemsL_flat

theorem SameInts_ok (a b : List Int) (ha : a.length < 1000000000000) : Ans (L m) 14 [intsL a, intsL b] (.bool (a == b)) := by
  refine fn_of_body L_ok (fn := Try.f14) rfl rfl rfl rfl (by kernel_rfl) ?_
  by_cases hl : a.length = b.length
  · have hli : (a.length : Int) = (b.length : Int) := by omega
    repeat' (first
      | apply w_seq
      | apply w_region
      | apply o_end
      | apply t_normal
      | (apply o_val; exact kc0; exact kc2)
      | apply w_skip
      | apply w_block
      | (apply w_false; exact kc3)
      | fail)
    refine w_loop (fun n f H => ∃ (i : Nat), i ≤ a.length ∧ n = a.length - i ∧ H = [] ∧ a.take i = b.take i ∧ f 0 = intsL a ∧ f 1 = intsL b ∧ f 5 = .int .i64 i) a.length ⟨0, by simp⟩ ?_
    rintro n f H ⟨i, hi, rfl, rfl, hp, h0, h1, h5⟩
    by_cases hlt : i < a.length
    · have hlt2 : i < b.length := by omega
      clear hl hli
      by_cases he : a[i] = b[i]
      · have hp2 : a.take (i + 1) = b.take (i + 1) := by
          rw [List.take_succ_eq_append_getElem hlt, List.take_succ_eq_append_getElem hlt2, hp, he]
        clear hp
        repeat' (first
          | apply w_seq
          | apply w_region
          | apply o_end
          | apply t_normal
          | (apply o_add; exact kc0; exact kc2; rfl; exact kc2; rfl; exact ke2)
          | (apply o_val; exact kc0; exact kc2)
          | apply w_skip
          | apply w_block
          | apply b_normal
          | (apply w_true; exact kc3)
          | (apply w_false; exact kc3)
          | (apply w_drawA; rfl; exact ke3; exact kc4; exact kc4)
          | (apply a_end; exact kc4)
          | (apply a_val; exact kc4; exact kc5; exact kd9; exact kc6)
          | fail)
        exact ⟨a.length - (i + 1), by omega, i + 1, by omega, rfl, rfl, hp2, by simp [*], by simp [*], by simp [*]⟩
      · have hq : (a == b) = false := by
          rw [beq_eq_false_iff_ne]
          intro h
          subst h
          exact he rfl
        clear hp
        have he2 : (a[i] != b[i]) = true := by rw [bne_iff_ne]; exact he
        have he3 : (a[i] == b[i]) = false := by simpa using he
        repeat' (first
          | apply w_seq
          | apply w_region
          | apply o_end
          | apply t_normal
          | (apply o_val; exact kc0; exact kc2)
          | (apply f_retf; exact kc2; (focus (simp; done)); exact kc3)
          | apply w_skip
          | apply w_block
          | apply w_ret
          | apply t_ret
          | apply b_ret
          | (apply w_true; exact kc3)
          | (apply w_drawA; rfl; exact ke3; exact kc4; exact kc4)
          | (apply a_end; exact kc4)
          | (apply a_val; exact kc4; exact kc5; exact kd9; exact kc6)
          | fail)
    · have hq : (a == b) = true := by
        rw [beq_iff_eq]
        rwa [List.take_of_length_le (by omega), List.take_of_length_le (by omega)] at hp
      clear hp hl hli
      repeat' (first
        | apply w_seq
        | apply w_region
        | apply o_end
        | apply t_normal
        | (apply o_val; exact kc0; exact kc2)
        | (apply f_retf; exact kc2; (focus (simp; done)); exact kc3)
        | apply w_ret
        | apply w_exit
        | apply t_exit
        | apply b_here
        | (apply w_false; exact kc3)
        | fail)
  · have hli : ¬ (a.length : Int) = (b.length : Int) := by omega
    have hli2 : ((a.length : Int) == (b.length : Int)) = false := by simpa using hli
    have hq : (a == b) = false := by
      rw [beq_eq_false_iff_ne]
      intro h
      exact hl (congrArg List.length h)
    repeat' (first
      | apply w_seq
      | apply w_region
      | apply o_end
      | apply t_normal
      | (apply o_val; exact kc0; exact kc2)
      | (apply f_retf; exact kc2; (focus (simp; done)); exact kc3)
      | apply w_ret
      | apply t_ret
      | (apply w_true; exact kc3)
      | fail)
/-- Where the items of a description begin. -/
def begins (s : List UInt8) : List Int := (readP s).1.map fun i => (i.word.at_ : Int)
def beginsL (l : List Int) : D := match l with
  | [] => .nilsl
  | x :: l => intsL (x :: l)
theorem beginsL_some {l : List Int} (h : l ≠ []) : beginsL l = intsL l := by cases l with
  | nil => exact absurd rfl h
  | cons a l => rfl
abbrev wr0 : Blk := .cells 0 2 false [[.int .i64 0, .int .i64 0]]
abbrev wrB (c a : Nat) : Blk := .cells 0 2 false [[.int .i64 c, .int .i64 a]]
abbrev atsI (l : List ItemT) : List (List D) := l.map fun i => [.int .i64 i.word.at_]
def Sep (out rest l : List ItemT) : Prop := out ++ rest = l
theorem Sep.len {out rest l : List ItemT} (h : Sep out rest l) : l.length = out.length + rest.length := by rw [← h]; simp
theorem Sep.get {out l : List ItemT} {x : ItemT} {r : List ItemT} (h : Sep out (x :: r) l) (hl : out.length < l.length) : l[out.length] = x := by
  subst h
  simp
theorem Sep.next {out l : List ItemT} {x : ItemT} {r : List ItemT} (h : Sep out (x :: r) l) : Sep (out ++ [x]) r l := by
  subst h
  simp [Sep]
theorem Items_turns (s : List UInt8) (hs : s.length < 1000000) (hne : (readP s).1 ≠ []) : ∃ g, CallsV (L m) 11 [.str s] [] (Turns (.tuple [.slice 2 0 (readP s).1.length g, wrD (readP s).2.1 (readP s).2.2])
    [wrB (readP s).2.1 (readP s).2.2, wrB (readP s).2.1 (readP s).2.2, .cells g 1 false (atsI (readP s).1)]) := by
  refine ⟨(readP s).1.length, ?_⟩
  refine turns_of_body L_ok (fn := Try.f11) rfl rfl rfl rfl (by kernel_rfl) ?_
  have a1 := Read_ok (m := m) s hs
  have hsz := (readP_all s).2
  generalize readP s = x at a1 hsz hne ⊢
  obtain ⟨l, c, a⟩ := x
  simp only at a1 hsz hne ⊢
  rw [itemsL_some hne] at a1
  have hlen := sizeL_len l
  repeat' (first
    | apply w_seq
    | apply w_region
    | apply o_end
    | apply t_normal
    | (apply o_val; exact kc0; exact kc2)
    | (apply o_fn fine; exact kc0; exact kc1; exact a1; exact kc3)
    | (apply o_mem; exact kc0; rfl; exact kc1)
    | apply w_block
    | fail)
  clear a1
  refine w_loopT (fun n f H => ∃ (out rest : List ItemT) (A : D), Sep out rest l ∧ n = rest.length ∧ f 3 = .ref 0 0 0 0 ∧ f 5 = .ref 1 0 0 0 ∧ f 6 = A ∧ f 14 = .isl 17 (l.map itemC) ∧ f 15 = .int .i64 l.length ∧ f 16 = .int .i64 out.length ∧
    ((out = [] ∧ A = .nilsl ∧ H = [wr0, wrB c a]) ∨ (out ≠ [] ∧ A = .slice 2 0 out.length out.length ∧ H = [wr0, wrB c a, .cells out.length 1 false (atsI out)]))) l.length
    ⟨[], l, .nilsl, rfl, by simp, by simp, by simp, by simp, by simp, by simp, by simp, .inl ⟨rfl, rfl, rfl⟩⟩ ?_
  rintro n f H ⟨out, rest, A, hsep, rfl, g3, g5, g6, g14, g15, g16, hor⟩
  cases rest with
  | cons x r =>
    have hlt : out.length < l.length := by rw [hsep.len]; simp
    have hx : l[out.length] = x := hsep.get hlt
    have hsep2 := hsep.next
    have hc : decide ((out.length : Int) < (l.length : Int)) = true := by simp; omega
    have hb1 : (out.length + 1) * 8 ≤ 140737488355328 := by omega
    have hb2 : out.length ≤ 140737488355327 := by omega
    rcases hor with ⟨rfl, rfl, rfl⟩ | ⟨h0, rfl, rfl⟩
    · simp only [List.length_nil] at hlt hx
      clear hc
      repeat' (first
        | apply w_seq
        | apply w_region
        | apply o_end
        | apply t_normal
        | (apply o_add; exact kc0; exact kc2; rfl; exact kc2; rfl; exact ke2)
        | (apply o_val; exact kc0; exact kc2)
        | (apply o_fuse; exact kc0; rfl; (focus (simp [*]; first | rfl | exact ⟨rfl, rfl⟩)); exact kc0; rfl; (focus (simp [*]; first | rfl | exact ⟨rfl, rfl⟩ | exact ⟨rfl, rfl, rfl⟩)); (focus (intro d hd; apply Under.flat; revert hd; revert d; simp; done)))
        | (apply o_frz (op := Op.buildSlice _ _ _); exact kc0; rfl; exact kc1; (focus (simp; done)); exact kd7)
        | (apply o_mem; exact kc0; rfl; exact kc1)
        | apply w_skip
        | apply w_block
        | apply b_normal
        | (apply w_true; exact kc3)
        | fail)
      refine ⟨r.length, by simp, [wr0, wrB c a, .cells 1 1 false (atsI [x])], 3, [(3, .ref 0 0 0 0), (5, .ref 1 0 0 0), (6, .slice 2 0 1 1), (14, .isl 17 (l.map itemC)), (15, .int .i64 l.length), (16, .int .i64 1)],
        by simp, by simp [*], by simp, ?_, ?_, [x], r, .slice 2 0 1 1, hsep2, rfl, by simp [lookF], by simp [lookF], by simp [lookF], by simp [lookF], by simp [lookF], by simp [lookF], .inr ⟨by simp, rfl, rfl⟩⟩
      · intro b hb
        simp only [List.mem_cons, List.not_mem_nil, or_false] at hb
        rcases hb with rfl | rfl | rfl
        all_goals simp
      · intro p hp
        simp only [List.mem_cons, List.not_mem_nil, or_false] at hp
        rcases hp with rfl | rfl | rfl | rfl | rfl | rfl
        all_goals exact .inl ⟨by simp [*], by simp⟩
    · skip
      repeat' (first
        | apply w_seq
        | apply w_region
        | apply o_end
        | apply t_normal
        | (apply o_add; exact kc0; exact kc2; rfl; exact kc2; rfl; exact ke2)
        | (apply o_val; exact kc0; exact kc2)
        | (apply o_fuse; exact kc0; rfl; (focus (simp [*]; first | rfl | exact ⟨rfl, rfl⟩)); exact kc0; rfl; (focus (simp [*]; first | rfl | exact ⟨rfl, rfl⟩ | exact ⟨rfl, rfl, rfl⟩)); (focus (intro d hd; apply Under.flat; revert hd; revert d; simp; done)))
        | (apply o_frz (op := Op.buildSlice _ _ _); exact kc0; rfl; exact kc1; (focus (simp; done)); exact kd7)
        | (apply o_mem; exact kc0; rfl; exact kc1)
        | apply w_skip
        | apply w_block
        | apply b_normal
        | (apply w_true; exact kc3)
        | fail)
      refine ⟨r.length, by simp, [wr0, wrB c a, .cells (out.length + 1) 1 false (atsI (out ++ [x]))], 3, [(3, .ref 0 0 0 0), (5, .ref 1 0 0 0), (6, .slice 2 0 (out.length + 1) (out.length + 1)), (14, .isl 17 (l.map itemC)), (15, .int .i64 l.length), (16, .int .i64 ((out.length + 1 : Nat) : Int))],
        by simp, by simp [*], by simp, ?_, ?_, out ++ [x], r, .slice 2 0 (out.length + 1) (out.length + 1), hsep2, rfl, by simp [lookF], by simp [lookF], by simp [lookF], by simp [lookF], by simp [lookF], by simp [lookF], .inr ⟨by simp, by simp, by simp⟩⟩
      · intro b hb
        simp only [List.mem_cons, List.not_mem_nil, or_false] at hb
        rcases hb with rfl | rfl | rfl
        · simp
        · simp
        · intro y hy d hd
          obtain ⟨z, _, rfl⟩ := List.mem_map.1 hy
          obtain rfl := List.mem_singleton.1 hd
          exact .int _ _
      · intro p hp
        simp only [List.mem_cons, List.not_mem_nil, or_false] at hp
        rcases hp with rfl | rfl | rfl | rfl | rfl | rfl
        all_goals exact .inl ⟨by simp [*], by simp⟩
  | nil =>
    obtain rfl : out = l := by simpa [Sep] using hsep
    have hc : decide ((out.length : Int) < (out.length : Int)) = false := by simp
    rcases hor with ⟨h0, rfl, rfl⟩ | ⟨h0, rfl, rfl⟩
    · exact absurd h0 hne
    · clear hsep
      repeat' (first
        | apply w_seq
        | apply w_region
        | apply o_end
        | apply t_normal
        | (apply o_val; exact kc0; exact kc2)
        | apply w_ret
        | apply w_exit
        | apply t_exit
        | apply b_here
        | (apply w_false; exact kc3)
        | (apply w_drawN; rfl; exact ke3; exact kc4)
        | (apply a_end; exact kc4)
        | (apply a_val; exact kc4; exact kc5; exact kd9; exact kc6)
        | (apply a_tie; exact kc4; exact kc5; exact ke0; exact kc7; exact kc6; exact kc4)
        | (apply a_mem; exact kc4; exact kc5; exact ke1; exact kd8; exact kc7; exact kc6; exact kc4)
        | fail)
      apply t_retT
      · simp [*]; rfl
      · rfl
      · rfl
end Go.Proofs.Ytknkkfdkcemolaa.Vm
end
section
/- Walks: what every program answers that is one; how deep parts may be. -/
set_option linter.unusedSimpArgs false
set_option linter.unusedVariables false
set_option maxRecDepth 100000
set_option maxHeartbeats 4000000
namespace Go.Proofs.Ytknkkfdkcemolaa.Vm
open Go
variable {m : Int}
attribute [local irreducible] wpD opsD thenD blockD planD planA LoopD
attribute [local simp] List.take_of_length_le List.drop_of_length_le bne mvD itemsL_flat

theorem Items_ok (s : List UInt8) (hs : s.length < 1000000) : Ans (L m) 11 [.str s] (.tuple [beginsL (begins s), wrD (readP s).2.1 (readP s).2.2]) := by
  by_cases hne : (readP s).1 = []
  · have hb : begins s = [] := by unfold begins; rw [hne]; rfl
    rw [hb]
    clear hb
    refine fn_of_body L_ok (fn := Try.f11) rfl rfl rfl rfl (by kernel_rfl) ?_
    have a1 := Read_ok (m := m) s hs
    generalize readP s = x at a1 hne ⊢
    obtain ⟨l, c, a⟩ := x
    simp only at a1 hne ⊢
    subst hne
    simp only [itemsL] at a1
    repeat' (first
      | apply w_seq
      | apply w_region
      | apply o_end
      | apply t_normal
      | (apply o_val; exact kc0; exact kc2)
      | (apply o_fn fine; exact kc0; exact kc1; exact a1; exact kc3)
      | (apply o_mem; exact kc0; rfl; exact kc1)
      | apply w_block
      | fail)
    apply loop_is
    apply loop_unfold
    repeat' (first
      | apply w_seq
      | apply w_region
      | apply o_end
      | apply t_normal
      | (apply o_val; exact kc0; exact kc2)
      | apply w_ret
      | apply w_exit
      | apply t_exit
      | apply b_here
      | (apply w_false; exact kc3)
      | (apply w_drawN; rfl; exact ke3; exact kc4)
      | (apply a_end; exact kc4)
      | (apply a_val; exact kc4; exact kc5; exact kd9; exact kc6)
      | (apply a_tie; exact kc4; exact kc5; exact ke0; exact kc7; exact kc6; exact kc4)
      | (apply a_mem; exact kc4; exact kc5; exact ke1; exact kd8; exact kc7; exact kc6; exact kc4)
      | fail)
    · apply f_retf
      · simp [*]; rfl
      · simp
      · rfl
  · obtain ⟨g, h⟩ := Items_turns (m := m) s hs hne
    refine ans_of_turns h ?_
    have hb : begins s ≠ [] := by
      unfold begins
      simpa using hne
    rw [beginsL_some hb]
    have hE : intsL (begins s) = .isl 1 (atsI (readP s).1) := by
      unfold begins intsL atsI
      rw [List.map_map]
      rfl
    rw [hE]
    refine .tuple (by simp) (fun k d e hd he => ?_)
    match k, hd, he with
    | 1, hd, he =>
      cases hd
      cases he
      exact .flat (by simp)
    | k + 2, hd, he => simp at hd
    | 0, hd, he =>
    cases hd
    cases he
    refine Snap.slice_flat trivial rfl (by simp) (by simp) ?_
    intro y hy d hd
    obtain ⟨z, _, rfl⟩ := List.mem_map.1 hy
    obtain rfl := List.mem_singleton.1 hd
    exact .int _ _
theorem awake_ok : Ans (L m) 9 [] (.bool true) := by
  refine fn_of_body L_ok (fn := Try.f9) rfl rfl rfl rfl (by kernel_rfl) ?_
  have a1 := Dump_ok (m := m) [112, 114, 111, 112, 101, 114, 116, 121, 32, 112, 32, 61, 32, 110, 111, 116, 32, 107, 110, 111, 119, 115, 32, 115, 59] (by decide)
  have e1 : dumpS (readP [112, 114, 111, 112, 101, 114, 116, 121, 32, 112, 32, 61, 32, 110, 111, 116, 32, 107, 110, 111, 119, 115, 32, 115, 59]).1 = [112, 114, 111, 112, 101, 114, 116, 121, 32, 112, 32, 40, 110, 111, 116, 32, 40, 107, 110, 111, 119, 115, 32, 115, 41, 41, 10] := by kernel_rfl
  have e2 : (readP [112, 114, 111, 112, 101, 114, 116, 121, 32, 112, 32, 61, 32, 110, 111, 116, 32, 107, 110, 111, 119, 115, 32, 115, 59]).2 = (0, 0) := by kernel_rfl
  have a2 := Dump_ok (m := m) [115, 101, 99, 114, 101, 116] (by decide)
  have e3 : readP [115, 101, 99, 114, 101, 116] = ([], 4, 6) := by kernel_rfl
  have a3 := Items_ok (m := m) [115, 101, 99, 114, 101, 116, 32, 97, 59, 32, 115, 101, 99, 114, 101, 116, 32, 98, 59] (by decide)
  have e4 : begins [115, 101, 99, 114, 101, 116, 32, 97, 59, 32, 115, 101, 99, 114, 101, 116, 32, 98, 59] = [0, 10] := by kernel_rfl
  have e5 : (readP [115, 101, 99, 114, 101, 116, 32, 97, 59, 32, 115, 101, 99, 114, 101, 116, 32, 98, 59]).2 = (0, 0) := by kernel_rfl
  have cI : Ans (L m) 14 [.isl 1 [[.int .i64 0], [.int .i64 10]], .isl 1 [[.int .i64 0], [.int .i64 10]]] (.bool true) := SameInts_ok (m := m) [0, 10] [0, 10] (by decide)
  rw [e1, e2] at a1
  rw [e3] at a2
  rw [e4, e5] at a3
  clear e1 e2 e3 e4 e5
  simp only [dumpS, List.map_nil, List.flatten_nil, beginsL, List.map_cons] at a1 a2 a3
  repeat' (first
    | apply w_seq
    | apply w_region
    | apply o_end
    | apply t_normal
    | (apply o_mpick; exact kc9; exact kd0; rfl; exact kd1; rfl; exact kd1; rfl)
    | (apply o_val; exact kc0; exact kc2)
    | (apply o_frz (op := Op.buildSlice _ _ _); exact kc0; rfl; exact kc1; (focus (simp; done)); exact kd7)
    | (apply o_fn fine; exact kc0; exact kc1; exact a1; exact kc3)
    | (apply o_fn fine; exact kc0; exact kc1; exact a2; exact kc3)
    | (apply o_fn fine; exact kc0; exact kc1; exact a3; exact kc3)
    | (apply o_fn fine; exact kc0; exact kc1; exact cI; exact kc3)
    | (apply o_mem; exact kc0; rfl; exact kc1)
    | apply w_ret
    | fail)
  · apply f_retf
    · simp [*]; rfl
    · simp
    · rfl
end Go.Proofs.Ytknkkfdkcemolaa.Vm
end
