/- Walks: code, what reads states out of bytes that lie in the caller's memory. -/
import Derived.Test.YtejpgmemohchaaaCwB
set_option linter.unusedSimpArgs false
set_option linter.unusedVariables false
set_option maxRecDepth 100000
set_option maxHeartbeats 4000000
namespace Go.Proofs.Ytejpgmemohchaaa.Vm
open Go
attribute [local irreducible] wpD opsD thenD blockD planD planA
attribute [local simp] List.take_of_length_le List.drop_of_length_le

theorem suf_next (r : Rd) : (nextR r).2.b <:+ r.b := by
  obtain ⟨b, bad⟩ := r
  cases b with
  | nil => simp [nextR]
  | cons c l => simp [nextR]
theorem suf_numL : ∀ (k s u : Nat) (r : Rd), (numL k s u r).2.b <:+ r.b
  | 0, _, _, r => List.suffix_refl _
  | k + 1, s, u, r => by
    rw [numL]
    split
    · exact suf_next r
    · exact (suf_numL k _ _ _).trans (suf_next r)
theorem suf_num (r : Rd) : (numR r).2.b <:+ r.b := suf_numL ..
theorem suf_tru (r : Rd) : (truR r).2.b <:+ r.b := suf_next r
theorem suf_mark (n : Int) (r : Rd) : (markR n r).b <:+ r.b := by
  unfold markR
  split <;> exact List.suffix_refl _
theorem suf_row {α : Type} {read : Rd → α × Rd} (h : ∀ r, (read r).2.b <:+ r.b) : ∀ (k : Nat) (r : Rd) (out : List α), (rowR read k r out).2.b <:+ r.b
  | 0, r, out => List.suffix_refl _
  | k + 1, r, out => by
    rw [rowR]
    split
    · exact List.suffix_refl _
    · exact (suf_row h k _ _).trans (h r)
theorem suf_list {α : Type} {read : Rd → α × Rd} (h : ∀ r, (read r).2.b <:+ r.b) (r : Rd) : (listR read r).2.b <:+ r.b :=
  (suf_row h _ _ _).trans ((suf_mark _ _).trans (suf_num r))
theorem suf_rq (r : Rd) : (rqR r).2.b <:+ r.b :=
  (suf_list suf_num _).trans ((suf_tru _).trans ((suf_tru _).trans ((suf_tru _).trans ((suf_num _).trans ((suf_num _).trans ((suf_num _).trans (suf_num r)))))))

abbrev X0 : Blk := .cells 0 8 false [[.int .i64 0, .bool false, .nilsl, .nilsl, .nilsl, .nilsl, .nilsl, .nilsl]]
abbrev rp2 : D := .ref 2 0 0 0
abbrev rdB (al : List UInt8) (r : Rd) : Heap := [.cells al.length 1 false (al.map encB), X0, .cells 0 2 false [[.slice 0 (al.length - r.b.length) r.b.length al.length, .bool r.bad]]]
theorem rdB_at (p b : List UInt8) (bad : Bool) (G : Nat) (hG : (p ++ b).length = G) : rdB (p ++ b) ⟨b, bad⟩ = [.cells G 1 false (p.map encB ++ b.map encB), X0, .cells 0 2 false [[.slice 0 p.length b.length G, .bool bad]]] := by
  subst hG
  simp [rdB]
@[local simp] theorem gB0 {α β : Type} {f : α → β} {p : List α} {l : List β} {x : β} : (p.map f ++ x :: l)[p.length]? = some x := by
  rw [List.getElem?_append_right (by simp)]
  simp
theorem next_okB {al : List UInt8} (r : Rd) (hs : r.b <:+ al) (hal : al.length < 1501) : CallsV L 47 [rp2] (rdB al r) (Turns (.int .u8 (nextR r).1.toNat) (rdB al (nextR r).2)) := by
  refine turns_of_body L_ok (fn := Try.f47) rfl rfl rfl rfl (by kernel_rfl) ?_
  obtain ⟨b, bad⟩ := r
  obtain ⟨p, hp⟩ := hs
  simp only at hp
  subst hp
  obtain ⟨G, hG⟩ : ∃ G, (p ++ b).length = G := ⟨_, rfl⟩
  rw [rdB_at p b bad G hG]
  cases b with
  | nil =>
    have e2 : rdB (p ++ []) (nextR ⟨[], bad⟩).2 = [.cells G 1 false (p.map encB ++ ([] : List UInt8).map encB), X0, .cells 0 2 false [[.slice 0 p.length 0 G, .bool true]]] := rdB_at p [] true G hG
    rw [e2]
    clear hG e2 hal
    repeat' (first
      | apply w_seq
      | apply w_region
      | apply o_end
      | apply t_normal
      | (apply o_val; exact kc0; exact kc2)
      | (apply o_mem; exact kc0; rfl; exact kc1)
      | apply w_ret
      | apply t_ret
      | (apply w_true; exact kc3)
      | fail)
    apply t_retT
    · simp [*]; rfl
    · simp [nextR]
    · simp
  | cons c l =>
    have e2 : rdB (p ++ c :: l) (nextR ⟨c :: l, bad⟩).2 = [.cells G 1 false (p.map encB ++ encB c :: l.map encB), X0, .cells 0 2 false [[.slice 0 (p.length + 1) l.length G, .bool bad]]] := by
      have h1 : p ++ c :: l = (p ++ [c]) ++ l := by simp
      show rdB (p ++ c :: l) ⟨l, bad⟩ = _
      rw [h1, rdB_at (p ++ [c]) l bad G (by rw [← hG, h1])]
      simp
    rw [e2]
    have hz : p.length + (l.length + 1) = G := by rw [← hG]; simp
    have h1 : ¬ ((l.length : Int) + 1 = 0) := by omega
    have h2 : (1 : Int) ≤ (l.length : Int) + 1 := by omega
    have h3 : 1 ≤ l.length + 1 := by omega
    have h5 : p.length + (l.length + 1) - p.length = l.length + 1 := by omega
    rw [List.map_cons]
    clear hG e2 hal hz
    repeat' (first
      | apply w_seq
      | apply w_region
      | apply o_end
      | apply t_normal
      | (apply o_val; exact kc0; exact kc2)
      | (apply o_mem; exact kc0; rfl; exact kc1)
      | apply w_skip
      | apply w_ret
      | (apply w_false; exact kc3)
      | fail)
    apply t_retT
    · simp [*]; rfl
    · simp [nextR]
    · simp
theorem truth_readB {al : List UInt8} (r : Rd) (hs : r.b <:+ al) (hal : al.length < 1501) : CallsV L 26 [rp2] (rdB al r) (Turns (.bool (truR r).1) (rdB al (truR r).2)) := by
  refine turns_of_body L_ok (fn := Try.f26) rfl rfl rfl rfl (by kernel_rfl) ?_
  repeat' (first
    | apply w_seq
    | apply w_region
    | apply o_end
    | apply t_normal
    | (apply o_val; exact kc0; exact kc2)
    | (apply o_turns; exact kc0; exact kc1; (focus (exact next_okB r hs hal)))
    | apply w_ret
    | fail)
  apply t_retT
  · simp [*]; rfl
  · simp [truR, u8_is_one]
  · rfl
theorem number_readB {al : List UInt8} (r : Rd) (hs : r.b <:+ al) (hal : al.length < 1501) : CallsV L 25 [rp2] (rdB al r) (Turns (.int .i64 (numR r).1) (rdB al (numR r).2)) := by
  refine turns_of_body L_ok (fn := Try.f25) rfl rfl rfl rfl (by kernel_rfl) ?_
  repeat' (first
    | apply w_seq
    | apply w_region
    | apply o_end
    | apply t_normal
    | (apply o_val; exact kc0; exact kc2)
    | apply w_block
    | fail)
  refine w_loop (fun m f H => ∃ (k s u : Nat) (r' : Rd), m = k ∧ H = rdB al r' ∧ r'.b <:+ al ∧ f 0 = rp2 ∧ s + 7 * k = 70 ∧ u < 18446744073709551616 ∧ numL k s u r' = numR r ∧ f 3 = .int .u64 (u : Nat) ∧ f 4 = .int .i64 (s : Nat)) 10 ⟨10, 0, 0, r, rfl, rfl, hs, by simp, by omega, by decide, rfl, by simp⟩ ?_
  rintro m f H ⟨k, s, u, r', rfl, rfl, hr', hf0, hs7, hu, hn, hf3, hf4⟩
  cases m with
  | zero =>
    have h1 : ¬ (s : Int) < 64 := by omega
    have h2 : numR r = (0, ⟨r'.b, true⟩) := hn.symm
    clear hn
    repeat' (first
      | apply w_seq
      | apply w_region
      | apply o_end
      | apply t_normal
      | (apply o_val; exact kc0; exact kc2)
      | (apply o_mem; exact kc0; rfl; exact kc1)
      | apply w_ret
      | apply w_exit
      | apply t_exit
      | apply b_here
      | (apply w_false; exact kc3)
      | fail)
    apply t_retT
    · simp [*]; rfl
    · simp [*]
    · simp [*]
  | succ k =>
    have h1 : (s : Int) < 64 := by omega
    have hx := next_okB r' hr' hal
    have hsx := (suf_next r').trans hr'
    have hn' : numR r = if (nextR r').1.toNat < 128 then (unzz (orG u s (nextR r').1), (nextR r').2) else numL k (s + 7) (orG u s (nextR r').1) (nextR r').2 := hn.symm
    clear hn
    have hlen := next_len r'
    generalize (nextR r').1 = c at *
    generalize (nextR r').2 = r'' at *
    have z15 := b15 c
    have z16 := b16 c
    have z18 := b18 c s (by omega)
    have z19 := b19 u s c hu
    have hv := orG_lt (s := s) c hu
    generalize (c.toNat % 128) * 2 ^ s % 18446744073709551616 = w at *
    generalize orG u s c = v at *
    have z23 := b23 v
    have z24 := b24 v hv
    have z26 := b26 v hv
    have z29 := b29 v hv
    by_cases hc : c.toNat < 128
    · have hc' : (c.toNat : Int) < 128 := by omega
      rw [if_pos hc] at hn'
      by_cases h2 : v % 2 = 1
      · have h2' : (v : Int) % 2 = 1 := by omega
        have hz : unzz v = -((v : Int) / 2) - 1 := by unfold unzz; rw [if_pos h2]; omega
        repeat' (first
          | apply w_seq
          | apply w_region
          | apply o_end
          | apply t_normal
          | (apply o_val; exact kc0; exact kc2)
          | (apply o_turns; exact kc0; exact kc1; exact hx)
          | (apply o_mem; exact kc0; rfl; exact kc1)
          | apply w_skip
          | apply w_block
          | apply w_ret
          | apply t_ret
          | apply b_ret
          | (apply w_true; exact kc3)
          | fail)
        apply t_retT
        · simp [*]; rfl
        · simp [*]
        · simp [*]
      · have h2' : ¬ (v : Int) % 2 = 1 := by omega
        have hz : unzz v = (v : Int) / 2 := by unfold unzz; rw [if_neg h2]; omega
        repeat' (first
          | apply w_seq
          | apply w_region
          | apply o_end
          | apply t_normal
          | (apply o_val; exact kc0; exact kc2)
          | (apply o_turns; exact kc0; exact kc1; exact hx)
          | (apply o_mem; exact kc0; rfl; exact kc1)
          | apply w_skip
          | apply w_block
          | apply w_ret
          | apply t_ret
          | apply b_ret
          | (apply w_true; exact kc3)
          | (apply w_false; exact kc3)
          | fail)
        apply t_retT
        · simp [*]; rfl
        · simp [*]
        · simp [*]
    · have hc' : ¬ (c.toNat : Int) < 128 := by omega
      rw [if_neg hc] at hn'
      have h7 : IntKind.i64.wrap ((s : Int) + 7) = (s : Int) + 7 := wrap_i64 (by omega) (by omega)
      repeat' (first
        | apply w_seq
        | apply w_region
        | apply o_end
        | apply t_normal
        | (apply o_add; exact kc0; exact kc2; rfl; exact kc2; rfl; exact ke2)
        | (apply o_val; exact kc0; exact kc2)
        | (apply o_turns; exact kc0; exact kc1; exact hx)
        | (apply o_mem; exact kc0; rfl; exact kc1)
        | apply w_skip
        | apply w_block
        | apply b_normal
        | (apply w_true; exact kc3)
        | (apply w_false; exact kc3)
        | fail)
      exact ⟨k, by omega, k, s + 7, v, r'', rfl, rfl, hsx, by simp [*], by omega, hv, hn'.symm, by simp [*], by simp [*]⟩

theorem lists_intB {al : List UInt8} (r : Rd) (hs : r.b <:+ al) (hal : al.length < 1501) : CallsV L 27 [rp2, .func (.func 25) [rp2] []] (rdB al r) (Turns (intsL (listR numR r).1) (rdB al (listR numR r).2)) := by
  refine gives_of_body L_ok rfl (by simp) (fn := Try.f27) rfl rfl rfl rfl (by kernel_rfl) ?_
  have hb : r.b.length < 1501 := Nat.lt_of_le_of_lt hs.length_le hal
  obtain ⟨hni, hnl⟩ := makes_num r hb
  have hx := number_readB r hs hal
  have hsm := (suf_mark (numR r).1 (numR r).2).trans ((suf_num r).trans hs)
  have hL : listR numR r = rowR numR (numR r).1.toNat (markR (numR r).1 (numR r).2) [] := rfl
  rw [hL]
  clear hL
  generalize (numR r).1 = n at *
  generalize hr1 : (numR r).2 = r1 at *
  have hmk : (markR n r1).b.length < 1501 ∧ (n < 1501 ∨ (markR n r1).bad = true) := by
    unfold markR
    split
    · exact ⟨by simp only; omega, .inr rfl⟩
    · exact ⟨by omega, .inl (by omega)⟩
  have hmk2 : rdB al (markR n r1) = [.cells al.length 1 false (al.map encB), X0, .cells 0 2 false [[.slice 0 (al.length - r1.b.length) r1.b.length al.length, .bool (decide (n < 0 ∨ (r1.b.length : Int) < n) || r1.bad)]]] := by
    unfold markR
    split
    · rename_i h; simp [rdB, h]
    · rename_i h; simp [rdB, h]
  have key : ∀ (f : Fr) (H : Heap), H = rdB al (markR n r1) → f 0 = rp2 → f 1 = .func (.func 25) [rp2] [] → f 6 = .nilsl → f 23 = .int .i64 n → f 24 = .int .i64 0 →
      ∃ (k i : Nat) (r' : Rd) (out : List Int) (K : Heap), n.toNat = k ∧ i + k = n.toNat ∧ out.length ≤ i ∧ r'.b <:+ al ∧ r'.b.length < 1501 ∧ (n < 1501 ∨ r'.bad = true) ∧ rowR numR k r' out = rowR numR n.toNat (markR n r1) [] ∧ H = rdB al r' ++ K ∧
        ((out = [] ∧ K = [] ∧ f 6 = .nilsl) ∨ (out ≠ [] ∧ K = [.cells out.length 1 false (out.map encI)] ∧ f 6 = .slice 3 0 out.length out.length)) ∧ f 0 = rp2 ∧ f 1 = .func (.func 25) [rp2] [] ∧ f 23 = .int .i64 n ∧ f 24 = .int .i64 (i : Nat) :=
    fun f H h h0 h1 h6 h23 h24 => ⟨n.toNat, 0, markR n r1, [], [], rfl, by omega, by simp, hsm, hmk.1, hmk.2, rfl, by rw [h, List.append_nil], .inl ⟨rfl, rfl, h6⟩, h0, h1, h23, h24⟩
  obtain ⟨res, hres⟩ : ∃ res, rowR numR n.toNat (markR n r1) [] = res := ⟨_, rfl⟩
  rw [hres] at key ⊢
  by_cases c1 : n < 0
  · have e : rdB al (markR n r1) = [.cells al.length 1 false (al.map encB), X0, .cells 0 2 false [[.slice 0 (al.length - r1.b.length) r1.b.length al.length, .bool true]]] := by rw [hmk2]; simp [c1]
    rw [e] at key
    clear hmk2 e hres
    repeat' (first
      | apply w_seq
      | apply w_region
      | apply o_end
      | apply t_normal
      | (apply o_val; exact kc0; exact kc2)
      | (apply o_turns; exact kc0; exact kc1; exact hx)
      | (apply o_mem; exact kc0; rfl; exact kc1)
      | apply w_block
      | (apply w_true; exact kc3)
      | (apply o_no; exact ke7)
      | fail)
    refine w_loop (fun m f H => ∃ (k i : Nat) (r' : Rd) (out : List Int) (K : Heap), m = k ∧ i + k = n.toNat ∧ out.length ≤ i ∧ r'.b <:+ al ∧ r'.b.length < 1501 ∧ (n < 1501 ∨ r'.bad = true) ∧ rowR numR k r' out = res ∧ H = rdB al r' ++ K ∧
            ((out = [] ∧ K = [] ∧ f 6 = .nilsl) ∨ (out ≠ [] ∧ K = [.cells out.length 1 false (out.map encI)] ∧ f 6 = .slice 3 0 out.length out.length)) ∧ f 0 = rp2 ∧ f 1 = .func (.func 25) [rp2] [] ∧ f 23 = .int .i64 n ∧ f 24 = .int .i64 (i : Nat)) n.toNat (key _ _ rfl (by simp) (by simp) (by simp) (by simp) (by simp)) ?_
    clear key hx
    rintro m f H ⟨k, i, r', out, K, rfl, hik, hol, hsr, hr', hbig, hrow, rfl, hout, hf0, hf1, hf23, hf24⟩
    cases m with
    | zero =>
      have hlt : ¬ (i : Int) < n := by omega
      rw [rowR] at hrow
      subst hrow
      rcases hout with ⟨rfl, rfl, hf6⟩ | ⟨hne, rfl, hf6⟩
      · skip
        repeat' (first
          | apply w_seq
          | apply w_region
          | apply o_end
          | apply t_normal
          | (apply o_val; exact kc0; exact kc2)
          | apply w_ret
          | apply w_exit
          | apply t_exit
          | apply b_here
          | (apply w_false; exact kc3)
          | fail)
        refine g_ret (K := []) (by simp [*]; rfl) rfl ?_
        exact .nil
      · skip
        repeat' (first
          | apply w_seq
          | apply w_region
          | apply o_end
          | apply t_normal
          | (apply o_val; exact kc0; exact kc2)
          | apply w_ret
          | apply w_exit
          | apply t_exit
          | apply b_here
          | (apply w_false; exact kc3)
          | fail)
        refine g_ret (K := [.cells out.length 1 false (out.map encI)]) (by simp [*]; rfl) rfl ?_
        exact .slice_flat (by simp) rfl (by simp) (by simp) (flt_int _)
    | succ k =>
      have hlt : (i : Int) < n := by omega
      rw [rowR] at hrow
      by_cases hbad : r'.bad = true
      · rw [if_pos hbad] at hrow
        subst hrow
        rcases hout with ⟨rfl, rfl, hf6⟩ | ⟨hne, rfl, hf6⟩
        · skip
          repeat' (first
            | apply w_seq
            | apply w_region
            | apply o_end
            | apply t_normal
            | (apply o_val; exact kc0; exact kc2)
            | apply w_skip
            | apply w_block
            | apply w_ret
            | apply t_ret
            | apply b_ret
            | (apply w_true; exact kc3)
            | fail)
          refine g_ret (K := []) (by simp [*]; rfl) rfl ?_
          exact .nil
        · skip
          repeat' (first
            | apply w_seq
            | apply w_region
            | apply o_end
            | apply t_normal
            | (apply o_val; exact kc0; exact kc2)
            | apply w_skip
            | apply w_block
            | apply w_ret
            | apply t_ret
            | apply b_ret
            | (apply w_true; exact kc3)
            | fail)
          refine g_ret (K := [.cells out.length 1 false (out.map encI)]) (by simp [*]; rfl) rfl ?_
          exact .nil
      · have hbad' : r'.bad = false := by simpa using hbad
        rw [if_neg hbad] at hrow
        have hn' : n < 1501 := hbig.resolve_right hbad
        have hy := number_readB r' hsr hal
        have hsr2 := (suf_num r').trans hsr
        have hle := (makes_num r' hr').2
        generalize (numR r').1 = v at *
        generalize (numR r').2 = r'' at *
        have hb1 : out.length + 1 ≤ 140737488355328 := by omega
        have hb2 : (out.length + 1) * 88 ≤ 140737488355328 := by omega
        have hb3 : (out.length + 1) * 8 ≤ 140737488355328 := by omega
        have hb4 : (out.length + 1) * 64 ≤ 140737488355328 := by omega
        have h7 : IntKind.i64.wrap ((i : Int) + 1) = (i : Int) + 1 := wrap_i64 (by omega) (by omega)
        rcases hout with ⟨rfl, rfl, hf6⟩ | ⟨hne, rfl, hf6⟩
        · skip
          repeat' (first
            | apply w_seq
            | apply w_region
            | apply o_end
            | apply t_normal
            | (apply o_add; exact kc0; exact kc2; rfl; exact kc2; rfl; exact ke2)
            | (apply o_val; exact kc0; exact kc2)
            | (apply o_lit; exact kc0; exact kc1; (focus (simp; done)); exact kd7)
            | (apply o_beside fine; exact kc0; exact kc1; exact hy; rfl; rfl; exact kd4; (focus (simp only [rowH, rdB, List.cons_append, List.nil_append]; rfl)))
            | (apply o_mem; exact kc0; rfl; exact kc1)
            | apply w_skip
            | apply w_block
            | apply b_normal
            | (apply w_true; exact kc3)
            | (apply w_false; exact kc3)
            | fail)
          exact ⟨k, by omega, k, i + 1, r'', [v], [.cells 1 1 false [encI v]], rfl, by omega, by simp, hsr2, by omega, .inl hn', by simpa using hrow, rfl, .inr ⟨by simp, rfl, by simp⟩, by simp [*], by simp [*], by simp [*], by simp [*]⟩
        · skip
          repeat' (first
            | apply w_seq
            | apply w_region
            | apply o_end
            | apply t_normal
            | (apply o_add; exact kc0; exact kc2; rfl; exact kc2; rfl; exact ke2)
            | (apply o_val; exact kc0; exact kc2)
            | (apply o_lit; exact kc0; exact kc1; (focus (simp; done)); exact kd7)
            | (apply o_beside fine; exact kc0; exact kc1; exact hy; rfl; rfl; exact kd4; (focus (simp only [rowH, rdB, List.cons_append, List.nil_append]; rfl)))
            | (apply o_mem; exact kc0; rfl; exact kc1)
            | apply w_skip
            | apply w_block
            | apply b_normal
            | (apply w_true; exact kc3)
            | (apply w_false; exact kc3)
            | fail)
          exact ⟨k, by omega, k, i + 1, r'', out ++ [v], [.cells (out.length + 1) 1 false (out.map encI ++ [encI v])], rfl, by omega, by simp; omega, hsr2, by omega, .inl hn', by simpa using hrow, rfl, .inr ⟨by simp, by simp, by simp⟩, by simp [*], by simp [*], by simp [*], by simp [*]⟩
  · by_cases c2 : (r1.b.length : Int) < n
    · have e : rdB al (markR n r1) = [.cells al.length 1 false (al.map encB), X0, .cells 0 2 false [[.slice 0 (al.length - r1.b.length) r1.b.length al.length, .bool true]]] := by rw [hmk2]; simp [c2]
      rw [e] at key
      clear hmk2 e hres
      repeat' (first
        | apply w_seq
        | apply w_region
        | apply o_end
        | apply t_normal
        | (apply o_val; exact kc0; exact kc2)
        | (apply o_turns; exact kc0; exact kc1; exact hx)
        | (apply o_mem; exact kc0; rfl; exact kc1)
        | apply w_block
        | (apply w_true; exact kc3)
        | fail)
      refine w_loop (fun m f H => ∃ (k i : Nat) (r' : Rd) (out : List Int) (K : Heap), m = k ∧ i + k = n.toNat ∧ out.length ≤ i ∧ r'.b <:+ al ∧ r'.b.length < 1501 ∧ (n < 1501 ∨ r'.bad = true) ∧ rowR numR k r' out = res ∧ H = rdB al r' ++ K ∧
              ((out = [] ∧ K = [] ∧ f 6 = .nilsl) ∨ (out ≠ [] ∧ K = [.cells out.length 1 false (out.map encI)] ∧ f 6 = .slice 3 0 out.length out.length)) ∧ f 0 = rp2 ∧ f 1 = .func (.func 25) [rp2] [] ∧ f 23 = .int .i64 n ∧ f 24 = .int .i64 (i : Nat)) n.toNat (key _ _ rfl (by simp) (by simp) (by simp) (by simp) (by simp)) ?_
      clear key hx
      rintro m f H ⟨k, i, r', out, K, rfl, hik, hol, hsr, hr', hbig, hrow, rfl, hout, hf0, hf1, hf23, hf24⟩
      cases m with
      | zero =>
        have hlt : ¬ (i : Int) < n := by omega
        rw [rowR] at hrow
        subst hrow
        rcases hout with ⟨rfl, rfl, hf6⟩ | ⟨hne, rfl, hf6⟩
        · skip
          repeat' (first
            | apply w_seq
            | apply w_region
            | apply o_end
            | apply t_normal
            | (apply o_val; exact kc0; exact kc2)
            | apply w_ret
            | apply w_exit
            | apply t_exit
            | apply b_here
            | (apply w_false; exact kc3)
            | fail)
          refine g_ret (K := []) (by simp [*]; rfl) rfl ?_
          exact .nil
        · skip
          repeat' (first
            | apply w_seq
            | apply w_region
            | apply o_end
            | apply t_normal
            | (apply o_val; exact kc0; exact kc2)
            | apply w_ret
            | apply w_exit
            | apply t_exit
            | apply b_here
            | (apply w_false; exact kc3)
            | fail)
          refine g_ret (K := [.cells out.length 1 false (out.map encI)]) (by simp [*]; rfl) rfl ?_
          exact .slice_flat (by simp) rfl (by simp) (by simp) (flt_int _)
      | succ k =>
        have hlt : (i : Int) < n := by omega
        rw [rowR] at hrow
        by_cases hbad : r'.bad = true
        · rw [if_pos hbad] at hrow
          subst hrow
          rcases hout with ⟨rfl, rfl, hf6⟩ | ⟨hne, rfl, hf6⟩
          · skip
            repeat' (first
              | apply w_seq
              | apply w_region
              | apply o_end
              | apply t_normal
              | (apply o_val; exact kc0; exact kc2)
              | apply w_skip
              | apply w_block
              | apply w_ret
              | apply t_ret
              | apply b_ret
              | (apply w_true; exact kc3)
              | fail)
            refine g_ret (K := []) (by simp [*]; rfl) rfl ?_
            exact .nil
          · skip
            repeat' (first
              | apply w_seq
              | apply w_region
              | apply o_end
              | apply t_normal
              | (apply o_val; exact kc0; exact kc2)
              | apply w_skip
              | apply w_block
              | apply w_ret
              | apply t_ret
              | apply b_ret
              | (apply w_true; exact kc3)
              | fail)
            refine g_ret (K := [.cells out.length 1 false (out.map encI)]) (by simp [*]; rfl) rfl ?_
            exact .nil
        · have hbad' : r'.bad = false := by simpa using hbad
          rw [if_neg hbad] at hrow
          have hn' : n < 1501 := hbig.resolve_right hbad
          have hy := number_readB r' hsr hal
          have hsr2 := (suf_num r').trans hsr
          have hle := (makes_num r' hr').2
          generalize (numR r').1 = v at *
          generalize (numR r').2 = r'' at *
          have hb1 : out.length + 1 ≤ 140737488355328 := by omega
          have hb2 : (out.length + 1) * 88 ≤ 140737488355328 := by omega
          have hb3 : (out.length + 1) * 8 ≤ 140737488355328 := by omega
          have hb4 : (out.length + 1) * 64 ≤ 140737488355328 := by omega
          have h7 : IntKind.i64.wrap ((i : Int) + 1) = (i : Int) + 1 := wrap_i64 (by omega) (by omega)
          rcases hout with ⟨rfl, rfl, hf6⟩ | ⟨hne, rfl, hf6⟩
          · skip
            repeat' (first
              | apply w_seq
              | apply w_region
              | apply o_end
              | apply t_normal
              | (apply o_add; exact kc0; exact kc2; rfl; exact kc2; rfl; exact ke2)
              | (apply o_val; exact kc0; exact kc2)
              | (apply o_lit; exact kc0; exact kc1; (focus (simp; done)); exact kd7)
              | (apply o_beside fine; exact kc0; exact kc1; exact hy; rfl; rfl; exact kd4; (focus (simp only [rowH, rdB, List.cons_append, List.nil_append]; rfl)))
              | (apply o_mem; exact kc0; rfl; exact kc1)
              | apply w_skip
              | apply w_block
              | apply b_normal
              | (apply w_true; exact kc3)
              | (apply w_false; exact kc3)
              | fail)
            exact ⟨k, by omega, k, i + 1, r'', [v], [.cells 1 1 false [encI v]], rfl, by omega, by simp, hsr2, by omega, .inl hn', by simpa using hrow, rfl, .inr ⟨by simp, rfl, by simp⟩, by simp [*], by simp [*], by simp [*], by simp [*]⟩
          · skip
            repeat' (first
              | apply w_seq
              | apply w_region
              | apply o_end
              | apply t_normal
              | (apply o_add; exact kc0; exact kc2; rfl; exact kc2; rfl; exact ke2)
              | (apply o_val; exact kc0; exact kc2)
              | (apply o_lit; exact kc0; exact kc1; (focus (simp; done)); exact kd7)
              | (apply o_beside fine; exact kc0; exact kc1; exact hy; rfl; rfl; exact kd4; (focus (simp only [rowH, rdB, List.cons_append, List.nil_append]; rfl)))
              | (apply o_mem; exact kc0; rfl; exact kc1)
              | apply w_skip
              | apply w_block
              | apply b_normal
              | (apply w_true; exact kc3)
              | (apply w_false; exact kc3)
              | fail)
            exact ⟨k, by omega, k, i + 1, r'', out ++ [v], [.cells (out.length + 1) 1 false (out.map encI ++ [encI v])], rfl, by omega, by simp; omega, hsr2, by omega, .inl hn', by simpa using hrow, rfl, .inr ⟨by simp, by simp, by simp⟩, by simp [*], by simp [*], by simp [*], by simp [*]⟩
    · have e : rdB al (markR n r1) = [.cells al.length 1 false (al.map encB), X0, .cells 0 2 false [[.slice 0 (al.length - r1.b.length) r1.b.length al.length, .bool r1.bad]]] := by rw [hmk2]; simp [c1, c2]
      rw [e] at key
      clear hmk2 e hres
      repeat' (first
        | apply w_seq
        | apply w_region
        | apply o_end
        | apply t_normal
        | (apply o_val; exact kc0; exact kc2)
        | (apply o_turns; exact kc0; exact kc1; exact hx)
        | apply w_skip
        | apply w_block
        | (apply w_false; exact kc3)
        | fail)
      refine w_loop (fun m f H => ∃ (k i : Nat) (r' : Rd) (out : List Int) (K : Heap), m = k ∧ i + k = n.toNat ∧ out.length ≤ i ∧ r'.b <:+ al ∧ r'.b.length < 1501 ∧ (n < 1501 ∨ r'.bad = true) ∧ rowR numR k r' out = res ∧ H = rdB al r' ++ K ∧
              ((out = [] ∧ K = [] ∧ f 6 = .nilsl) ∨ (out ≠ [] ∧ K = [.cells out.length 1 false (out.map encI)] ∧ f 6 = .slice 3 0 out.length out.length)) ∧ f 0 = rp2 ∧ f 1 = .func (.func 25) [rp2] [] ∧ f 23 = .int .i64 n ∧ f 24 = .int .i64 (i : Nat)) n.toNat (key _ _ rfl (by simp) (by simp) (by simp) (by simp) (by simp)) ?_
      clear key hx
      rintro m f H ⟨k, i, r', out, K, rfl, hik, hol, hsr, hr', hbig, hrow, rfl, hout, hf0, hf1, hf23, hf24⟩
      cases m with
      | zero =>
        have hlt : ¬ (i : Int) < n := by omega
        rw [rowR] at hrow
        subst hrow
        rcases hout with ⟨rfl, rfl, hf6⟩ | ⟨hne, rfl, hf6⟩
        · skip
          repeat' (first
            | apply w_seq
            | apply w_region
            | apply o_end
            | apply t_normal
            | (apply o_val; exact kc0; exact kc2)
            | apply w_ret
            | apply w_exit
            | apply t_exit
            | apply b_here
            | (apply w_false; exact kc3)
            | fail)
          refine g_ret (K := []) (by simp [*]; rfl) rfl ?_
          exact .nil
        · skip
          repeat' (first
            | apply w_seq
            | apply w_region
            | apply o_end
            | apply t_normal
            | (apply o_val; exact kc0; exact kc2)
            | apply w_ret
            | apply w_exit
            | apply t_exit
            | apply b_here
            | (apply w_false; exact kc3)
            | fail)
          refine g_ret (K := [.cells out.length 1 false (out.map encI)]) (by simp [*]; rfl) rfl ?_
          exact .slice_flat (by simp) rfl (by simp) (by simp) (flt_int _)
      | succ k =>
        have hlt : (i : Int) < n := by omega
        rw [rowR] at hrow
        by_cases hbad : r'.bad = true
        · rw [if_pos hbad] at hrow
          subst hrow
          rcases hout with ⟨rfl, rfl, hf6⟩ | ⟨hne, rfl, hf6⟩
          · skip
            repeat' (first
              | apply w_seq
              | apply w_region
              | apply o_end
              | apply t_normal
              | (apply o_val; exact kc0; exact kc2)
              | apply w_skip
              | apply w_block
              | apply w_ret
              | apply t_ret
              | apply b_ret
              | (apply w_true; exact kc3)
              | fail)
            refine g_ret (K := []) (by simp [*]; rfl) rfl ?_
            exact .nil
          · skip
            repeat' (first
              | apply w_seq
              | apply w_region
              | apply o_end
              | apply t_normal
              | (apply o_val; exact kc0; exact kc2)
              | apply w_skip
              | apply w_block
              | apply w_ret
              | apply t_ret
              | apply b_ret
              | (apply w_true; exact kc3)
              | fail)
            refine g_ret (K := [.cells out.length 1 false (out.map encI)]) (by simp [*]; rfl) rfl ?_
            exact .nil
        · have hbad' : r'.bad = false := by simpa using hbad
          rw [if_neg hbad] at hrow
          have hn' : n < 1501 := hbig.resolve_right hbad
          have hy := number_readB r' hsr hal
          have hsr2 := (suf_num r').trans hsr
          have hle := (makes_num r' hr').2
          generalize (numR r').1 = v at *
          generalize (numR r').2 = r'' at *
          have hb1 : out.length + 1 ≤ 140737488355328 := by omega
          have hb2 : (out.length + 1) * 88 ≤ 140737488355328 := by omega
          have hb3 : (out.length + 1) * 8 ≤ 140737488355328 := by omega
          have hb4 : (out.length + 1) * 64 ≤ 140737488355328 := by omega
          have h7 : IntKind.i64.wrap ((i : Int) + 1) = (i : Int) + 1 := wrap_i64 (by omega) (by omega)
          rcases hout with ⟨rfl, rfl, hf6⟩ | ⟨hne, rfl, hf6⟩
          · skip
            repeat' (first
              | apply w_seq
              | apply w_region
              | apply o_end
              | apply t_normal
              | (apply o_add; exact kc0; exact kc2; rfl; exact kc2; rfl; exact ke2)
              | (apply o_val; exact kc0; exact kc2)
              | (apply o_lit; exact kc0; exact kc1; (focus (simp; done)); exact kd7)
              | (apply o_beside fine; exact kc0; exact kc1; exact hy; rfl; rfl; exact kd4; (focus (simp only [rowH, rdB, List.cons_append, List.nil_append]; rfl)))
              | (apply o_mem; exact kc0; rfl; exact kc1)
              | apply w_skip
              | apply w_block
              | apply b_normal
              | (apply w_true; exact kc3)
              | (apply w_false; exact kc3)
              | fail)
            exact ⟨k, by omega, k, i + 1, r'', [v], [.cells 1 1 false [encI v]], rfl, by omega, by simp, hsr2, by omega, .inl hn', by simpa using hrow, rfl, .inr ⟨by simp, rfl, by simp⟩, by simp [*], by simp [*], by simp [*], by simp [*]⟩
          · skip
            repeat' (first
              | apply w_seq
              | apply w_region
              | apply o_end
              | apply t_normal
              | (apply o_add; exact kc0; exact kc2; rfl; exact kc2; rfl; exact ke2)
              | (apply o_val; exact kc0; exact kc2)
              | (apply o_lit; exact kc0; exact kc1; (focus (simp; done)); exact kd7)
              | (apply o_beside fine; exact kc0; exact kc1; exact hy; rfl; rfl; exact kd4; (focus (simp only [rowH, rdB, List.cons_append, List.nil_append]; rfl)))
              | (apply o_mem; exact kc0; rfl; exact kc1)
              | apply w_skip
              | apply w_block
              | apply b_normal
              | (apply w_true; exact kc3)
              | (apply w_false; exact kc3)
              | fail)
            exact ⟨k, by omega, k, i + 1, r'', out ++ [v], [.cells (out.length + 1) 1 false (out.map encI ++ [encI v])], rfl, by omega, by simp; omega, hsr2, by omega, .inl hn', by simpa using hrow, rfl, .inr ⟨by simp, by simp, by simp⟩, by simp [*], by simp [*], by simp [*], by simp [*]⟩


theorem lists_boolB {al : List UInt8} (r : Rd) (hs : r.b <:+ al) (hal : al.length < 1501) : CallsV L 28 [rp2, .func (.func 26) [rp2] []] (rdB al r) (Turns (boolsL (listR truR r).1) (rdB al (listR truR r).2)) := by
  refine gives_of_body L_ok rfl (by simp) (fn := Try.f28) rfl rfl rfl rfl (by kernel_rfl) ?_
  have hb : r.b.length < 1501 := Nat.lt_of_le_of_lt hs.length_le hal
  obtain ⟨hni, hnl⟩ := makes_num r hb
  have hx := number_readB r hs hal
  have hsm := (suf_mark (numR r).1 (numR r).2).trans ((suf_num r).trans hs)
  have hL : listR truR r = rowR truR (numR r).1.toNat (markR (numR r).1 (numR r).2) [] := rfl
  rw [hL]
  clear hL
  generalize (numR r).1 = n at *
  generalize hr1 : (numR r).2 = r1 at *
  have hmk : (markR n r1).b.length < 1501 ∧ (n < 1501 ∨ (markR n r1).bad = true) := by
    unfold markR
    split
    · exact ⟨by simp only; omega, .inr rfl⟩
    · exact ⟨by omega, .inl (by omega)⟩
  have hmk2 : rdB al (markR n r1) = [.cells al.length 1 false (al.map encB), X0, .cells 0 2 false [[.slice 0 (al.length - r1.b.length) r1.b.length al.length, .bool (decide (n < 0 ∨ (r1.b.length : Int) < n) || r1.bad)]]] := by
    unfold markR
    split
    · rename_i h; simp [rdB, h]
    · rename_i h; simp [rdB, h]
  have key : ∀ (f : Fr) (H : Heap), H = rdB al (markR n r1) → f 0 = rp2 → f 1 = .func (.func 26) [rp2] [] → f 6 = .nilsl → f 23 = .int .i64 n → f 24 = .int .i64 0 →
      ∃ (k i : Nat) (r' : Rd) (out : List Bool) (K : Heap), n.toNat = k ∧ i + k = n.toNat ∧ out.length ≤ i ∧ r'.b <:+ al ∧ r'.b.length < 1501 ∧ (n < 1501 ∨ r'.bad = true) ∧ rowR truR k r' out = rowR truR n.toNat (markR n r1) [] ∧ H = rdB al r' ++ K ∧
        ((out = [] ∧ K = [] ∧ f 6 = .nilsl) ∨ (out ≠ [] ∧ K = [.cells out.length 1 false (out.map encT)] ∧ f 6 = .slice 3 0 out.length out.length)) ∧ f 0 = rp2 ∧ f 1 = .func (.func 26) [rp2] [] ∧ f 23 = .int .i64 n ∧ f 24 = .int .i64 (i : Nat) :=
    fun f H h h0 h1 h6 h23 h24 => ⟨n.toNat, 0, markR n r1, [], [], rfl, by omega, by simp, hsm, hmk.1, hmk.2, rfl, by rw [h, List.append_nil], .inl ⟨rfl, rfl, h6⟩, h0, h1, h23, h24⟩
  obtain ⟨res, hres⟩ : ∃ res, rowR truR n.toNat (markR n r1) [] = res := ⟨_, rfl⟩
  rw [hres] at key ⊢
  by_cases c1 : n < 0
  · have e : rdB al (markR n r1) = [.cells al.length 1 false (al.map encB), X0, .cells 0 2 false [[.slice 0 (al.length - r1.b.length) r1.b.length al.length, .bool true]]] := by rw [hmk2]; simp [c1]
    rw [e] at key
    clear hmk2 e hres
    repeat' (first
      | apply w_seq
      | apply w_region
      | apply o_end
      | apply t_normal
      | (apply o_val; exact kc0; exact kc2)
      | (apply o_turns; exact kc0; exact kc1; exact hx)
      | (apply o_mem; exact kc0; rfl; exact kc1)
      | apply w_block
      | (apply w_true; exact kc3)
      | (apply o_no; exact ke7)
      | fail)
    refine w_loop (fun m f H => ∃ (k i : Nat) (r' : Rd) (out : List Bool) (K : Heap), m = k ∧ i + k = n.toNat ∧ out.length ≤ i ∧ r'.b <:+ al ∧ r'.b.length < 1501 ∧ (n < 1501 ∨ r'.bad = true) ∧ rowR truR k r' out = res ∧ H = rdB al r' ++ K ∧
            ((out = [] ∧ K = [] ∧ f 6 = .nilsl) ∨ (out ≠ [] ∧ K = [.cells out.length 1 false (out.map encT)] ∧ f 6 = .slice 3 0 out.length out.length)) ∧ f 0 = rp2 ∧ f 1 = .func (.func 26) [rp2] [] ∧ f 23 = .int .i64 n ∧ f 24 = .int .i64 (i : Nat)) n.toNat (key _ _ rfl (by simp) (by simp) (by simp) (by simp) (by simp)) ?_
    clear key hx
    rintro m f H ⟨k, i, r', out, K, rfl, hik, hol, hsr, hr', hbig, hrow, rfl, hout, hf0, hf1, hf23, hf24⟩
    cases m with
    | zero =>
      have hlt : ¬ (i : Int) < n := by omega
      rw [rowR] at hrow
      subst hrow
      rcases hout with ⟨rfl, rfl, hf6⟩ | ⟨hne, rfl, hf6⟩
      · skip
        repeat' (first
          | apply w_seq
          | apply w_region
          | apply o_end
          | apply t_normal
          | (apply o_val; exact kc0; exact kc2)
          | apply w_ret
          | apply w_exit
          | apply t_exit
          | apply b_here
          | (apply w_false; exact kc3)
          | fail)
        refine g_ret (K := []) (by simp [*]; rfl) rfl ?_
        exact .nil
      · skip
        repeat' (first
          | apply w_seq
          | apply w_region
          | apply o_end
          | apply t_normal
          | (apply o_val; exact kc0; exact kc2)
          | apply w_ret
          | apply w_exit
          | apply t_exit
          | apply b_here
          | (apply w_false; exact kc3)
          | fail)
        refine g_ret (K := [.cells out.length 1 false (out.map encT)]) (by simp [*]; rfl) rfl ?_
        exact .slice_flat (by simp) rfl (by simp) (by simp) (flt_bool _)
    | succ k =>
      have hlt : (i : Int) < n := by omega
      rw [rowR] at hrow
      by_cases hbad : r'.bad = true
      · rw [if_pos hbad] at hrow
        subst hrow
        rcases hout with ⟨rfl, rfl, hf6⟩ | ⟨hne, rfl, hf6⟩
        · skip
          repeat' (first
            | apply w_seq
            | apply w_region
            | apply o_end
            | apply t_normal
            | (apply o_val; exact kc0; exact kc2)
            | apply w_skip
            | apply w_block
            | apply w_ret
            | apply t_ret
            | apply b_ret
            | (apply w_true; exact kc3)
            | fail)
          refine g_ret (K := []) (by simp [*]; rfl) rfl ?_
          exact .nil
        · skip
          repeat' (first
            | apply w_seq
            | apply w_region
            | apply o_end
            | apply t_normal
            | (apply o_val; exact kc0; exact kc2)
            | apply w_skip
            | apply w_block
            | apply w_ret
            | apply t_ret
            | apply b_ret
            | (apply w_true; exact kc3)
            | fail)
          refine g_ret (K := [.cells out.length 1 false (out.map encT)]) (by simp [*]; rfl) rfl ?_
          exact .nil
      · have hbad' : r'.bad = false := by simpa using hbad
        rw [if_neg hbad] at hrow
        have hn' : n < 1501 := hbig.resolve_right hbad
        have hy := truth_readB r' hsr hal
        have hsr2 := (suf_tru r').trans hsr
        have hle := (makes_tru r' hr').2
        generalize (truR r').1 = v at *
        generalize (truR r').2 = r'' at *
        have hb1 : out.length + 1 ≤ 140737488355328 := by omega
        have hb2 : (out.length + 1) * 88 ≤ 140737488355328 := by omega
        have hb3 : (out.length + 1) * 8 ≤ 140737488355328 := by omega
        have hb4 : (out.length + 1) * 64 ≤ 140737488355328 := by omega
        have h7 : IntKind.i64.wrap ((i : Int) + 1) = (i : Int) + 1 := wrap_i64 (by omega) (by omega)
        rcases hout with ⟨rfl, rfl, hf6⟩ | ⟨hne, rfl, hf6⟩
        · skip
          repeat' (first
            | apply w_seq
            | apply w_region
            | apply o_end
            | apply t_normal
            | (apply o_add; exact kc0; exact kc2; rfl; exact kc2; rfl; exact ke2)
            | (apply o_val; exact kc0; exact kc2)
            | (apply o_lit; exact kc0; exact kc1; (focus (simp; done)); exact kd7)
            | (apply o_beside fine; exact kc0; exact kc1; exact hy; rfl; rfl; exact kd4; (focus (simp only [rowH, rdB, List.cons_append, List.nil_append]; rfl)))
            | (apply o_mem; exact kc0; rfl; exact kc1)
            | apply w_skip
            | apply w_block
            | apply b_normal
            | (apply w_true; exact kc3)
            | (apply w_false; exact kc3)
            | fail)
          exact ⟨k, by omega, k, i + 1, r'', [v], [.cells 1 1 false [encT v]], rfl, by omega, by simp, hsr2, by omega, .inl hn', by simpa using hrow, rfl, .inr ⟨by simp, rfl, by simp⟩, by simp [*], by simp [*], by simp [*], by simp [*]⟩
        · skip
          repeat' (first
            | apply w_seq
            | apply w_region
            | apply o_end
            | apply t_normal
            | (apply o_add; exact kc0; exact kc2; rfl; exact kc2; rfl; exact ke2)
            | (apply o_val; exact kc0; exact kc2)
            | (apply o_lit; exact kc0; exact kc1; (focus (simp; done)); exact kd7)
            | (apply o_beside fine; exact kc0; exact kc1; exact hy; rfl; rfl; exact kd4; (focus (simp only [rowH, rdB, List.cons_append, List.nil_append]; rfl)))
            | (apply o_mem; exact kc0; rfl; exact kc1)
            | apply w_skip
            | apply w_block
            | apply b_normal
            | (apply w_true; exact kc3)
            | (apply w_false; exact kc3)
            | fail)
          exact ⟨k, by omega, k, i + 1, r'', out ++ [v], [.cells (out.length + 1) 1 false (out.map encT ++ [encT v])], rfl, by omega, by simp; omega, hsr2, by omega, .inl hn', by simpa using hrow, rfl, .inr ⟨by simp, by simp, by simp⟩, by simp [*], by simp [*], by simp [*], by simp [*]⟩
  · by_cases c2 : (r1.b.length : Int) < n
    · have e : rdB al (markR n r1) = [.cells al.length 1 false (al.map encB), X0, .cells 0 2 false [[.slice 0 (al.length - r1.b.length) r1.b.length al.length, .bool true]]] := by rw [hmk2]; simp [c2]
      rw [e] at key
      clear hmk2 e hres
      repeat' (first
        | apply w_seq
        | apply w_region
        | apply o_end
        | apply t_normal
        | (apply o_val; exact kc0; exact kc2)
        | (apply o_turns; exact kc0; exact kc1; exact hx)
        | (apply o_mem; exact kc0; rfl; exact kc1)
        | apply w_block
        | (apply w_true; exact kc3)
        | fail)
      refine w_loop (fun m f H => ∃ (k i : Nat) (r' : Rd) (out : List Bool) (K : Heap), m = k ∧ i + k = n.toNat ∧ out.length ≤ i ∧ r'.b <:+ al ∧ r'.b.length < 1501 ∧ (n < 1501 ∨ r'.bad = true) ∧ rowR truR k r' out = res ∧ H = rdB al r' ++ K ∧
              ((out = [] ∧ K = [] ∧ f 6 = .nilsl) ∨ (out ≠ [] ∧ K = [.cells out.length 1 false (out.map encT)] ∧ f 6 = .slice 3 0 out.length out.length)) ∧ f 0 = rp2 ∧ f 1 = .func (.func 26) [rp2] [] ∧ f 23 = .int .i64 n ∧ f 24 = .int .i64 (i : Nat)) n.toNat (key _ _ rfl (by simp) (by simp) (by simp) (by simp) (by simp)) ?_
      clear key hx
      rintro m f H ⟨k, i, r', out, K, rfl, hik, hol, hsr, hr', hbig, hrow, rfl, hout, hf0, hf1, hf23, hf24⟩
      cases m with
      | zero =>
        have hlt : ¬ (i : Int) < n := by omega
        rw [rowR] at hrow
        subst hrow
        rcases hout with ⟨rfl, rfl, hf6⟩ | ⟨hne, rfl, hf6⟩
        · skip
          repeat' (first
            | apply w_seq
            | apply w_region
            | apply o_end
            | apply t_normal
            | (apply o_val; exact kc0; exact kc2)
            | apply w_ret
            | apply w_exit
            | apply t_exit
            | apply b_here
            | (apply w_false; exact kc3)
            | fail)
          refine g_ret (K := []) (by simp [*]; rfl) rfl ?_
          exact .nil
        · skip
          repeat' (first
            | apply w_seq
            | apply w_region
            | apply o_end
            | apply t_normal
            | (apply o_val; exact kc0; exact kc2)
            | apply w_ret
            | apply w_exit
            | apply t_exit
            | apply b_here
            | (apply w_false; exact kc3)
            | fail)
          refine g_ret (K := [.cells out.length 1 false (out.map encT)]) (by simp [*]; rfl) rfl ?_
          exact .slice_flat (by simp) rfl (by simp) (by simp) (flt_bool _)
      | succ k =>
        have hlt : (i : Int) < n := by omega
        rw [rowR] at hrow
        by_cases hbad : r'.bad = true
        · rw [if_pos hbad] at hrow
          subst hrow
          rcases hout with ⟨rfl, rfl, hf6⟩ | ⟨hne, rfl, hf6⟩
          · skip
            repeat' (first
              | apply w_seq
              | apply w_region
              | apply o_end
              | apply t_normal
              | (apply o_val; exact kc0; exact kc2)
              | apply w_skip
              | apply w_block
              | apply w_ret
              | apply t_ret
              | apply b_ret
              | (apply w_true; exact kc3)
              | fail)
            refine g_ret (K := []) (by simp [*]; rfl) rfl ?_
            exact .nil
          · skip
            repeat' (first
              | apply w_seq
              | apply w_region
              | apply o_end
              | apply t_normal
              | (apply o_val; exact kc0; exact kc2)
              | apply w_skip
              | apply w_block
              | apply w_ret
              | apply t_ret
              | apply b_ret
              | (apply w_true; exact kc3)
              | fail)
            refine g_ret (K := [.cells out.length 1 false (out.map encT)]) (by simp [*]; rfl) rfl ?_
            exact .nil
        · have hbad' : r'.bad = false := by simpa using hbad
          rw [if_neg hbad] at hrow
          have hn' : n < 1501 := hbig.resolve_right hbad
          have hy := truth_readB r' hsr hal
          have hsr2 := (suf_tru r').trans hsr
          have hle := (makes_tru r' hr').2
          generalize (truR r').1 = v at *
          generalize (truR r').2 = r'' at *
          have hb1 : out.length + 1 ≤ 140737488355328 := by omega
          have hb2 : (out.length + 1) * 88 ≤ 140737488355328 := by omega
          have hb3 : (out.length + 1) * 8 ≤ 140737488355328 := by omega
          have hb4 : (out.length + 1) * 64 ≤ 140737488355328 := by omega
          have h7 : IntKind.i64.wrap ((i : Int) + 1) = (i : Int) + 1 := wrap_i64 (by omega) (by omega)
          rcases hout with ⟨rfl, rfl, hf6⟩ | ⟨hne, rfl, hf6⟩
          · skip
            repeat' (first
              | apply w_seq
              | apply w_region
              | apply o_end
              | apply t_normal
              | (apply o_add; exact kc0; exact kc2; rfl; exact kc2; rfl; exact ke2)
              | (apply o_val; exact kc0; exact kc2)
              | (apply o_lit; exact kc0; exact kc1; (focus (simp; done)); exact kd7)
              | (apply o_beside fine; exact kc0; exact kc1; exact hy; rfl; rfl; exact kd4; (focus (simp only [rowH, rdB, List.cons_append, List.nil_append]; rfl)))
              | (apply o_mem; exact kc0; rfl; exact kc1)
              | apply w_skip
              | apply w_block
              | apply b_normal
              | (apply w_true; exact kc3)
              | (apply w_false; exact kc3)
              | fail)
            exact ⟨k, by omega, k, i + 1, r'', [v], [.cells 1 1 false [encT v]], rfl, by omega, by simp, hsr2, by omega, .inl hn', by simpa using hrow, rfl, .inr ⟨by simp, rfl, by simp⟩, by simp [*], by simp [*], by simp [*], by simp [*]⟩
          · skip
            repeat' (first
              | apply w_seq
              | apply w_region
              | apply o_end
              | apply t_normal
              | (apply o_add; exact kc0; exact kc2; rfl; exact kc2; rfl; exact ke2)
              | (apply o_val; exact kc0; exact kc2)
              | (apply o_lit; exact kc0; exact kc1; (focus (simp; done)); exact kd7)
              | (apply o_beside fine; exact kc0; exact kc1; exact hy; rfl; rfl; exact kd4; (focus (simp only [rowH, rdB, List.cons_append, List.nil_append]; rfl)))
              | (apply o_mem; exact kc0; rfl; exact kc1)
              | apply w_skip
              | apply w_block
              | apply b_normal
              | (apply w_true; exact kc3)
              | (apply w_false; exact kc3)
              | fail)
            exact ⟨k, by omega, k, i + 1, r'', out ++ [v], [.cells (out.length + 1) 1 false (out.map encT ++ [encT v])], rfl, by omega, by simp; omega, hsr2, by omega, .inl hn', by simpa using hrow, rfl, .inr ⟨by simp, by simp, by simp⟩, by simp [*], by simp [*], by simp [*], by simp [*]⟩
    · have e : rdB al (markR n r1) = [.cells al.length 1 false (al.map encB), X0, .cells 0 2 false [[.slice 0 (al.length - r1.b.length) r1.b.length al.length, .bool r1.bad]]] := by rw [hmk2]; simp [c1, c2]
      rw [e] at key
      clear hmk2 e hres
      repeat' (first
        | apply w_seq
        | apply w_region
        | apply o_end
        | apply t_normal
        | (apply o_val; exact kc0; exact kc2)
        | (apply o_turns; exact kc0; exact kc1; exact hx)
        | apply w_skip
        | apply w_block
        | (apply w_false; exact kc3)
        | fail)
      refine w_loop (fun m f H => ∃ (k i : Nat) (r' : Rd) (out : List Bool) (K : Heap), m = k ∧ i + k = n.toNat ∧ out.length ≤ i ∧ r'.b <:+ al ∧ r'.b.length < 1501 ∧ (n < 1501 ∨ r'.bad = true) ∧ rowR truR k r' out = res ∧ H = rdB al r' ++ K ∧
              ((out = [] ∧ K = [] ∧ f 6 = .nilsl) ∨ (out ≠ [] ∧ K = [.cells out.length 1 false (out.map encT)] ∧ f 6 = .slice 3 0 out.length out.length)) ∧ f 0 = rp2 ∧ f 1 = .func (.func 26) [rp2] [] ∧ f 23 = .int .i64 n ∧ f 24 = .int .i64 (i : Nat)) n.toNat (key _ _ rfl (by simp) (by simp) (by simp) (by simp) (by simp)) ?_
      clear key hx
      rintro m f H ⟨k, i, r', out, K, rfl, hik, hol, hsr, hr', hbig, hrow, rfl, hout, hf0, hf1, hf23, hf24⟩
      cases m with
      | zero =>
        have hlt : ¬ (i : Int) < n := by omega
        rw [rowR] at hrow
        subst hrow
        rcases hout with ⟨rfl, rfl, hf6⟩ | ⟨hne, rfl, hf6⟩
        · skip
          repeat' (first
            | apply w_seq
            | apply w_region
            | apply o_end
            | apply t_normal
            | (apply o_val; exact kc0; exact kc2)
            | apply w_ret
            | apply w_exit
            | apply t_exit
            | apply b_here
            | (apply w_false; exact kc3)
            | fail)
          refine g_ret (K := []) (by simp [*]; rfl) rfl ?_
          exact .nil
        · skip
          repeat' (first
            | apply w_seq
            | apply w_region
            | apply o_end
            | apply t_normal
            | (apply o_val; exact kc0; exact kc2)
            | apply w_ret
            | apply w_exit
            | apply t_exit
            | apply b_here
            | (apply w_false; exact kc3)
            | fail)
          refine g_ret (K := [.cells out.length 1 false (out.map encT)]) (by simp [*]; rfl) rfl ?_
          exact .slice_flat (by simp) rfl (by simp) (by simp) (flt_bool _)
      | succ k =>
        have hlt : (i : Int) < n := by omega
        rw [rowR] at hrow
        by_cases hbad : r'.bad = true
        · rw [if_pos hbad] at hrow
          subst hrow
          rcases hout with ⟨rfl, rfl, hf6⟩ | ⟨hne, rfl, hf6⟩
          · skip
            repeat' (first
              | apply w_seq
              | apply w_region
              | apply o_end
              | apply t_normal
              | (apply o_val; exact kc0; exact kc2)
              | apply w_skip
              | apply w_block
              | apply w_ret
              | apply t_ret
              | apply b_ret
              | (apply w_true; exact kc3)
              | fail)
            refine g_ret (K := []) (by simp [*]; rfl) rfl ?_
            exact .nil
          · skip
            repeat' (first
              | apply w_seq
              | apply w_region
              | apply o_end
              | apply t_normal
              | (apply o_val; exact kc0; exact kc2)
              | apply w_skip
              | apply w_block
              | apply w_ret
              | apply t_ret
              | apply b_ret
              | (apply w_true; exact kc3)
              | fail)
            refine g_ret (K := [.cells out.length 1 false (out.map encT)]) (by simp [*]; rfl) rfl ?_
            exact .nil
        · have hbad' : r'.bad = false := by simpa using hbad
          rw [if_neg hbad] at hrow
          have hn' : n < 1501 := hbig.resolve_right hbad
          have hy := truth_readB r' hsr hal
          have hsr2 := (suf_tru r').trans hsr
          have hle := (makes_tru r' hr').2
          generalize (truR r').1 = v at *
          generalize (truR r').2 = r'' at *
          have hb1 : out.length + 1 ≤ 140737488355328 := by omega
          have hb2 : (out.length + 1) * 88 ≤ 140737488355328 := by omega
          have hb3 : (out.length + 1) * 8 ≤ 140737488355328 := by omega
          have hb4 : (out.length + 1) * 64 ≤ 140737488355328 := by omega
          have h7 : IntKind.i64.wrap ((i : Int) + 1) = (i : Int) + 1 := wrap_i64 (by omega) (by omega)
          rcases hout with ⟨rfl, rfl, hf6⟩ | ⟨hne, rfl, hf6⟩
          · skip
            repeat' (first
              | apply w_seq
              | apply w_region
              | apply o_end
              | apply t_normal
              | (apply o_add; exact kc0; exact kc2; rfl; exact kc2; rfl; exact ke2)
              | (apply o_val; exact kc0; exact kc2)
              | (apply o_lit; exact kc0; exact kc1; (focus (simp; done)); exact kd7)
              | (apply o_beside fine; exact kc0; exact kc1; exact hy; rfl; rfl; exact kd4; (focus (simp only [rowH, rdB, List.cons_append, List.nil_append]; rfl)))
              | (apply o_mem; exact kc0; rfl; exact kc1)
              | apply w_skip
              | apply w_block
              | apply b_normal
              | (apply w_true; exact kc3)
              | (apply w_false; exact kc3)
              | fail)
            exact ⟨k, by omega, k, i + 1, r'', [v], [.cells 1 1 false [encT v]], rfl, by omega, by simp, hsr2, by omega, .inl hn', by simpa using hrow, rfl, .inr ⟨by simp, rfl, by simp⟩, by simp [*], by simp [*], by simp [*], by simp [*]⟩
          · skip
            repeat' (first
              | apply w_seq
              | apply w_region
              | apply o_end
              | apply t_normal
              | (apply o_add; exact kc0; exact kc2; rfl; exact kc2; rfl; exact ke2)
              | (apply o_val; exact kc0; exact kc2)
              | (apply o_lit; exact kc0; exact kc1; (focus (simp; done)); exact kd7)
              | (apply o_beside fine; exact kc0; exact kc1; exact hy; rfl; rfl; exact kd4; (focus (simp only [rowH, rdB, List.cons_append, List.nil_append]; rfl)))
              | (apply o_mem; exact kc0; rfl; exact kc1)
              | apply w_skip
              | apply w_block
              | apply b_normal
              | (apply w_true; exact kc3)
              | (apply w_false; exact kc3)
              | fail)
            exact ⟨k, by omega, k, i + 1, r'', out ++ [v], [.cells (out.length + 1) 1 false (out.map encT ++ [encT v])], rfl, by omega, by simp; omega, hsr2, by omega, .inl hn', by simpa using hrow, rfl, .inr ⟨by simp, by simp, by simp⟩, by simp [*], by simp [*], by simp [*], by simp [*]⟩


theorem request_readB {al : List UInt8} (r : Rd) (hs : r.b <:+ al) (hal : al.length < 1501) : CallsV L 30 [rp2] (rdB al r) (Turns (rqD (rqR r).1) (rdB al (rqR r).2)) := by
  refine gives_of_body L_ok rfl (by simp) (fn := Try.f30) rfl rfl rfl rfl (by kernel_rfl) ?_
  have hb : r.b.length < 1501 := Nat.lt_of_le_of_lt hs.length_le hal
  obtain ⟨_, l1⟩ := makes_num (r) (by omega)
  have c1 := number_readB (r) hs hal
  have hs1 := (suf_num (r)).trans hs
  obtain ⟨a, e1⟩ : ∃ x, numR (r) = x := ⟨_, rfl⟩
  rw [e1] at c1 l1 hs1
  obtain ⟨_, l2⟩ := makes_num (a.2) (by omega)
  have c2 := number_readB (a.2) hs1 hal
  have hs2 := (suf_num (a.2)).trans hs1
  obtain ⟨b, e2⟩ : ∃ x, numR (a.2) = x := ⟨_, rfl⟩
  rw [e2] at c2 l2 hs2
  obtain ⟨_, l3⟩ := makes_num (b.2) (by omega)
  have c3 := number_readB (b.2) hs2 hal
  have hs3 := (suf_num (b.2)).trans hs2
  obtain ⟨c, e3⟩ : ∃ x, numR (b.2) = x := ⟨_, rfl⟩
  rw [e3] at c3 l3 hs3
  obtain ⟨_, l4⟩ := makes_num (c.2) (by omega)
  have c4 := number_readB (c.2) hs3 hal
  have hs4 := (suf_num (c.2)).trans hs3
  obtain ⟨d, e4⟩ : ∃ x, numR (c.2) = x := ⟨_, rfl⟩
  rw [e4] at c4 l4 hs4
  obtain ⟨_, l5⟩ := makes_tru (d.2) (by omega)
  have c5 := truth_readB (d.2) hs4 hal
  have hs5 := (suf_tru (d.2)).trans hs4
  obtain ⟨e, e5⟩ : ∃ x, truR (d.2) = x := ⟨_, rfl⟩
  rw [e5] at c5 l5 hs5
  obtain ⟨_, l6⟩ := makes_tru (e.2) (by omega)
  have c6 := truth_readB (e.2) hs5 hal
  have hs6 := (suf_tru (e.2)).trans hs5
  obtain ⟨f, e6⟩ : ∃ x, truR (e.2) = x := ⟨_, rfl⟩
  rw [e6] at c6 l6 hs6
  obtain ⟨_, l7⟩ := makes_tru (f.2) (by omega)
  have c7 := truth_readB (f.2) hs6 hal
  have hs7 := (suf_tru (f.2)).trans hs6
  obtain ⟨g, e7⟩ : ∃ x, truR (f.2) = x := ⟨_, rfl⟩
  rw [e7] at c7 l7 hs7
  obtain ⟨_, l8⟩ := makes_list makes_num (g.2) (by omega)
  have c8 := lists_intB (g.2) hs7 hal
  have hs8 := ((suf_list suf_num) (g.2)).trans hs7
  obtain ⟨h, e8⟩ : ∃ x, listR numR (g.2) = x := ⟨_, rfl⟩
  rw [e8] at c8 l8 hs8
  have hR : rqR r = ({ endpoint := a.1, by_ := b.1, kind := c.1, hops := d.1, creds := e.1, heads := f.1, forged := g.1, sent := h.1 }, h.2) := by
    subst e1 e2 e3 e4 e5 e6 e7 e8
    rfl
  rw [hR]
  clear hR hs1 hs2 hs3 hs4 hs5 hs6 hs7 hs8 hs hb l1 l2 l3 l4 l5 l6 l7 l8 e1 e2 e3 e4 e5 e6 e7 e8
  repeat' (first
    | apply w_seq
    | apply w_region
    | apply o_end
    | apply t_normal
    | (apply o_val; exact kc0; exact kc2)
    | (apply o_beside fine; exact kc0; exact kc1; exact c1; rfl; rfl; exact kd4; (focus (simp only [rowH, rdB, List.cons_append, List.nil_append]; rfl)))
    | (apply o_beside fine; exact kc0; exact kc1; exact c2; rfl; rfl; exact kd4; (focus (simp only [rowH, rdB, List.cons_append, List.nil_append]; rfl)))
    | (apply o_beside fine; exact kc0; exact kc1; exact c3; rfl; rfl; exact kd4; (focus (simp only [rowH, rdB, List.cons_append, List.nil_append]; rfl)))
    | (apply o_beside fine; exact kc0; exact kc1; exact c4; rfl; rfl; exact kd4; (focus (simp only [rowH, rdB, List.cons_append, List.nil_append]; rfl)))
    | (apply o_beside fine; exact kc0; exact kc1; exact c5; rfl; rfl; exact kd4; (focus (simp only [rowH, rdB, List.cons_append, List.nil_append]; rfl)))
    | (apply o_beside fine; exact kc0; exact kc1; exact c6; rfl; rfl; exact kd4; (focus (simp only [rowH, rdB, List.cons_append, List.nil_append]; rfl)))
    | (apply o_beside fine; exact kc0; exact kc1; exact c7; rfl; rfl; exact kd4; (focus (simp only [rowH, rdB, List.cons_append, List.nil_append]; rfl)))
    | (apply o_beside fine; exact kc0; exact kc1; exact c8; rfl; rfl; exact kd4; (focus (simp only [rowH, rdB, List.cons_append, List.nil_append]; rfl)))
    | (apply o_mem; exact kc0; rfl; exact kc1)
    | apply w_ret
    | fail)
  exact g_ret (by first | (simp [*]; done) | (simp [*]; rfl)) rfl (.flat (by simp))

theorem lists_rqB {al : List UInt8} (r : Rd) (hs : r.b <:+ al) (hal : al.length < 1501) : CallsV L 29 [rp2, .func (.func 30) [rp2] []] (rdB al r) (Turns (rqsL (listR rqR r).1) (rdB al (listR rqR r).2)) := by
  refine gives_of_body L_ok rfl (by simp) (fn := Try.f29) rfl rfl rfl rfl (by kernel_rfl) ?_
  have hb : r.b.length < 1501 := Nat.lt_of_le_of_lt hs.length_le hal
  obtain ⟨hni, hnl⟩ := makes_num r hb
  have hx := number_readB r hs hal
  have hsm := (suf_mark (numR r).1 (numR r).2).trans ((suf_num r).trans hs)
  have hL : listR rqR r = rowR rqR (numR r).1.toNat (markR (numR r).1 (numR r).2) [] := rfl
  rw [hL]
  clear hL
  generalize (numR r).1 = n at *
  generalize hr1 : (numR r).2 = r1 at *
  have hmk : (markR n r1).b.length < 1501 ∧ (n < 1501 ∨ (markR n r1).bad = true) := by
    unfold markR
    split
    · exact ⟨by simp only; omega, .inr rfl⟩
    · exact ⟨by omega, .inl (by omega)⟩
  have hmk2 : rdB al (markR n r1) = [.cells al.length 1 false (al.map encB), X0, .cells 0 2 false [[.slice 0 (al.length - r1.b.length) r1.b.length al.length, .bool (decide (n < 0 ∨ (r1.b.length : Int) < n) || r1.bad)]]] := by
    unfold markR
    split
    · rename_i h; simp [rdB, h]
    · rename_i h; simp [rdB, h]
  have key : ∀ (f : Fr) (H : Heap), H = rdB al (markR n r1) → f 0 = rp2 → f 1 = .func (.func 30) [rp2] [] → f 6 = .nilsl → f 23 = .int .i64 n → f 24 = .int .i64 0 →
      ∃ (k i : Nat) (r' : Rd) (out : List Rq) (K : Heap), n.toNat = k ∧ i + k = n.toNat ∧ out.length ≤ i ∧ r'.b <:+ al ∧ r'.b.length < 1501 ∧ (n < 1501 ∨ r'.bad = true) ∧ rowR rqR k r' out = rowR rqR n.toNat (markR n r1) [] ∧ H = rdB al r' ++ K ∧
        ((out = [] ∧ K = [] ∧ f 6 = .nilsl) ∨ (out ≠ [] ∧ K = [.cells out.length 8 false (out.map rqC)] ∧ f 6 = .slice 3 0 out.length out.length)) ∧ f 0 = rp2 ∧ f 1 = .func (.func 30) [rp2] [] ∧ f 23 = .int .i64 n ∧ f 24 = .int .i64 (i : Nat) :=
    fun f H h h0 h1 h6 h23 h24 => ⟨n.toNat, 0, markR n r1, [], [], rfl, by omega, by simp, hsm, hmk.1, hmk.2, rfl, by rw [h, List.append_nil], .inl ⟨rfl, rfl, h6⟩, h0, h1, h23, h24⟩
  obtain ⟨res, hres⟩ : ∃ res, rowR rqR n.toNat (markR n r1) [] = res := ⟨_, rfl⟩
  rw [hres] at key ⊢
  by_cases c1 : n < 0
  · have e : rdB al (markR n r1) = [.cells al.length 1 false (al.map encB), X0, .cells 0 2 false [[.slice 0 (al.length - r1.b.length) r1.b.length al.length, .bool true]]] := by rw [hmk2]; simp [c1]
    rw [e] at key
    clear hmk2 e hres
    repeat' (first
      | apply w_seq
      | apply w_region
      | apply o_end
      | apply t_normal
      | (apply o_val; exact kc0; exact kc2)
      | (apply o_turns; exact kc0; exact kc1; exact hx)
      | (apply o_mem; exact kc0; rfl; exact kc1)
      | apply w_block
      | (apply w_true; exact kc3)
      | (apply o_no; exact ke7)
      | fail)
    refine w_loop (fun m f H => ∃ (k i : Nat) (r' : Rd) (out : List Rq) (K : Heap), m = k ∧ i + k = n.toNat ∧ out.length ≤ i ∧ r'.b <:+ al ∧ r'.b.length < 1501 ∧ (n < 1501 ∨ r'.bad = true) ∧ rowR rqR k r' out = res ∧ H = rdB al r' ++ K ∧
            ((out = [] ∧ K = [] ∧ f 6 = .nilsl) ∨ (out ≠ [] ∧ K = [.cells out.length 8 false (out.map rqC)] ∧ f 6 = .slice 3 0 out.length out.length)) ∧ f 0 = rp2 ∧ f 1 = .func (.func 30) [rp2] [] ∧ f 23 = .int .i64 n ∧ f 24 = .int .i64 (i : Nat)) n.toNat (key _ _ rfl (by simp) (by simp) (by simp) (by simp) (by simp)) ?_
    clear key hx
    rintro m f H ⟨k, i, r', out, K, rfl, hik, hol, hsr, hr', hbig, hrow, rfl, hout, hf0, hf1, hf23, hf24⟩
    cases m with
    | zero =>
      have hlt : ¬ (i : Int) < n := by omega
      rw [rowR] at hrow
      subst hrow
      rcases hout with ⟨rfl, rfl, hf6⟩ | ⟨hne, rfl, hf6⟩
      · skip
        repeat' (first
          | apply w_seq
          | apply w_region
          | apply o_end
          | apply t_normal
          | (apply o_val; exact kc0; exact kc2)
          | apply w_ret
          | apply w_exit
          | apply t_exit
          | apply b_here
          | (apply w_false; exact kc3)
          | fail)
        refine g_ret (K := []) (by simp [*]; rfl) rfl ?_
        exact .nil
      · skip
        repeat' (first
          | apply w_seq
          | apply w_region
          | apply o_end
          | apply t_normal
          | (apply o_val; exact kc0; exact kc2)
          | apply w_ret
          | apply w_exit
          | apply t_exit
          | apply b_here
          | (apply w_false; exact kc3)
          | fail)
        refine g_ret (K := [.cells out.length 8 false (out.map rqC)]) (by simp [*]; rfl) rfl ?_
        exact .slice_flat (by simp) rfl (by simp) (by simp) (flt_rq _)
    | succ k =>
      have hlt : (i : Int) < n := by omega
      rw [rowR] at hrow
      by_cases hbad : r'.bad = true
      · rw [if_pos hbad] at hrow
        subst hrow
        rcases hout with ⟨rfl, rfl, hf6⟩ | ⟨hne, rfl, hf6⟩
        · skip
          repeat' (first
            | apply w_seq
            | apply w_region
            | apply o_end
            | apply t_normal
            | (apply o_val; exact kc0; exact kc2)
            | apply w_skip
            | apply w_block
            | apply w_ret
            | apply t_ret
            | apply b_ret
            | (apply w_true; exact kc3)
            | fail)
          refine g_ret (K := []) (by simp [*]; rfl) rfl ?_
          exact .nil
        · skip
          repeat' (first
            | apply w_seq
            | apply w_region
            | apply o_end
            | apply t_normal
            | (apply o_val; exact kc0; exact kc2)
            | apply w_skip
            | apply w_block
            | apply w_ret
            | apply t_ret
            | apply b_ret
            | (apply w_true; exact kc3)
            | fail)
          refine g_ret (K := [.cells out.length 8 false (out.map rqC)]) (by simp [*]; rfl) rfl ?_
          exact .nil
      · have hbad' : r'.bad = false := by simpa using hbad
        rw [if_neg hbad] at hrow
        have hn' : n < 1501 := hbig.resolve_right hbad
        have hy := request_readB r' hsr hal
        have hsr2 := (suf_rq r').trans hsr
        have hle := (makes_rq r' hr').2
        generalize (rqR r').1 = v at *
        generalize (rqR r').2 = r'' at *
        have hb1 : out.length + 1 ≤ 140737488355328 := by omega
        have hb2 : (out.length + 1) * 88 ≤ 140737488355328 := by omega
        have hb3 : (out.length + 1) * 8 ≤ 140737488355328 := by omega
        have hb4 : (out.length + 1) * 64 ≤ 140737488355328 := by omega
        have h7 : IntKind.i64.wrap ((i : Int) + 1) = (i : Int) + 1 := wrap_i64 (by omega) (by omega)
        rcases hout with ⟨rfl, rfl, hf6⟩ | ⟨hne, rfl, hf6⟩
        · skip
          repeat' (first
            | apply w_seq
            | apply w_region
            | apply o_end
            | apply t_normal
            | (apply o_add; exact kc0; exact kc2; rfl; exact kc2; rfl; exact ke2)
            | (apply o_val; exact kc0; exact kc2)
            | (apply o_lit; exact kc0; exact kc1; (focus (simp; done)); exact kd7)
            | (apply o_beside fine; exact kc0; exact kc1; exact hy; rfl; rfl; exact kd4; (focus (simp only [rowH, rdB, List.cons_append, List.nil_append]; rfl)))
            | (apply o_mem; exact kc0; rfl; exact kc1)
            | apply w_skip
            | apply w_block
            | apply b_normal
            | (apply w_true; exact kc3)
            | (apply w_false; exact kc3)
            | fail)
          exact ⟨k, by omega, k, i + 1, r'', [v], [.cells 1 8 false [rqC v]], rfl, by omega, by simp, hsr2, by omega, .inl hn', by simpa using hrow, rfl, .inr ⟨by simp, rfl, by simp⟩, by simp [*], by simp [*], by simp [*], by simp [*]⟩
        · skip
          repeat' (first
            | apply w_seq
            | apply w_region
            | apply o_end
            | apply t_normal
            | (apply o_add; exact kc0; exact kc2; rfl; exact kc2; rfl; exact ke2)
            | (apply o_val; exact kc0; exact kc2)
            | (apply o_lit; exact kc0; exact kc1; (focus (simp; done)); exact kd7)
            | (apply o_beside fine; exact kc0; exact kc1; exact hy; rfl; rfl; exact kd4; (focus (simp only [rowH, rdB, List.cons_append, List.nil_append]; rfl)))
            | (apply o_mem; exact kc0; rfl; exact kc1)
            | apply w_skip
            | apply w_block
            | apply b_normal
            | (apply w_true; exact kc3)
            | (apply w_false; exact kc3)
            | fail)
          exact ⟨k, by omega, k, i + 1, r'', out ++ [v], [.cells (out.length + 1) 8 false (out.map rqC ++ [rqC v])], rfl, by omega, by simp; omega, hsr2, by omega, .inl hn', by simpa using hrow, rfl, .inr ⟨by simp, by simp, by simp⟩, by simp [*], by simp [*], by simp [*], by simp [*]⟩
  · by_cases c2 : (r1.b.length : Int) < n
    · have e : rdB al (markR n r1) = [.cells al.length 1 false (al.map encB), X0, .cells 0 2 false [[.slice 0 (al.length - r1.b.length) r1.b.length al.length, .bool true]]] := by rw [hmk2]; simp [c2]
      rw [e] at key
      clear hmk2 e hres
      repeat' (first
        | apply w_seq
        | apply w_region
        | apply o_end
        | apply t_normal
        | (apply o_val; exact kc0; exact kc2)
        | (apply o_turns; exact kc0; exact kc1; exact hx)
        | (apply o_mem; exact kc0; rfl; exact kc1)
        | apply w_block
        | (apply w_true; exact kc3)
        | fail)
      refine w_loop (fun m f H => ∃ (k i : Nat) (r' : Rd) (out : List Rq) (K : Heap), m = k ∧ i + k = n.toNat ∧ out.length ≤ i ∧ r'.b <:+ al ∧ r'.b.length < 1501 ∧ (n < 1501 ∨ r'.bad = true) ∧ rowR rqR k r' out = res ∧ H = rdB al r' ++ K ∧
              ((out = [] ∧ K = [] ∧ f 6 = .nilsl) ∨ (out ≠ [] ∧ K = [.cells out.length 8 false (out.map rqC)] ∧ f 6 = .slice 3 0 out.length out.length)) ∧ f 0 = rp2 ∧ f 1 = .func (.func 30) [rp2] [] ∧ f 23 = .int .i64 n ∧ f 24 = .int .i64 (i : Nat)) n.toNat (key _ _ rfl (by simp) (by simp) (by simp) (by simp) (by simp)) ?_
      clear key hx
      rintro m f H ⟨k, i, r', out, K, rfl, hik, hol, hsr, hr', hbig, hrow, rfl, hout, hf0, hf1, hf23, hf24⟩
      cases m with
      | zero =>
        have hlt : ¬ (i : Int) < n := by omega
        rw [rowR] at hrow
        subst hrow
        rcases hout with ⟨rfl, rfl, hf6⟩ | ⟨hne, rfl, hf6⟩
        · skip
          repeat' (first
            | apply w_seq
            | apply w_region
            | apply o_end
            | apply t_normal
            | (apply o_val; exact kc0; exact kc2)
            | apply w_ret
            | apply w_exit
            | apply t_exit
            | apply b_here
            | (apply w_false; exact kc3)
            | fail)
          refine g_ret (K := []) (by simp [*]; rfl) rfl ?_
          exact .nil
        · skip
          repeat' (first
            | apply w_seq
            | apply w_region
            | apply o_end
            | apply t_normal
            | (apply o_val; exact kc0; exact kc2)
            | apply w_ret
            | apply w_exit
            | apply t_exit
            | apply b_here
            | (apply w_false; exact kc3)
            | fail)
          refine g_ret (K := [.cells out.length 8 false (out.map rqC)]) (by simp [*]; rfl) rfl ?_
          exact .slice_flat (by simp) rfl (by simp) (by simp) (flt_rq _)
      | succ k =>
        have hlt : (i : Int) < n := by omega
        rw [rowR] at hrow
        by_cases hbad : r'.bad = true
        · rw [if_pos hbad] at hrow
          subst hrow
          rcases hout with ⟨rfl, rfl, hf6⟩ | ⟨hne, rfl, hf6⟩
          · skip
            repeat' (first
              | apply w_seq
              | apply w_region
              | apply o_end
              | apply t_normal
              | (apply o_val; exact kc0; exact kc2)
              | apply w_skip
              | apply w_block
              | apply w_ret
              | apply t_ret
              | apply b_ret
              | (apply w_true; exact kc3)
              | fail)
            refine g_ret (K := []) (by simp [*]; rfl) rfl ?_
            exact .nil
          · skip
            repeat' (first
              | apply w_seq
              | apply w_region
              | apply o_end
              | apply t_normal
              | (apply o_val; exact kc0; exact kc2)
              | apply w_skip
              | apply w_block
              | apply w_ret
              | apply t_ret
              | apply b_ret
              | (apply w_true; exact kc3)
              | fail)
            refine g_ret (K := [.cells out.length 8 false (out.map rqC)]) (by simp [*]; rfl) rfl ?_
            exact .nil
        · have hbad' : r'.bad = false := by simpa using hbad
          rw [if_neg hbad] at hrow
          have hn' : n < 1501 := hbig.resolve_right hbad
          have hy := request_readB r' hsr hal
          have hsr2 := (suf_rq r').trans hsr
          have hle := (makes_rq r' hr').2
          generalize (rqR r').1 = v at *
          generalize (rqR r').2 = r'' at *
          have hb1 : out.length + 1 ≤ 140737488355328 := by omega
          have hb2 : (out.length + 1) * 88 ≤ 140737488355328 := by omega
          have hb3 : (out.length + 1) * 8 ≤ 140737488355328 := by omega
          have hb4 : (out.length + 1) * 64 ≤ 140737488355328 := by omega
          have h7 : IntKind.i64.wrap ((i : Int) + 1) = (i : Int) + 1 := wrap_i64 (by omega) (by omega)
          rcases hout with ⟨rfl, rfl, hf6⟩ | ⟨hne, rfl, hf6⟩
          · skip
            repeat' (first
              | apply w_seq
              | apply w_region
              | apply o_end
              | apply t_normal
              | (apply o_add; exact kc0; exact kc2; rfl; exact kc2; rfl; exact ke2)
              | (apply o_val; exact kc0; exact kc2)
              | (apply o_lit; exact kc0; exact kc1; (focus (simp; done)); exact kd7)
              | (apply o_beside fine; exact kc0; exact kc1; exact hy; rfl; rfl; exact kd4; (focus (simp only [rowH, rdB, List.cons_append, List.nil_append]; rfl)))
              | (apply o_mem; exact kc0; rfl; exact kc1)
              | apply w_skip
              | apply w_block
              | apply b_normal
              | (apply w_true; exact kc3)
              | (apply w_false; exact kc3)
              | fail)
            exact ⟨k, by omega, k, i + 1, r'', [v], [.cells 1 8 false [rqC v]], rfl, by omega, by simp, hsr2, by omega, .inl hn', by simpa using hrow, rfl, .inr ⟨by simp, rfl, by simp⟩, by simp [*], by simp [*], by simp [*], by simp [*]⟩
          · skip
            repeat' (first
              | apply w_seq
              | apply w_region
              | apply o_end
              | apply t_normal
              | (apply o_add; exact kc0; exact kc2; rfl; exact kc2; rfl; exact ke2)
              | (apply o_val; exact kc0; exact kc2)
              | (apply o_lit; exact kc0; exact kc1; (focus (simp; done)); exact kd7)
              | (apply o_beside fine; exact kc0; exact kc1; exact hy; rfl; rfl; exact kd4; (focus (simp only [rowH, rdB, List.cons_append, List.nil_append]; rfl)))
              | (apply o_mem; exact kc0; rfl; exact kc1)
              | apply w_skip
              | apply w_block
              | apply b_normal
              | (apply w_true; exact kc3)
              | (apply w_false; exact kc3)
              | fail)
            exact ⟨k, by omega, k, i + 1, r'', out ++ [v], [.cells (out.length + 1) 8 false (out.map rqC ++ [rqC v])], rfl, by omega, by simp; omega, hsr2, by omega, .inl hn', by simpa using hrow, rfl, .inr ⟨by simp, by simp, by simp⟩, by simp [*], by simp [*], by simp [*], by simp [*]⟩
    · have e : rdB al (markR n r1) = [.cells al.length 1 false (al.map encB), X0, .cells 0 2 false [[.slice 0 (al.length - r1.b.length) r1.b.length al.length, .bool r1.bad]]] := by rw [hmk2]; simp [c1, c2]
      rw [e] at key
      clear hmk2 e hres
      repeat' (first
        | apply w_seq
        | apply w_region
        | apply o_end
        | apply t_normal
        | (apply o_val; exact kc0; exact kc2)
        | (apply o_turns; exact kc0; exact kc1; exact hx)
        | apply w_skip
        | apply w_block
        | (apply w_false; exact kc3)
        | fail)
      refine w_loop (fun m f H => ∃ (k i : Nat) (r' : Rd) (out : List Rq) (K : Heap), m = k ∧ i + k = n.toNat ∧ out.length ≤ i ∧ r'.b <:+ al ∧ r'.b.length < 1501 ∧ (n < 1501 ∨ r'.bad = true) ∧ rowR rqR k r' out = res ∧ H = rdB al r' ++ K ∧
              ((out = [] ∧ K = [] ∧ f 6 = .nilsl) ∨ (out ≠ [] ∧ K = [.cells out.length 8 false (out.map rqC)] ∧ f 6 = .slice 3 0 out.length out.length)) ∧ f 0 = rp2 ∧ f 1 = .func (.func 30) [rp2] [] ∧ f 23 = .int .i64 n ∧ f 24 = .int .i64 (i : Nat)) n.toNat (key _ _ rfl (by simp) (by simp) (by simp) (by simp) (by simp)) ?_
      clear key hx
      rintro m f H ⟨k, i, r', out, K, rfl, hik, hol, hsr, hr', hbig, hrow, rfl, hout, hf0, hf1, hf23, hf24⟩
      cases m with
      | zero =>
        have hlt : ¬ (i : Int) < n := by omega
        rw [rowR] at hrow
        subst hrow
        rcases hout with ⟨rfl, rfl, hf6⟩ | ⟨hne, rfl, hf6⟩
        · skip
          repeat' (first
            | apply w_seq
            | apply w_region
            | apply o_end
            | apply t_normal
            | (apply o_val; exact kc0; exact kc2)
            | apply w_ret
            | apply w_exit
            | apply t_exit
            | apply b_here
            | (apply w_false; exact kc3)
            | fail)
          refine g_ret (K := []) (by simp [*]; rfl) rfl ?_
          exact .nil
        · skip
          repeat' (first
            | apply w_seq
            | apply w_region
            | apply o_end
            | apply t_normal
            | (apply o_val; exact kc0; exact kc2)
            | apply w_ret
            | apply w_exit
            | apply t_exit
            | apply b_here
            | (apply w_false; exact kc3)
            | fail)
          refine g_ret (K := [.cells out.length 8 false (out.map rqC)]) (by simp [*]; rfl) rfl ?_
          exact .slice_flat (by simp) rfl (by simp) (by simp) (flt_rq _)
      | succ k =>
        have hlt : (i : Int) < n := by omega
        rw [rowR] at hrow
        by_cases hbad : r'.bad = true
        · rw [if_pos hbad] at hrow
          subst hrow
          rcases hout with ⟨rfl, rfl, hf6⟩ | ⟨hne, rfl, hf6⟩
          · skip
            repeat' (first
              | apply w_seq
              | apply w_region
              | apply o_end
              | apply t_normal
              | (apply o_val; exact kc0; exact kc2)
              | apply w_skip
              | apply w_block
              | apply w_ret
              | apply t_ret
              | apply b_ret
              | (apply w_true; exact kc3)
              | fail)
            refine g_ret (K := []) (by simp [*]; rfl) rfl ?_
            exact .nil
          · skip
            repeat' (first
              | apply w_seq
              | apply w_region
              | apply o_end
              | apply t_normal
              | (apply o_val; exact kc0; exact kc2)
              | apply w_skip
              | apply w_block
              | apply w_ret
              | apply t_ret
              | apply b_ret
              | (apply w_true; exact kc3)
              | fail)
            refine g_ret (K := [.cells out.length 8 false (out.map rqC)]) (by simp [*]; rfl) rfl ?_
            exact .nil
        · have hbad' : r'.bad = false := by simpa using hbad
          rw [if_neg hbad] at hrow
          have hn' : n < 1501 := hbig.resolve_right hbad
          have hy := request_readB r' hsr hal
          have hsr2 := (suf_rq r').trans hsr
          have hle := (makes_rq r' hr').2
          generalize (rqR r').1 = v at *
          generalize (rqR r').2 = r'' at *
          have hb1 : out.length + 1 ≤ 140737488355328 := by omega
          have hb2 : (out.length + 1) * 88 ≤ 140737488355328 := by omega
          have hb3 : (out.length + 1) * 8 ≤ 140737488355328 := by omega
          have hb4 : (out.length + 1) * 64 ≤ 140737488355328 := by omega
          have h7 : IntKind.i64.wrap ((i : Int) + 1) = (i : Int) + 1 := wrap_i64 (by omega) (by omega)
          rcases hout with ⟨rfl, rfl, hf6⟩ | ⟨hne, rfl, hf6⟩
          · skip
            repeat' (first
              | apply w_seq
              | apply w_region
              | apply o_end
              | apply t_normal
              | (apply o_add; exact kc0; exact kc2; rfl; exact kc2; rfl; exact ke2)
              | (apply o_val; exact kc0; exact kc2)
              | (apply o_lit; exact kc0; exact kc1; (focus (simp; done)); exact kd7)
              | (apply o_beside fine; exact kc0; exact kc1; exact hy; rfl; rfl; exact kd4; (focus (simp only [rowH, rdB, List.cons_append, List.nil_append]; rfl)))
              | (apply o_mem; exact kc0; rfl; exact kc1)
              | apply w_skip
              | apply w_block
              | apply b_normal
              | (apply w_true; exact kc3)
              | (apply w_false; exact kc3)
              | fail)
            exact ⟨k, by omega, k, i + 1, r'', [v], [.cells 1 8 false [rqC v]], rfl, by omega, by simp, hsr2, by omega, .inl hn', by simpa using hrow, rfl, .inr ⟨by simp, rfl, by simp⟩, by simp [*], by simp [*], by simp [*], by simp [*]⟩
          · skip
            repeat' (first
              | apply w_seq
              | apply w_region
              | apply o_end
              | apply t_normal
              | (apply o_add; exact kc0; exact kc2; rfl; exact kc2; rfl; exact ke2)
              | (apply o_val; exact kc0; exact kc2)
              | (apply o_lit; exact kc0; exact kc1; (focus (simp; done)); exact kd7)
              | (apply o_beside fine; exact kc0; exact kc1; exact hy; rfl; rfl; exact kd4; (focus (simp only [rowH, rdB, List.cons_append, List.nil_append]; rfl)))
              | (apply o_mem; exact kc0; rfl; exact kc1)
              | apply w_skip
              | apply w_block
              | apply b_normal
              | (apply w_true; exact kc3)
              | (apply w_false; exact kc3)
              | fail)
            exact ⟨k, by omega, k, i + 1, r'', out ++ [v], [.cells (out.length + 1) 8 false (out.map rqC ++ [rqC v])], rfl, by omega, by simp; omega, hsr2, by omega, .inl hn', by simpa using hrow, rfl, .inr ⟨by simp, by simp, by simp⟩, by simp [*], by simp [*], by simp [*], by simp [*]⟩


theorem Read_okB (l : List UInt8) (hl : l.length < 1501) : CallsV L 10 [.slice 0 0 l.length l.length] [.cells l.length 1 false (l.map encB)] (Turns (.tuple [stD (readSt l).1, .bool (readSt l).2]) [.cells l.length 1 false (l.map encB)]) := by
  refine gives_of_body L_ok rfl (by simp) (fn := Try.f10) rfl rfl rfl rfl (by kernel_rfl) ?_
  obtain ⟨hin, _⟩ := makes_st ⟨l, false⟩ hl
  have hS : readSt l = if (stR ⟨l, false⟩).2.bad || !(stB (stR ⟨l, false⟩).1 == l) then (zeroSt, false) else ((stR ⟨l, false⟩).1, true) := rfl
  obtain ⟨r, hr⟩ : ∃ r : Rd, r = ⟨l, false⟩ := ⟨_, rfl⟩
  have hrb : r.b = l := by rw [hr]
  have hrbad : r.bad = false := by rw [hr]
  rw [← hr] at hS hin
  have hb : r.b.length < 1501 := by rw [hrb]; exact hl
  clear hr
  obtain ⟨_, l1⟩ := makes_num (r) (by omega)
  have hs : r.b <:+ l := by rw [hrb]; exact List.suffix_refl _
  have c1 := number_readB (r) hs hl
  have hs1 := (suf_num (r)).trans hs
  obtain ⟨a, e1⟩ : ∃ x, numR (r) = x := ⟨_, rfl⟩
  rw [e1] at c1 l1 hs1
  obtain ⟨_, l2⟩ := makes_tru (a.2) (by omega)
  have c2 := truth_readB (a.2) hs1 hl
  have hs2 := (suf_tru (a.2)).trans hs1
  obtain ⟨b, e2⟩ : ∃ x, truR (a.2) = x := ⟨_, rfl⟩
  rw [e2] at c2 l2 hs2
  obtain ⟨_, l3⟩ := makes_list makes_num (b.2) (by omega)
  have c3 := lists_intB (b.2) hs2 hl
  have hs3 := ((suf_list suf_num) (b.2)).trans hs2
  obtain ⟨c, e3⟩ : ∃ x, listR numR (b.2) = x := ⟨_, rfl⟩
  rw [e3] at c3 l3 hs3
  obtain ⟨_, l4⟩ := makes_list makes_num (c.2) (by omega)
  have c4 := lists_intB (c.2) hs3 hl
  have hs4 := ((suf_list suf_num) (c.2)).trans hs3
  obtain ⟨d, e4⟩ : ∃ x, listR numR (c.2) = x := ⟨_, rfl⟩
  rw [e4] at c4 l4 hs4
  obtain ⟨_, l5⟩ := makes_list makes_tru (d.2) (by omega)
  have c5 := lists_boolB (d.2) hs4 hl
  have hs5 := ((suf_list suf_tru) (d.2)).trans hs4
  obtain ⟨e, e5⟩ : ∃ x, listR truR (d.2) = x := ⟨_, rfl⟩
  rw [e5] at c5 l5 hs5
  obtain ⟨_, l6⟩ := makes_list makes_tru (e.2) (by omega)
  have c6 := lists_boolB (e.2) hs5 hl
  have hs6 := ((suf_list suf_tru) (e.2)).trans hs5
  obtain ⟨f, e6⟩ : ∃ x, listR truR (e.2) = x := ⟨_, rfl⟩
  rw [e6] at c6 l6 hs6
  obtain ⟨_, l7⟩ := makes_list makes_tru (f.2) (by omega)
  have c7 := lists_boolB (f.2) hs6 hl
  have hs7 := ((suf_list suf_tru) (f.2)).trans hs6
  obtain ⟨g, e7⟩ : ∃ x, listR truR (f.2) = x := ⟨_, rfl⟩
  rw [e7] at c7 l7 hs7
  obtain ⟨_, l8⟩ := makes_list makes_rq (g.2) (by omega)
  have c8 := lists_rqB (g.2) hs7 hl
  have hs8 := ((suf_list suf_rq) (g.2)).trans hs7
  obtain ⟨h, e8⟩ : ∃ x, listR rqR (g.2) = x := ⟨_, rfl⟩
  rw [e8] at c8 l8 hs8
  have hR : stR r = ({ doc := a.1, owned := b.1, jar := c.1, changed := d.1, knows := e.1, stolen := f.1, ran := g.1, pending := h.1 }, h.2) := by
    subst e1 e2 e3 e4 e5 e6 e7 e8
    rfl
  rw [hR] at hS hin
  simp only at hS hin
  have cS := State_ok _ hin
  have cE := Equal_ok (stB { doc := a.1, owned := b.1, jar := c.1, changed := d.1, knows := e.1, stolen := f.1, ran := g.1, pending := h.1 }) l
  clear hR hs1 hs2 hs3 hs4 hs5 hs6 hs7 hs8 hs hb l1 l2 l3 l4 l5 l6 l7 l8 e1 e2 e3 e4 e5 e6 e7 e8 hin
  obtain ⟨ra, rb⟩ := r
  simp only at hrb hrbad
  subst hrb hrbad
  rw [hS]
  clear hS
  generalize hq : stB { doc := a.1, owned := b.1, jar := c.1, changed := d.1, knows := e.1, stolen := f.1, ran := g.1, pending := h.1 } = q at *
  unfold rdB at c1
  simp only [Nat.sub_self] at c1
  repeat' (first
    | apply w_seq
    | apply w_region
    | apply o_end
    | apply t_normal
    | (apply o_val; exact kc0; exact kc2)
    | (apply o_turns; exact kc0; exact kc1; exact c1)
    | (apply o_turns; exact kc0; exact kc1; exact c2)
    | (apply o_turns; exact kc0; exact kc1; exact c3)
    | (apply o_turns; exact kc0; exact kc1; exact c4)
    | (apply o_turns; exact kc0; exact kc1; exact c5)
    | (apply o_turns; exact kc0; exact kc1; exact c6)
    | (apply o_turns; exact kc0; exact kc1; exact c7)
    | (apply o_turns; exact kc0; exact kc1; exact c8)
    | (apply o_fn fine; exact kc0; exact kc1; exact cS; exact kc3)
    | (apply o_lend fine; exact kc0; exact kc1; (focus (exact cE )); (focus ( exact ⟨.flat (by simp), .slice_flat trivial rfl (by simp) (by simp) (numB_flat _), trivial⟩)); (focus (simp; done)))
    | (apply o_mem; exact kc0; rfl; exact kc1)
    | apply w_skip
    | apply w_ret
    | apply t_ret
    | (apply w_true; exact kc3)
    | ((apply w_cond; exact kc2; rfl) <;> (intro hc; have hc' := hc; try simp at hc'))
    | (apply o_no; exact ke7)
    | ((apply o_if; rfl; rfl; exact kc2; rfl) <;> (intro hg; (fail_if_success (guard_hyp hg : true = true)); (fail_if_success (guard_hyp hg : false = false)); have hg' := hg; (try simp at hg'); have hg2 := hg; (try simp only [bne, Bool.not_not, Bool.not_true, Bool.not_false, Bool.not_or, Bool.not_and, Bool.not_eq_true', Bool.not_eq_false', Bool.and_eq_true, Bool.or_eq_false_iff] at hg2)))
    | fail)
  all_goals refine g_ret (by simp [*]; rfl) rfl ?_
  all_goals first
    | ((try simp only [*, Bool.or_true, Bool.true_or, Bool.not_false, Bool.not_true, Bool.false_or, if_true]); exact snap_zero)
    | (simp [*]; exact snap_zero)
    | (simp [*]; exact .flat (by simp))
end Go.Proofs.Ytejpgmemohchaaa.Vm
