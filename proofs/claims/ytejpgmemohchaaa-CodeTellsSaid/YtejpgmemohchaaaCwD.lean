/- Walks: the document's reader. -/
import Derived.Test.YtejpgmemohchaaaCwC
set_option linter.unusedSimpArgs false
set_option maxRecDepth 100000
set_option maxHeartbeats 4000000
namespace Go.Proofs.Ytejpgmemohchaaa.Vm
open Go
attribute [local irreducible] wpD opsD thenD blockD planD planA
attribute [local simp] List.take_of_length_le List.drop_of_length_le num_ne

abbrev rqH (r : Rd) : Heap := [.cells 0 2 false [[bytesL r.b, .bool (!r.bad)]]]
theorem c15 (c : UInt8) : IntKind.u8.wrap ↑(c.toNat % 2 ^ IntKind.u8.bits &&& 127 % 2 ^ IntKind.u8.bits) = (c.toNat : Int) % 128 := by
  have h : c.toNat < 256 := c.toNat_lt
  have e : c.toNat % 2 ^ IntKind.u8.bits &&& 127 % 2 ^ IntKind.u8.bits = c.toNat % 128 := by
    have : ∀ n, n < 256 → (n % 2 ^ IntKind.u8.bits &&& 127 % 2 ^ IntKind.u8.bits) = n % 128 := by decide +kernel
    exact this _ h
  rw [e, wrap_u8]
  omega
theorem refNumber_read (r : Rd) (hb : r.b.length < 1000000000000) : CallsV L 32 [rp] (rqH r) (Turns (.int .i64 (numQ r).1) (rqH (numQ r).2)) := by
  refine turns_of_body L_ok (fn := Try.f32) rfl rfl rfl rfl (by kernel_rfl) ?_
  repeat' (first
    | apply w_seq
    | apply w_region
    | apply o_end
    | apply t_normal
    | (apply o_val; exact kc0; exact kc2)
    | apply w_block
    | fail)
  refine w_loop (fun m f H => ∃ (k i u : Nat) (r' : Rd), m = k ∧ H = rqH r' ∧ r'.b.length < 1000000000000 ∧ f 0 = rp ∧ i + k = 10 ∧ u < 18446744073709551616 ∧ numQL k (7 * i) u r' = numQ r ∧ f 3 = .int .u64 (u : Nat) ∧ f 4 = .int .i64 (i : Nat)) 10 ⟨10, 0, 0, r, rfl, rfl, hb, by simp, by omega, by decide, rfl, by simp⟩ ?_
  rintro m f H ⟨k, i, u, r', rfl, rfl, hr', hf0, hi, hu, hn, hf3, hf4⟩
  cases m with
  | zero =>
    have h1 : ¬ (i : Int) < 10 := by omega
    have h2 : numQ r = (0, ⟨r'.b, true⟩) := hn.symm
    clear hn
    repeat' (first
      | apply w_seq
      | apply w_region
      | apply o_end
      | apply t_normal
      | (apply o_val; exact kc0; exact kc2)
      | (apply o_mem; exact kc0; rfl; exact kc1)
      | apply w_ret
      | apply w_exit
      | apply t_exit
      | apply b_here
      | (apply w_false; exact kc3)
      | fail)
    apply t_retT
    · simp [*]; rfl
    · simp [*]
    · simp [*, rqH]
  | succ k =>
    have h1 : (i : Int) < 10 := by omega
    obtain ⟨b, bad⟩ := r'
    cases b with
    | nil =>
      have h2 : numQ r = (0, ⟨[], true⟩) := hn.symm
      clear hn
      repeat' (first
        | apply w_seq
        | apply w_region
        | apply o_end
        | apply t_normal
        | (apply o_val; exact kc0; exact kc2)
        | (apply o_mem; exact kc0; rfl; exact kc1)
        | apply w_skip
        | apply w_block
        | apply w_ret
        | apply w_exit
        | apply t_exit
        | apply b_here
        | (apply b_on; (focus decide))
        | (apply w_true; exact kc3)
        | fail)
      apply t_retT
      · simp [*]; rfl
      · simp [*]
      · simp [*, rqH]
    | cons c l =>
      have hn' : numQ r = if c.toNat < 128 then (unzz (orG u (7 * i) c), ⟨l, bad⟩) else numQL k (7 * i + 7) (orG u (7 * i) c) ⟨l, bad⟩ := hn.symm
      clear hn
      have k1 : ¬ ((l.length : Int) + 1 = 0) := by omega
      have k2 : (1 : Int) ≤ (l.length : Int) + 1 := by omega
      have k3 : 1 ≤ l.length + 1 := by omega
      obtain ⟨s, hs⟩ : ∃ s, s = 7 * i := ⟨_, rfl⟩
      have e36 : IntKind.i64.wrap (7 * (i : Int)) = (s : Int) := by rw [wrap_i64 (by omega) (by omega)]; omega
      rw [← hs] at hn'
      have z15 := c15 c
      have z16 := b16 c
      have z18 := b18 c s (by omega)
      have z19 := b19 u s c hu
      have hv := orG_lt (s := s) c hu
      generalize (c.toNat % 128) * 2 ^ s % 18446744073709551616 = w at *
      generalize orG u s c = v at *
      have z23 := b23 v
      have z24 := b24 v hv
      have z26 := b26 v hv
      have z28 : IntKind.i64.wrap (-((v : Int) / 2)) = -((v : Int) / 2) := wrap_i64 (by omega) (by omega)
      simp only [List.length_cons] at hr'
      by_cases hc : c.toNat < 128
      · have hc' : (c.toNat : Int) < 128 := by omega
        rw [if_pos hc] at hn'
        clear hs
        by_cases h2 : v % 2 = 1
        · have h2' : (v : Int) % 2 = 1 := by omega
          have hz : unzz v = -((v : Int) / 2) - 1 := by unfold unzz; rw [if_pos h2]; omega
          repeat' (first
            | apply w_seq
            | apply w_region
            | apply o_end
            | apply t_normal
            | (apply o_sub; exact kc0; exact kc2; rfl; exact kc2; rfl; exact ke2)
            | (apply o_val; exact kc0; exact kc2)
            | (apply o_mem; exact kc0; rfl; exact kc1)
            | apply w_skip
            | apply w_block
            | apply w_ret
            | apply t_ret
            | apply b_ret
            | (apply w_true; exact kc3)
            | (apply w_false; exact kc3)
            | fail)
          apply t_retT
          · simp [*]; rfl
          · simp [*]
          · simp [*]
        · have h2' : ¬ (v : Int) % 2 = 1 := by omega
          have hz : unzz v = (v : Int) / 2 := by unfold unzz; rw [if_neg h2]; omega
          repeat' (first
            | apply w_seq
            | apply w_region
            | apply o_end
            | apply t_normal
            | (apply o_val; exact kc0; exact kc2)
            | (apply o_mem; exact kc0; rfl; exact kc1)
            | apply w_skip
            | apply w_block
            | apply w_ret
            | apply t_ret
            | apply b_ret
            | (apply w_true; exact kc3)
            | (apply w_false; exact kc3)
            | fail)
          apply t_retT
          · simp [*]; rfl
          · simp [*]
          · simp [*]
      · have hc' : ¬ (c.toNat : Int) < 128 := by omega
        rw [if_neg hc] at hn'
        have hs7 : s + 7 = 7 * (i + 1) := by omega
        rw [hs7] at hn'
        clear hs hs7
        have h7 : IntKind.i64.wrap ((i : Int) + 1) = (i : Int) + 1 := wrap_i64 (by omega) (by omega)
        repeat' (first
          | apply w_seq
          | apply w_region
          | apply o_end
          | apply t_normal
          | (apply o_add; exact kc0; exact kc2; rfl; exact kc2; rfl; exact ke2)
          | (apply o_val; exact kc0; exact kc2)
          | (apply o_mem; exact kc0; rfl; exact kc1)
          | apply w_skip
          | apply w_block
          | apply b_normal
          | (apply w_true; exact kc3)
          | (apply w_false; exact kc3)
          | fail)
        exact ⟨k, by omega, k, i + 1, v, ⟨l, bad⟩, rfl, by simp [rqH], by simp only; omega, by simp [*], by omega, hv, hn'.symm, by simp [*], by simp [*]⟩
theorem refTruth_read (r : Rd) (hb : r.b.length < 1000000000000) : CallsV L 33 [rp] (rqH r) (Turns (.bool (truQ r).1) (rqH (truQ r).2)) := by
  refine turns_of_body L_ok (fn := Try.f33) rfl rfl rfl rfl (by kernel_rfl) ?_
  obtain ⟨b, bad⟩ := r
  cases b with
  | nil =>
    repeat' (first
      | apply w_seq
      | apply w_region
      | apply o_end
      | apply t_normal
      | (apply o_val; exact kc0; exact kc2)
      | (apply o_mem; exact kc0; rfl; exact kc1)
      | apply w_ret
      | apply t_ret
      | (apply w_true; exact kc3)
      | (apply o_no; exact ke7)
      | fail)
    apply t_retT
    · simp [*]; rfl
    · simp [truQ]
    · simp [truQ, rqH]
  | cons c l =>
    have k1 : ¬ ((l.length : Int) + 1 = 0) := by omega
    have k2 : (1 : Int) ≤ (l.length : Int) + 1 := by omega
    have k3 : 1 ≤ l.length + 1 := by omega
    by_cases hc : 1 < c.toNat
    · have hc' : (1 : Int) < (c.toNat : Int) := by omega
      repeat' (first
        | apply w_seq
        | apply w_region
        | apply o_end
        | apply t_normal
        | (apply o_val; exact kc0; exact kc2)
        | (apply o_mem; exact kc0; rfl; exact kc1)
        | apply w_ret
        | apply t_ret
        | (apply w_true; exact kc3)
        | fail)
      apply t_retT
      · simp [*]; rfl
      · simp [truQ, hc]
      · simp [truQ, hc, rqH]
    · have hc' : ¬ (1 : Int) < (c.toNat : Int) := by omega
      repeat' (first
        | apply w_seq
        | apply w_region
        | apply o_end
        | apply t_normal
        | (apply o_val; exact kc0; exact kc2)
        | (apply o_mem; exact kc0; rfl; exact kc1)
        | apply w_skip
        | apply w_ret
        | (apply w_false; exact kc3)
        | fail)
      apply t_retT
      · simp [*]; rfl
      · simp [truQ, hc, u8_is_one]
      · simp [truQ, hc, rqH]
theorem refMany_read (r : Rd) (hb : r.b.length < 1501) : CallsV L 36 [rp] (rqH r) (Turns (.int .i64 (manyQ r).1) (rqH (manyQ r).2)) := by
  refine turns_of_body L_ok (fn := Try.f36) rfl rfl rfl rfl (by kernel_rfl) ?_
  have hx := refNumber_read r (by omega)
  have hM : manyQ r = if (numQ r).1 < 0 ∨ ((numQ r).2.b.length : Int) < (numQ r).1 then (0, ⟨(numQ r).2.b, true⟩) else ((numQ r).1, (numQ r).2) := rfl
  generalize (numQ r).1 = n at *
  generalize (numQ r).2 = r1 at *
  by_cases h1 : n < 0
  · rw [if_pos (.inl h1)] at hM
    repeat' (first
      | apply w_seq
      | apply w_region
      | apply o_end
      | apply t_normal
      | (apply o_val; exact kc0; exact kc2)
      | (apply o_turns; exact kc0; exact kc1; exact hx)
      | (apply o_mem; exact kc0; rfl; exact kc1)
      | apply w_ret
      | apply t_ret
      | (apply w_true; exact kc3)
      | (apply o_no; exact ke7)
      | fail)
    apply t_retT
    · simp [*]; rfl
    · simp [*]
    · simp [*, rqH]
  · by_cases h2 : (r1.b.length : Int) < n
    · rw [if_pos (.inr h2)] at hM
      repeat' (first
        | apply w_seq
        | apply w_region
        | apply o_end
        | apply t_normal
        | (apply o_val; exact kc0; exact kc2)
        | (apply o_turns; exact kc0; exact kc1; exact hx)
        | (apply o_mem; exact kc0; rfl; exact kc1)
        | apply w_ret
        | apply t_ret
        | (apply w_true; exact kc3)
        | fail)
      apply t_retT
      · simp [*]; rfl
      · simp [*]
      · simp [*, rqH]
    · rw [if_neg (by simp [*])] at hM
      repeat' (first
        | apply w_seq
        | apply w_region
        | apply o_end
        | apply t_normal
        | (apply o_val; exact kc0; exact kc2)
        | (apply o_turns; exact kc0; exact kc1; exact hx)
        | apply w_skip
        | apply w_ret
        | (apply w_false; exact kc3)
        | fail)
      apply t_retT
      · simp [*]; rfl
      · simp [*]
      · simp [*, rqH]
theorem refInts_read (r : Rd) (hb : r.b.length < 1501) : CallsV L 34 [rp] (rqH r) (Turns (intsL (listQ numQ r).1) (rqH (listQ numQ r).2)) := by
  refine gives_of_body L_ok rfl (by simp) (fn := Try.f34) rfl rfl rfl rfl (by kernel_rfl) ?_
  have hL : listQ numQ r = rowQ numQ (manyQ r).1.toNat (manyQ r).2 [] := rfl
  have hx := refMany_read r hb
  obtain ⟨hm1, hm2⟩ := makes_manyQ r hb
  rw [hL]
  clear hL
  generalize (manyQ r).1 = n at *
  generalize (manyQ r).2 = r1 at *
  obtain ⟨res, hres⟩ : ∃ res, rowQ numQ n.toNat r1 [] = res := ⟨_, rfl⟩
  rw [hres]
  repeat' (first
    | apply w_seq
    | apply w_region
    | apply o_end
    | apply t_normal
    | (apply o_val; exact kc0; exact kc2)
    | (apply o_turns; exact kc0; exact kc1; exact hx)
    | apply w_block
    | fail)
  refine w_loop (fun m f H => ∃ (k i : Nat) (r' : Rd) (out : List Int) (K : Heap), m = k ∧ i + k = n.toNat ∧ out.length ≤ i ∧ r'.b.length < 1501 ∧ rowQ numQ k r' out = res ∧ H = rqH r' ++ K ∧
      ((out = [] ∧ K = [] ∧ f 3 = .nilsl) ∨ (out ≠ [] ∧ K = [.cells out.length 1 false (out.map encI)] ∧ f 3 = .slice 1 0 out.length out.length)) ∧ f 0 = rp ∧ f 4 = .int .i64 n ∧ f 5 = .int .i64 (i : Nat)) n.toNat
      ⟨n.toNat, 0, r1, [], [], rfl, by omega, by simp, by omega, hres, by simp, .inl ⟨rfl, rfl, by simp⟩, by simp⟩ ?_
  clear hx hres
  rintro m f H ⟨k, i, r', out, K, rfl, hik, hol, hr', hrow, rfl, hout, hf0, hf4, hf5⟩
  cases m with
  | zero =>
    have hlt : ¬ (i : Int) < n := by omega
    rw [rowQ] at hrow
    subst hrow
    rcases hout with ⟨rfl, rfl, hf3⟩ | ⟨hne, rfl, hf3⟩
    · skip
      repeat' (first
        | apply w_seq
        | apply w_region
        | apply o_end
        | apply t_normal
        | (apply o_val; exact kc0; exact kc2)
        | apply w_ret
        | apply w_exit
        | apply t_exit
        | apply b_here
        | (apply w_false; exact kc3)
        | (apply o_no; exact ke7)
        | fail)
      refine g_ret (K := []) (by simp [*]; rfl) rfl ?_
      exact .nil
    · skip
      repeat' (first
        | apply w_seq
        | apply w_region
        | apply o_end
        | apply t_normal
        | (apply o_val; exact kc0; exact kc2)
        | apply w_ret
        | apply w_exit
        | apply t_exit
        | apply b_here
        | (apply w_false; exact kc3)
        | (apply o_no; exact ke7)
        | fail)
      refine g_ret (K := [.cells out.length 1 false (out.map encI)]) (by simp [*]; rfl) rfl ?_
      exact .slice_flat (by simp) rfl (by simp) (by simp) (flt_int _)
  | succ k =>
    have hlt : (i : Int) < n := by omega
    rw [rowQ] at hrow
    by_cases hbad : r'.bad = true
    · rw [if_pos hbad] at hrow
      subst hrow
      rcases hout with ⟨rfl, rfl, hf3⟩ | ⟨hne, rfl, hf3⟩
      · skip
        repeat' (first
          | apply w_seq
          | apply w_region
          | apply o_end
          | apply t_normal
          | (apply o_val; exact kc0; exact kc2)
          | apply w_ret
          | apply w_exit
          | apply t_exit
          | apply b_here
          | (apply w_false; exact kc3)
          | fail)
        refine g_ret (K := []) (by simp [*]; rfl) rfl ?_
        exact .nil
      · skip
        repeat' (first
          | apply w_seq
          | apply w_region
          | apply o_end
          | apply t_normal
          | (apply o_val; exact kc0; exact kc2)
          | apply w_ret
          | apply w_exit
          | apply t_exit
          | apply b_here
          | (apply w_false; exact kc3)
          | fail)
        refine g_ret (K := [.cells out.length 1 false (out.map encI)]) (by simp [*]; rfl) (by simp [*]) ?_
        exact .slice_flat (by simp) rfl (by simp) (by simp) (flt_int _)
    · have hbad' : r'.bad = false := by simpa using hbad
      rw [if_neg hbad] at hrow
      have hy := refNumber_read r' (by omega)
      have hle := (makes_numQ r' hr').2
      generalize (numQ r').1 = v at *
      generalize (numQ r').2 = r'' at *
      have hb1 : out.length + 1 ≤ 140737488355328 := by omega
      have hb2 : (out.length + 1) * 88 ≤ 140737488355328 := by omega
      have hb3 : (out.length + 1) * 8 ≤ 140737488355328 := by omega
      have h7 : IntKind.i64.wrap ((i : Int) + 1) = (i : Int) + 1 := wrap_i64 (by omega) (by omega)
      rcases hout with ⟨rfl, rfl, hf3⟩ | ⟨hne, rfl, hf3⟩
      · skip
        repeat' (first
          | apply w_seq
          | apply w_region
          | apply o_end
          | apply t_normal
          | (apply o_add; exact kc0; exact kc2; rfl; exact kc2; rfl; exact ke2)
          | (apply o_val; exact kc0; exact kc2)
          | (apply o_lit; exact kc0; exact kc1; (focus (simp; done)); exact kd7)
          | (apply o_beside fine; exact kc0; exact kc1; exact hy; rfl; rfl; exact kd4; (focus (simp only [rowH, rqH, List.cons_append, List.nil_append]; rfl)))
          | (apply o_mem; exact kc0; rfl; exact kc1)
          | apply w_skip
          | apply w_block
          | apply b_normal
          | (apply w_true; exact kc3)
          | fail)
        exact ⟨k, by omega, k, i + 1, r'', [v], [.cells 1 1 false [encI v]], rfl, by omega, by simp, by omega, by simpa using hrow, rfl, .inr ⟨by simp, rfl, by simp⟩, by simp [*], by simp [*], by simp [*]⟩
      · skip
        repeat' (first
          | apply w_seq
          | apply w_region
          | apply o_end
          | apply t_normal
          | (apply o_add; exact kc0; exact kc2; rfl; exact kc2; rfl; exact ke2)
          | (apply o_val; exact kc0; exact kc2)
          | (apply o_lit; exact kc0; exact kc1; (focus (simp; done)); exact kd7)
          | (apply o_beside fine; exact kc0; exact kc1; exact hy; rfl; rfl; exact kd4; (focus (simp only [rowH, rqH, List.cons_append, List.nil_append]; rfl)))
          | (apply o_mem; exact kc0; rfl; exact kc1)
          | apply w_skip
          | apply w_block
          | apply b_normal
          | (apply w_true; exact kc3)
          | fail)
        exact ⟨k, by omega, k, i + 1, r'', out ++ [v], [.cells (out.length + 1) 1 false (out.map encI ++ [encI v])], rfl, by omega, by simp; omega, by omega, by simpa using hrow, rfl, .inr ⟨by simp, by simp, by simp⟩, by simp [*], by simp [*], by simp [*]⟩
theorem refTruths_read (r : Rd) (hb : r.b.length < 1501) : CallsV L 35 [rp] (rqH r) (Turns (boolsL (listQ truQ r).1) (rqH (listQ truQ r).2)) := by
  refine gives_of_body L_ok rfl (by simp) (fn := Try.f35) rfl rfl rfl rfl (by kernel_rfl) ?_
  have hL : listQ truQ r = rowQ truQ (manyQ r).1.toNat (manyQ r).2 [] := rfl
  have hx := refMany_read r hb
  obtain ⟨hm1, hm2⟩ := makes_manyQ r hb
  rw [hL]
  clear hL
  generalize (manyQ r).1 = n at *
  generalize (manyQ r).2 = r1 at *
  obtain ⟨res, hres⟩ : ∃ res, rowQ truQ n.toNat r1 [] = res := ⟨_, rfl⟩
  rw [hres]
  repeat' (first
    | apply w_seq
    | apply w_region
    | apply o_end
    | apply t_normal
    | (apply o_val; exact kc0; exact kc2)
    | (apply o_turns; exact kc0; exact kc1; exact hx)
    | apply w_block
    | fail)
  refine w_loop (fun m f H => ∃ (k i : Nat) (r' : Rd) (out : List Bool) (K : Heap), m = k ∧ i + k = n.toNat ∧ out.length ≤ i ∧ r'.b.length < 1501 ∧ rowQ truQ k r' out = res ∧ H = rqH r' ++ K ∧
      ((out = [] ∧ K = [] ∧ f 3 = .nilsl) ∨ (out ≠ [] ∧ K = [.cells out.length 1 false (out.map encT)] ∧ f 3 = .slice 1 0 out.length out.length)) ∧ f 0 = rp ∧ f 4 = .int .i64 n ∧ f 5 = .int .i64 (i : Nat)) n.toNat
      ⟨n.toNat, 0, r1, [], [], rfl, by omega, by simp, by omega, hres, by simp, .inl ⟨rfl, rfl, by simp⟩, by simp⟩ ?_
  clear hx hres
  rintro m f H ⟨k, i, r', out, K, rfl, hik, hol, hr', hrow, rfl, hout, hf0, hf4, hf5⟩
  cases m with
  | zero =>
    have hlt : ¬ (i : Int) < n := by omega
    rw [rowQ] at hrow
    subst hrow
    rcases hout with ⟨rfl, rfl, hf3⟩ | ⟨hne, rfl, hf3⟩
    · skip
      repeat' (first
        | apply w_seq
        | apply w_region
        | apply o_end
        | apply t_normal
        | (apply o_val; exact kc0; exact kc2)
        | apply w_ret
        | apply w_exit
        | apply t_exit
        | apply b_here
        | (apply w_false; exact kc3)
        | (apply o_no; exact ke7)
        | fail)
      refine g_ret (K := []) (by simp [*]; rfl) rfl ?_
      exact .nil
    · skip
      repeat' (first
        | apply w_seq
        | apply w_region
        | apply o_end
        | apply t_normal
        | (apply o_val; exact kc0; exact kc2)
        | apply w_ret
        | apply w_exit
        | apply t_exit
        | apply b_here
        | (apply w_false; exact kc3)
        | (apply o_no; exact ke7)
        | fail)
      refine g_ret (K := [.cells out.length 1 false (out.map encT)]) (by simp [*]; rfl) rfl ?_
      exact .slice_flat (by simp) rfl (by simp) (by simp) (flt_bool _)
  | succ k =>
    have hlt : (i : Int) < n := by omega
    rw [rowQ] at hrow
    by_cases hbad : r'.bad = true
    · rw [if_pos hbad] at hrow
      subst hrow
      rcases hout with ⟨rfl, rfl, hf3⟩ | ⟨hne, rfl, hf3⟩
      · skip
        repeat' (first
          | apply w_seq
          | apply w_region
          | apply o_end
          | apply t_normal
          | (apply o_val; exact kc0; exact kc2)
          | apply w_ret
          | apply w_exit
          | apply t_exit
          | apply b_here
          | (apply w_false; exact kc3)
          | fail)
        refine g_ret (K := []) (by simp [*]; rfl) rfl ?_
        exact .nil
      · skip
        repeat' (first
          | apply w_seq
          | apply w_region
          | apply o_end
          | apply t_normal
          | (apply o_val; exact kc0; exact kc2)
          | apply w_ret
          | apply w_exit
          | apply t_exit
          | apply b_here
          | (apply w_false; exact kc3)
          | fail)
        refine g_ret (K := [.cells out.length 1 false (out.map encT)]) (by simp [*]; rfl) (by simp [*]) ?_
        exact .slice_flat (by simp) rfl (by simp) (by simp) (flt_bool _)
    · have hbad' : r'.bad = false := by simpa using hbad
      rw [if_neg hbad] at hrow
      have hy := refTruth_read r' (by omega)
      have hle := (makes_truQ r' hr').2
      generalize (truQ r').1 = v at *
      generalize (truQ r').2 = r'' at *
      have hb1 : out.length + 1 ≤ 140737488355328 := by omega
      have hb2 : (out.length + 1) * 88 ≤ 140737488355328 := by omega
      have hb3 : (out.length + 1) * 8 ≤ 140737488355328 := by omega
      have h7 : IntKind.i64.wrap ((i : Int) + 1) = (i : Int) + 1 := wrap_i64 (by omega) (by omega)
      rcases hout with ⟨rfl, rfl, hf3⟩ | ⟨hne, rfl, hf3⟩
      · skip
        repeat' (first
          | apply w_seq
          | apply w_region
          | apply o_end
          | apply t_normal
          | (apply o_add; exact kc0; exact kc2; rfl; exact kc2; rfl; exact ke2)
          | (apply o_val; exact kc0; exact kc2)
          | (apply o_lit; exact kc0; exact kc1; (focus (simp; done)); exact kd7)
          | (apply o_beside fine; exact kc0; exact kc1; exact hy; rfl; rfl; exact kd4; (focus (simp only [rowH, rqH, List.cons_append, List.nil_append]; rfl)))
          | (apply o_mem; exact kc0; rfl; exact kc1)
          | apply w_skip
          | apply w_block
          | apply b_normal
          | (apply w_true; exact kc3)
          | fail)
        exact ⟨k, by omega, k, i + 1, r'', [v], [.cells 1 1 false [encT v]], rfl, by omega, by simp, by omega, by simpa using hrow, rfl, .inr ⟨by simp, rfl, by simp⟩, by simp [*], by simp [*], by simp [*]⟩
      · skip
        repeat' (first
          | apply w_seq
          | apply w_region
          | apply o_end
          | apply t_normal
          | (apply o_add; exact kc0; exact kc2; rfl; exact kc2; rfl; exact ke2)
          | (apply o_val; exact kc0; exact kc2)
          | (apply o_lit; exact kc0; exact kc1; (focus (simp; done)); exact kd7)
          | (apply o_beside fine; exact kc0; exact kc1; exact hy; rfl; rfl; exact kd4; (focus (simp only [rowH, rqH, List.cons_append, List.nil_append]; rfl)))
          | (apply o_mem; exact kc0; rfl; exact kc1)
          | apply w_skip
          | apply w_block
          | apply b_normal
          | (apply w_true; exact kc3)
          | fail)
        exact ⟨k, by omega, k, i + 1, r'', out ++ [v], [.cells (out.length + 1) 1 false (out.map encT ++ [encT v])], rfl, by omega, by simp; omega, by omega, by simpa using hrow, rfl, .inr ⟨by simp, by simp, by simp⟩, by simp [*], by simp [*], by simp [*]⟩
end Go.Proofs.Ytejpgmemohchaaa.Vm
