/- Walks: code, what reads states out of bytes. -/
import Derived.Test.YtejpgmemohchaaaVmY
import Derived.Test.YtejpgmemohchaaaCwA
set_option linter.unusedSimpArgs false
set_option maxRecDepth 100000
set_option maxHeartbeats 4000000
namespace Go.Proofs.Ytejpgmemohchaaa.Vm
open Go
attribute [local irreducible] wpD opsD thenD blockD planD planA
attribute [local simp] List.take_of_length_le List.drop_of_length_le

abbrev rp : D := .ref 0 0 0 0
abbrev rdH (r : Rd) : Heap := [.cells 0 2 false [[bytesL r.b, .bool r.bad]]]
theorem next_ok (r : Rd) (hb : r.b.length < 1000000000000) : CallsV L 47 [rp] (rdH r) (Turns (.int .u8 (nextR r).1.toNat) (rdH (nextR r).2)) := by
  refine turns_of_body L_ok (fn := Try.f47) rfl rfl rfl rfl (by kernel_rfl) ?_
  obtain ⟨b, bad⟩ := r
  cases b with
  | nil =>
    repeat' (first
      | apply w_seq
      | apply w_region
      | apply o_end
      | apply t_normal
      | (apply o_val; exact kc0; exact kc2)
      | (apply o_mem; exact kc0; rfl; exact kc1)
      | apply w_ret
      | apply t_ret
      | (apply w_true; exact kc3)
      | fail)
    apply t_retT
    · simp [*]; rfl
    · simp [nextR]
    · simp [nextR, rdH]
  | cons c l =>
    have h1 : ¬ ((l.length : Int) + 1 = 0) := by omega
    have h2 : (1 : Int) ≤ (l.length : Int) + 1 := by omega
    have h3 : 1 ≤ l.length + 1 := by omega
    repeat' (first
      | apply w_seq
      | apply w_region
      | apply o_end
      | apply t_normal
      | (apply o_val; exact kc0; exact kc2)
      | (apply o_mem; exact kc0; rfl; exact kc1)
      | apply w_skip
      | apply w_ret
      | (apply w_false; exact kc3)
      | fail)
    apply t_retT
    · simp [*]; rfl
    · simp [nextR]
    · simp [nextR, rdH]
theorem u8_is_one (c : UInt8) : (((c.toNat : Int)) == 1) = (c == 1) := by
  rw [Bool.eq_iff_iff]
  simp only [beq_iff_eq]
  constructor
  · intro h
    apply UInt8.toNat_inj.1
    simp
    omega
  · rintro rfl
    rfl
theorem truth_read (r : Rd) (hb : r.b.length < 1000000000000) : CallsV L 26 [rp] (rdH r) (Turns (.bool (truR r).1) (rdH (truR r).2)) := by
  refine turns_of_body L_ok (fn := Try.f26) rfl rfl rfl rfl (by kernel_rfl) ?_
  repeat' (first
    | apply w_seq
    | apply w_region
    | apply o_end
    | apply t_normal
    | (apply o_val; exact kc0; exact kc2)
    | (apply o_turns; exact kc0; exact kc1; (focus (exact next_ok r hb)))
    | apply w_ret
    | fail)
  apply t_retT
  · simp [*]; rfl
  · simp [truR, u8_is_one]
  · rfl
theorem b15 (c : UInt8) : IntKind.u8.wrap ↑(c.toNat % 2 ^ IntKind.u8.bits &&& 2 ^ IntKind.u8.bits - 1 - 128 % 2 ^ IntKind.u8.bits) = (c.toNat : Int) % 128 := by
  have h : c.toNat < 256 := c.toNat_lt
  have e : c.toNat % 2 ^ IntKind.u8.bits &&& 2 ^ IntKind.u8.bits - 1 - 128 % 2 ^ IntKind.u8.bits = c.toNat % 128 := by
    have : ∀ n, n < 256 → (n % 2 ^ IntKind.u8.bits &&& 2 ^ IntKind.u8.bits - 1 - 128 % 2 ^ IntKind.u8.bits) = n % 128 := by decide +kernel
    exact this _ h
  rw [e, wrap_u8]
  omega
theorem b16 (c : UInt8) : IntKind.u64.wrap ((c.toNat : Int) % 128) = (c.toNat : Int) % 128 := by
  rw [wrap_u64]
  omega
theorem b18 (c : UInt8) (s : Nat) (hs : s < 64) : IntKind.u64.wrap ((c.toNat : Int) % 128 * 2 ^ min s IntKind.u64.bits) = ((((c.toNat % 128) * 2 ^ s % 18446744073709551616 : Nat)) : Int) := by
  rw [show min s IntKind.u64.bits = s from Nat.min_eq_left (show s ≤ 64 by omega), wrap_u64]
  have e : ((c.toNat : Int) % 128 * 2 ^ s) = (((c.toNat % 128) * 2 ^ s : Nat) : Int) := by simp
  rw [e]
  omega
theorem b19 (u s : Nat) (c : UInt8) (hu : u < 18446744073709551616) : IntKind.u64.wrap ↑(u % 2 ^ IntKind.u64.bits ||| ((c.toNat % 128) * 2 ^ s % 18446744073709551616) % 2 ^ IntKind.u64.bits) = (orG u s c : Int) := by
  have e1 : u % 2 ^ IntKind.u64.bits = u := Nat.mod_eq_of_lt hu
  have e2 : ((c.toNat % 128) * 2 ^ s % 18446744073709551616) % 2 ^ IntKind.u64.bits = (c.toNat % 128) * 2 ^ s % 18446744073709551616 := Nat.mod_eq_of_lt (Nat.mod_lt _ (by decide))
  rw [e1, e2, wrap_u64]
  have := orG_lt (s := s) c hu
  unfold orG at this ⊢
  omega
theorem b23 (v : Nat) : (v : Int).fdiv (2 ^ min 1 IntKind.u64.bits) = (v : Int) / 2 := by
  rw [show min 1 IntKind.u64.bits = 1 from rfl, Int.fdiv_eq_ediv_of_nonneg _ (by decide)]
  rfl
theorem b24 (v : Nat) (hv : v < 18446744073709551616) : IntKind.i64.wrap ((v : Int) / 2) = (v : Int) / 2 := wrap_i64 (by omega) (by omega)
theorem b26 (v : Nat) (hv : v < 18446744073709551616) : IntKind.u64.wrap ↑(v % 2 ^ IntKind.u64.bits &&& 1 % 2 ^ IntKind.u64.bits) = (v : Int) % 2 := by
  have e1 : v % 2 ^ IntKind.u64.bits = v := Nat.mod_eq_of_lt hv
  rw [e1, show 1 % 2 ^ IntKind.u64.bits = 1 from rfl, and1, wrap_u64]
  omega
theorem b29 (v : Nat) (hv : v < 18446744073709551616) : IntKind.i64.wrap ↑(((if IntKind.i64.signed = true then -1 else 9223372036854775807) % 2 ^ IntKind.i64.bits).toNat ^^^ ((v : Int) / 2 % 2 ^ IntKind.i64.bits).toNat) = -((v : Int) / 2) - 1 := by
  have e1 : (((if IntKind.i64.signed = true then -1 else 9223372036854775807) : Int) % 2 ^ IntKind.i64.bits).toNat = 18446744073709551615 := by decide +kernel
  have e2 : ((v : Int) / 2 % 2 ^ IntKind.i64.bits).toNat = v / 2 := by
    rw [show (2 : Int) ^ IntKind.i64.bits = 18446744073709551616 from rfl]
    omega
  rw [e1, e2, xor_all _ (by omega)]
  have e : IntKind.i64.wrap ((18446744073709551615 - v / 2 : Nat) : Int) = if ((18446744073709551615 - v / 2 : Nat) : Int) % 18446744073709551616 ≥ 9223372036854775808 then ((18446744073709551615 - v / 2 : Nat) : Int) % 18446744073709551616 - 18446744073709551616 else ((18446744073709551615 - v / 2 : Nat) : Int) % 18446744073709551616 := by
    unfold IntKind.wrap
    simp only [show (2 : Int) ^ IntKind.i64.bits = 18446744073709551616 from rfl, show (2 : Int) ^ (IntKind.i64.bits - 1) = 9223372036854775808 from rfl, show IntKind.i64.signed = true from rfl, Bool.true_and, decide_eq_true_eq]
  rw [e]
  split <;> omega
theorem number_read (r : Rd) (hb : r.b.length < 1000000000000) : CallsV L 25 [rp] (rdH r) (Turns (.int .i64 (numR r).1) (rdH (numR r).2)) := by
  refine turns_of_body L_ok (fn := Try.f25) rfl rfl rfl rfl (by kernel_rfl) ?_
  repeat' (first
    | apply w_seq
    | apply w_region
    | apply o_end
    | apply t_normal
    | (apply o_val; exact kc0; exact kc2)
    | apply w_block
    | fail)
  refine w_loop (fun m f H => ∃ (k s u : Nat) (r' : Rd), m = k ∧ H = rdH r' ∧ r'.b.length < 1000000000000 ∧ f 0 = rp ∧ s + 7 * k = 70 ∧ u < 18446744073709551616 ∧ numL k s u r' = numR r ∧ f 3 = .int .u64 (u : Nat) ∧ f 4 = .int .i64 (s : Nat)) 10 ⟨10, 0, 0, r, rfl, rfl, hb, by simp, by omega, by decide, rfl, by simp⟩ ?_
  rintro m f H ⟨k, s, u, r', rfl, rfl, hr', hf0, hs, hu, hn, hf3, hf4⟩
  cases m with
  | zero =>
    have h1 : ¬ (s : Int) < 64 := by omega
    have h2 : numR r = (0, ⟨r'.b, true⟩) := hn.symm
    clear hn
    repeat' (first
      | apply w_seq
      | apply w_region
      | apply o_end
      | apply t_normal
      | (apply o_val; exact kc0; exact kc2)
      | (apply o_mem; exact kc0; rfl; exact kc1)
      | apply w_ret
      | apply w_exit
      | apply t_exit
      | apply b_here
      | (apply w_false; exact kc3)
      | fail)
    apply t_retT
    · simp [*]; rfl
    · simp [*]
    · simp [*, rdH]
  | succ k =>
    have h1 : (s : Int) < 64 := by omega
    have hx := next_ok r' hr'
    have hn' : numR r = if (nextR r').1.toNat < 128 then (unzz (orG u s (nextR r').1), (nextR r').2) else numL k (s + 7) (orG u s (nextR r').1) (nextR r').2 := hn.symm
    clear hn
    have hlen := next_len r'
    generalize (nextR r').1 = c at *
    generalize (nextR r').2 = r'' at *
    have z15 := b15 c
    have z16 := b16 c
    have z18 := b18 c s (by omega)
    have z19 := b19 u s c hu
    have hv := orG_lt (s := s) c hu
    generalize (c.toNat % 128) * 2 ^ s % 18446744073709551616 = w at *
    generalize orG u s c = v at *
    have z23 := b23 v
    have z24 := b24 v hv
    have z26 := b26 v hv
    have z29 := b29 v hv
    by_cases hc : c.toNat < 128
    · have hc' : (c.toNat : Int) < 128 := by omega
      rw [if_pos hc] at hn'
      by_cases h2 : v % 2 = 1
      · have h2' : (v : Int) % 2 = 1 := by omega
        have hz : unzz v = -((v : Int) / 2) - 1 := by unfold unzz; rw [if_pos h2]; omega
        repeat' (first
          | apply w_seq
          | apply w_region
          | apply o_end
          | apply t_normal
          | (apply o_val; exact kc0; exact kc2)
          | (apply o_turns; exact kc0; exact kc1; exact hx)
          | (apply o_mem; exact kc0; rfl; exact kc1)
          | apply w_skip
          | apply w_block
          | apply w_ret
          | apply t_ret
          | apply b_ret
          | (apply w_true; exact kc3)
          | fail)
        apply t_retT
        · simp [*]; rfl
        · simp [*]
        · simp [*]
      · have h2' : ¬ (v : Int) % 2 = 1 := by omega
        have hz : unzz v = (v : Int) / 2 := by unfold unzz; rw [if_neg h2]; omega
        repeat' (first
          | apply w_seq
          | apply w_region
          | apply o_end
          | apply t_normal
          | (apply o_val; exact kc0; exact kc2)
          | (apply o_turns; exact kc0; exact kc1; exact hx)
          | (apply o_mem; exact kc0; rfl; exact kc1)
          | apply w_skip
          | apply w_block
          | apply w_ret
          | apply t_ret
          | apply b_ret
          | (apply w_true; exact kc3)
          | (apply w_false; exact kc3)
          | fail)
        apply t_retT
        · simp [*]; rfl
        · simp [*]
        · simp [*]
    · have hc' : ¬ (c.toNat : Int) < 128 := by omega
      rw [if_neg hc] at hn'
      have h7 : IntKind.i64.wrap ((s : Int) + 7) = (s : Int) + 7 := wrap_i64 (by omega) (by omega)
      repeat' (first
        | apply w_seq
        | apply w_region
        | apply o_end
        | apply t_normal
        | (apply o_add; exact kc0; exact kc2; rfl; exact kc2; rfl; exact ke2)
        | (apply o_val; exact kc0; exact kc2)
        | (apply o_turns; exact kc0; exact kc1; exact hx)
        | (apply o_mem; exact kc0; rfl; exact kc1)
        | apply w_skip
        | apply w_block
        | apply b_normal
        | (apply w_true; exact kc3)
        | (apply w_false; exact kc3)
        | fail)
      exact ⟨k, by omega, k, s + 7, v, r'', rfl, rfl, by omega, by simp [*], by omega, hv, hn'.symm, by simp [*], by simp [*]⟩

theorem flt_int (out : List Int) : ∀ x, x ∈ out.map encI → ∀ d, d ∈ x → Flat d := by simp
theorem flt_bool (out : List Bool) : ∀ x, x ∈ out.map encT → ∀ d, d ∈ x → Flat d := fun x hx d hd => by
  obtain ⟨b, _, rfl⟩ := List.mem_map.1 hx
  rw [List.mem_singleton.1 hd]
  exact .bool b
theorem flt_rq (out : List Rq) : ∀ x, x ∈ out.map rqC → ∀ d, d ∈ x → Flat d := by simp

theorem lists_int (r : Rd) (hb : r.b.length < 1501) : CallsV L 27 [rp, .func (.func 25) [rp] []] (rdH r) (Turns (intsL (listR numR r).1) (rdH (listR numR r).2)) := by
  refine gives_of_body L_ok rfl (by simp) (fn := Try.f27) rfl rfl rfl rfl (by kernel_rfl) ?_
  obtain ⟨hni, hnl⟩ := makes_num r hb
  have hx := number_read r (by omega)
  have hL : listR numR r = rowR numR (numR r).1.toNat (markR (numR r).1 (numR r).2) [] := rfl
  rw [hL]
  clear hL
  generalize (numR r).1 = n at *
  generalize hr1 : (numR r).2 = r1 at *
  have hmk : (markR n r1).b.length < 1501 ∧ (n < 1501 ∨ (markR n r1).bad = true) := by
    unfold markR
    split
    · exact ⟨by simp only; omega, .inr rfl⟩
    · exact ⟨by omega, .inl (by omega)⟩
  have hmk2 : rdH (markR n r1) = [.cells 0 2 false [[bytesL r1.b, .bool (decide (n < 0 ∨ (r1.b.length : Int) < n) || r1.bad)]]] := by
    unfold markR
    split
    · rename_i h; simp [rdH, h]
    · rename_i h; simp [rdH, h]
  have key : ∀ (f : Fr) (H : Heap), H = rdH (markR n r1) → f 0 = rp → f 1 = .func (.func 25) [rp] [] → f 6 = .nilsl → f 23 = .int .i64 n → f 24 = .int .i64 0 →
      ∃ (k i : Nat) (r' : Rd) (out : List Int) (K : Heap), n.toNat = k ∧ i + k = n.toNat ∧ out.length ≤ i ∧ r'.b.length < 1501 ∧ (n < 1501 ∨ r'.bad = true) ∧ rowR numR k r' out = rowR numR n.toNat (markR n r1) [] ∧ H = rdH r' ++ K ∧
        ((out = [] ∧ K = [] ∧ f 6 = .nilsl) ∨ (out ≠ [] ∧ K = [.cells out.length 1 false (out.map encI)] ∧ f 6 = .slice 1 0 out.length out.length)) ∧ f 0 = rp ∧ f 1 = .func (.func 25) [rp] [] ∧ f 23 = .int .i64 n ∧ f 24 = .int .i64 (i : Nat) :=
    fun f H h h0 h1 h6 h23 h24 => ⟨n.toNat, 0, markR n r1, [], [], rfl, by omega, by simp, hmk.1, hmk.2, rfl, by rw [h, List.append_nil], .inl ⟨rfl, rfl, h6⟩, h0, h1, h23, h24⟩
  obtain ⟨res, hres⟩ : ∃ res, rowR numR n.toNat (markR n r1) [] = res := ⟨_, rfl⟩
  rw [hres] at key ⊢
  by_cases c1 : n < 0
  · have e : rdH (markR n r1) = [.cells 0 2 false [[bytesL r1.b, .bool true]]] := by rw [hmk2]; simp [c1]
    rw [e] at key
    clear hmk2 e hres
    repeat' (first
      | apply w_seq
      | apply w_region
      | apply o_end
      | apply t_normal
      | (apply o_val; exact kc0; exact kc2)
      | (apply o_turns; exact kc0; exact kc1; exact hx)
      | (apply o_mem; exact kc0; rfl; exact kc1)
      | apply w_block
      | (apply w_true; exact kc3)
      | (apply o_no; exact ke7)
      | fail)
    refine w_loop (fun m f H => ∃ (k i : Nat) (r' : Rd) (out : List Int) (K : Heap), m = k ∧ i + k = n.toNat ∧ out.length ≤ i ∧ r'.b.length < 1501 ∧ (n < 1501 ∨ r'.bad = true) ∧ rowR numR k r' out = res ∧ H = rdH r' ++ K ∧
            ((out = [] ∧ K = [] ∧ f 6 = .nilsl) ∨ (out ≠ [] ∧ K = [.cells out.length 1 false (out.map encI)] ∧ f 6 = .slice 1 0 out.length out.length)) ∧ f 0 = rp ∧ f 1 = .func (.func 25) [rp] [] ∧ f 23 = .int .i64 n ∧ f 24 = .int .i64 (i : Nat)) n.toNat (key _ _ rfl (by simp) (by simp) (by simp) (by simp) (by simp)) ?_
    clear key hx
    rintro m f H ⟨k, i, r', out, K, rfl, hik, hol, hr', hbig, hrow, rfl, hout, hf0, hf1, hf23, hf24⟩
    cases m with
    | zero =>
      have hlt : ¬ (i : Int) < n := by omega
      rw [rowR] at hrow
      subst hrow
      rcases hout with ⟨rfl, rfl, hf6⟩ | ⟨hne, rfl, hf6⟩
      · skip
        repeat' (first
          | apply w_seq
          | apply w_region
          | apply o_end
          | apply t_normal
          | (apply o_val; exact kc0; exact kc2)
          | apply w_ret
          | apply w_exit
          | apply t_exit
          | apply b_here
          | (apply w_false; exact kc3)
          | fail)
        refine g_ret (K := []) (by simp [*]; rfl) rfl ?_
        exact .nil
      · skip
        repeat' (first
          | apply w_seq
          | apply w_region
          | apply o_end
          | apply t_normal
          | (apply o_val; exact kc0; exact kc2)
          | apply w_ret
          | apply w_exit
          | apply t_exit
          | apply b_here
          | (apply w_false; exact kc3)
          | fail)
        refine g_ret (K := [.cells out.length 1 false (out.map encI)]) (by simp [*]; rfl) rfl ?_
        exact .slice_flat (by simp) rfl (by simp) (by simp) (flt_int _)
    | succ k =>
      have hlt : (i : Int) < n := by omega
      rw [rowR] at hrow
      by_cases hbad : r'.bad = true
      · rw [if_pos hbad] at hrow
        subst hrow
        rcases hout with ⟨rfl, rfl, hf6⟩ | ⟨hne, rfl, hf6⟩
        · skip
          repeat' (first
            | apply w_seq
            | apply w_region
            | apply o_end
            | apply t_normal
            | (apply o_val; exact kc0; exact kc2)
            | apply w_skip
            | apply w_block
            | apply w_ret
            | apply t_ret
            | apply b_ret
            | (apply w_true; exact kc3)
            | fail)
          refine g_ret (K := []) (by simp [*]; rfl) rfl ?_
          exact .nil
        · skip
          repeat' (first
            | apply w_seq
            | apply w_region
            | apply o_end
            | apply t_normal
            | (apply o_val; exact kc0; exact kc2)
            | apply w_skip
            | apply w_block
            | apply w_ret
            | apply t_ret
            | apply b_ret
            | (apply w_true; exact kc3)
            | fail)
          refine g_ret (K := [.cells out.length 1 false (out.map encI)]) (by simp [*]; rfl) rfl ?_
          exact .nil
      · have hbad' : r'.bad = false := by simpa using hbad
        rw [if_neg hbad] at hrow
        have hn' : n < 1501 := hbig.resolve_right hbad
        have hy := number_read r' (by omega)
        have hle := (makes_num r' hr').2
        generalize (numR r').1 = v at *
        generalize (numR r').2 = r'' at *
        have hb1 : out.length + 1 ≤ 140737488355328 := by omega
        have hb2 : (out.length + 1) * 88 ≤ 140737488355328 := by omega
        have hb3 : (out.length + 1) * 8 ≤ 140737488355328 := by omega
        have hb4 : (out.length + 1) * 64 ≤ 140737488355328 := by omega
        have h7 : IntKind.i64.wrap ((i : Int) + 1) = (i : Int) + 1 := wrap_i64 (by omega) (by omega)
        rcases hout with ⟨rfl, rfl, hf6⟩ | ⟨hne, rfl, hf6⟩
        · skip
          repeat' (first
            | apply w_seq
            | apply w_region
            | apply o_end
            | apply t_normal
            | (apply o_add; exact kc0; exact kc2; rfl; exact kc2; rfl; exact ke2)
            | (apply o_val; exact kc0; exact kc2)
            | (apply o_lit; exact kc0; exact kc1; (focus (simp; done)); exact kd7)
            | (apply o_beside fine; exact kc0; exact kc1; exact hy; rfl; rfl; exact kd4; (focus (simp only [rowH, rdH, List.cons_append, List.nil_append]; rfl)))
            | (apply o_mem; exact kc0; rfl; exact kc1)
            | apply w_skip
            | apply w_block
            | apply b_normal
            | (apply w_true; exact kc3)
            | (apply w_false; exact kc3)
            | fail)
          exact ⟨k, by omega, k, i + 1, r'', [v], [.cells 1 1 false [encI v]], rfl, by omega, by simp, by omega, .inl hn', by simpa using hrow, rfl, .inr ⟨by simp, rfl, by simp⟩, by simp [*], by simp [*], by simp [*], by simp [*]⟩
        · skip
          repeat' (first
            | apply w_seq
            | apply w_region
            | apply o_end
            | apply t_normal
            | (apply o_add; exact kc0; exact kc2; rfl; exact kc2; rfl; exact ke2)
            | (apply o_val; exact kc0; exact kc2)
            | (apply o_lit; exact kc0; exact kc1; (focus (simp; done)); exact kd7)
            | (apply o_beside fine; exact kc0; exact kc1; exact hy; rfl; rfl; exact kd4; (focus (simp only [rowH, rdH, List.cons_append, List.nil_append]; rfl)))
            | (apply o_mem; exact kc0; rfl; exact kc1)
            | apply w_skip
            | apply w_block
            | apply b_normal
            | (apply w_true; exact kc3)
            | (apply w_false; exact kc3)
            | fail)
          exact ⟨k, by omega, k, i + 1, r'', out ++ [v], [.cells (out.length + 1) 1 false (out.map encI ++ [encI v])], rfl, by omega, by simp; omega, by omega, .inl hn', by simpa using hrow, rfl, .inr ⟨by simp, by simp, by simp⟩, by simp [*], by simp [*], by simp [*], by simp [*]⟩
  · by_cases c2 : (r1.b.length : Int) < n
    · have e : rdH (markR n r1) = [.cells 0 2 false [[bytesL r1.b, .bool true]]] := by rw [hmk2]; simp [c2]
      rw [e] at key
      clear hmk2 e hres
      repeat' (first
        | apply w_seq
        | apply w_region
        | apply o_end
        | apply t_normal
        | (apply o_val; exact kc0; exact kc2)
        | (apply o_turns; exact kc0; exact kc1; exact hx)
        | (apply o_mem; exact kc0; rfl; exact kc1)
        | apply w_block
        | (apply w_true; exact kc3)
        | fail)
      refine w_loop (fun m f H => ∃ (k i : Nat) (r' : Rd) (out : List Int) (K : Heap), m = k ∧ i + k = n.toNat ∧ out.length ≤ i ∧ r'.b.length < 1501 ∧ (n < 1501 ∨ r'.bad = true) ∧ rowR numR k r' out = res ∧ H = rdH r' ++ K ∧
              ((out = [] ∧ K = [] ∧ f 6 = .nilsl) ∨ (out ≠ [] ∧ K = [.cells out.length 1 false (out.map encI)] ∧ f 6 = .slice 1 0 out.length out.length)) ∧ f 0 = rp ∧ f 1 = .func (.func 25) [rp] [] ∧ f 23 = .int .i64 n ∧ f 24 = .int .i64 (i : Nat)) n.toNat (key _ _ rfl (by simp) (by simp) (by simp) (by simp) (by simp)) ?_
      clear key hx
      rintro m f H ⟨k, i, r', out, K, rfl, hik, hol, hr', hbig, hrow, rfl, hout, hf0, hf1, hf23, hf24⟩
      cases m with
      | zero =>
        have hlt : ¬ (i : Int) < n := by omega
        rw [rowR] at hrow
        subst hrow
        rcases hout with ⟨rfl, rfl, hf6⟩ | ⟨hne, rfl, hf6⟩
        · skip
          repeat' (first
            | apply w_seq
            | apply w_region
            | apply o_end
            | apply t_normal
            | (apply o_val; exact kc0; exact kc2)
            | apply w_ret
            | apply w_exit
            | apply t_exit
            | apply b_here
            | (apply w_false; exact kc3)
            | fail)
          refine g_ret (K := []) (by simp [*]; rfl) rfl ?_
          exact .nil
        · skip
          repeat' (first
            | apply w_seq
            | apply w_region
            | apply o_end
            | apply t_normal
            | (apply o_val; exact kc0; exact kc2)
            | apply w_ret
            | apply w_exit
            | apply t_exit
            | apply b_here
            | (apply w_false; exact kc3)
            | fail)
          refine g_ret (K := [.cells out.length 1 false (out.map encI)]) (by simp [*]; rfl) rfl ?_
          exact .slice_flat (by simp) rfl (by simp) (by simp) (flt_int _)
      | succ k =>
        have hlt : (i : Int) < n := by omega
        rw [rowR] at hrow
        by_cases hbad : r'.bad = true
        · rw [if_pos hbad] at hrow
          subst hrow
          rcases hout with ⟨rfl, rfl, hf6⟩ | ⟨hne, rfl, hf6⟩
          · skip
            repeat' (first
              | apply w_seq
              | apply w_region
              | apply o_end
              | apply t_normal
              | (apply o_val; exact kc0; exact kc2)
              | apply w_skip
              | apply w_block
              | apply w_ret
              | apply t_ret
              | apply b_ret
              | (apply w_true; exact kc3)
              | fail)
            refine g_ret (K := []) (by simp [*]; rfl) rfl ?_
            exact .nil
          · skip
            repeat' (first
              | apply w_seq
              | apply w_region
              | apply o_end
              | apply t_normal
              | (apply o_val; exact kc0; exact kc2)
              | apply w_skip
              | apply w_block
              | apply w_ret
              | apply t_ret
              | apply b_ret
              | (apply w_true; exact kc3)
              | fail)
            refine g_ret (K := [.cells out.length 1 false (out.map encI)]) (by simp [*]; rfl) rfl ?_
            exact .nil
        · have hbad' : r'.bad = false := by simpa using hbad
          rw [if_neg hbad] at hrow
          have hn' : n < 1501 := hbig.resolve_right hbad
          have hy := number_read r' (by omega)
          have hle := (makes_num r' hr').2
          generalize (numR r').1 = v at *
          generalize (numR r').2 = r'' at *
          have hb1 : out.length + 1 ≤ 140737488355328 := by omega
          have hb2 : (out.length + 1) * 88 ≤ 140737488355328 := by omega
          have hb3 : (out.length + 1) * 8 ≤ 140737488355328 := by omega
          have hb4 : (out.length + 1) * 64 ≤ 140737488355328 := by omega
          have h7 : IntKind.i64.wrap ((i : Int) + 1) = (i : Int) + 1 := wrap_i64 (by omega) (by omega)
          rcases hout with ⟨rfl, rfl, hf6⟩ | ⟨hne, rfl, hf6⟩
          · skip
            repeat' (first
              | apply w_seq
              | apply w_region
              | apply o_end
              | apply t_normal
              | (apply o_add; exact kc0; exact kc2; rfl; exact kc2; rfl; exact ke2)
              | (apply o_val; exact kc0; exact kc2)
              | (apply o_lit; exact kc0; exact kc1; (focus (simp; done)); exact kd7)
              | (apply o_beside fine; exact kc0; exact kc1; exact hy; rfl; rfl; exact kd4; (focus (simp only [rowH, rdH, List.cons_append, List.nil_append]; rfl)))
              | (apply o_mem; exact kc0; rfl; exact kc1)
              | apply w_skip
              | apply w_block
              | apply b_normal
              | (apply w_true; exact kc3)
              | (apply w_false; exact kc3)
              | fail)
            exact ⟨k, by omega, k, i + 1, r'', [v], [.cells 1 1 false [encI v]], rfl, by omega, by simp, by omega, .inl hn', by simpa using hrow, rfl, .inr ⟨by simp, rfl, by simp⟩, by simp [*], by simp [*], by simp [*], by simp [*]⟩
          · skip
            repeat' (first
              | apply w_seq
              | apply w_region
              | apply o_end
              | apply t_normal
              | (apply o_add; exact kc0; exact kc2; rfl; exact kc2; rfl; exact ke2)
              | (apply o_val; exact kc0; exact kc2)
              | (apply o_lit; exact kc0; exact kc1; (focus (simp; done)); exact kd7)
              | (apply o_beside fine; exact kc0; exact kc1; exact hy; rfl; rfl; exact kd4; (focus (simp only [rowH, rdH, List.cons_append, List.nil_append]; rfl)))
              | (apply o_mem; exact kc0; rfl; exact kc1)
              | apply w_skip
              | apply w_block
              | apply b_normal
              | (apply w_true; exact kc3)
              | (apply w_false; exact kc3)
              | fail)
            exact ⟨k, by omega, k, i + 1, r'', out ++ [v], [.cells (out.length + 1) 1 false (out.map encI ++ [encI v])], rfl, by omega, by simp; omega, by omega, .inl hn', by simpa using hrow, rfl, .inr ⟨by simp, by simp, by simp⟩, by simp [*], by simp [*], by simp [*], by simp [*]⟩
    · have e : rdH (markR n r1) = [.cells 0 2 false [[bytesL r1.b, .bool r1.bad]]] := by rw [hmk2]; simp [c1, c2]
      rw [e] at key
      clear hmk2 e hres
      repeat' (first
        | apply w_seq
        | apply w_region
        | apply o_end
        | apply t_normal
        | (apply o_val; exact kc0; exact kc2)
        | (apply o_turns; exact kc0; exact kc1; exact hx)
        | apply w_skip
        | apply w_block
        | (apply w_false; exact kc3)
        | fail)
      refine w_loop (fun m f H => ∃ (k i : Nat) (r' : Rd) (out : List Int) (K : Heap), m = k ∧ i + k = n.toNat ∧ out.length ≤ i ∧ r'.b.length < 1501 ∧ (n < 1501 ∨ r'.bad = true) ∧ rowR numR k r' out = res ∧ H = rdH r' ++ K ∧
              ((out = [] ∧ K = [] ∧ f 6 = .nilsl) ∨ (out ≠ [] ∧ K = [.cells out.length 1 false (out.map encI)] ∧ f 6 = .slice 1 0 out.length out.length)) ∧ f 0 = rp ∧ f 1 = .func (.func 25) [rp] [] ∧ f 23 = .int .i64 n ∧ f 24 = .int .i64 (i : Nat)) n.toNat (key _ _ rfl (by simp) (by simp) (by simp) (by simp) (by simp)) ?_
      clear key hx
      rintro m f H ⟨k, i, r', out, K, rfl, hik, hol, hr', hbig, hrow, rfl, hout, hf0, hf1, hf23, hf24⟩
      cases m with
      | zero =>
        have hlt : ¬ (i : Int) < n := by omega
        rw [rowR] at hrow
        subst hrow
        rcases hout with ⟨rfl, rfl, hf6⟩ | ⟨hne, rfl, hf6⟩
        · skip
          repeat' (first
            | apply w_seq
            | apply w_region
            | apply o_end
            | apply t_normal
            | (apply o_val; exact kc0; exact kc2)
            | apply w_ret
            | apply w_exit
            | apply t_exit
            | apply b_here
            | (apply w_false; exact kc3)
            | fail)
          refine g_ret (K := []) (by simp [*]; rfl) rfl ?_
          exact .nil
        · skip
          repeat' (first
            | apply w_seq
            | apply w_region
            | apply o_end
            | apply t_normal
            | (apply o_val; exact kc0; exact kc2)
            | apply w_ret
            | apply w_exit
            | apply t_exit
            | apply b_here
            | (apply w_false; exact kc3)
            | fail)
          refine g_ret (K := [.cells out.length 1 false (out.map encI)]) (by simp [*]; rfl) rfl ?_
          exact .slice_flat (by simp) rfl (by simp) (by simp) (flt_int _)
      | succ k =>
        have hlt : (i : Int) < n := by omega
        rw [rowR] at hrow
        by_cases hbad : r'.bad = true
        · rw [if_pos hbad] at hrow
          subst hrow
          rcases hout with ⟨rfl, rfl, hf6⟩ | ⟨hne, rfl, hf6⟩
          · skip
            repeat' (first
              | apply w_seq
              | apply w_region
              | apply o_end
              | apply t_normal
              | (apply o_val; exact kc0; exact kc2)
              | apply w_skip
              | apply w_block
              | apply w_ret
              | apply t_ret
              | apply b_ret
              | (apply w_true; exact kc3)
              | fail)
            refine g_ret (K := []) (by simp [*]; rfl) rfl ?_
            exact .nil
          · skip
            repeat' (first
              | apply w_seq
              | apply w_region
              | apply o_end
              | apply t_normal
              | (apply o_val; exact kc0; exact kc2)
              | apply w_skip
              | apply w_block
              | apply w_ret
              | apply t_ret
              | apply b_ret
              | (apply w_true; exact kc3)
              | fail)
            refine g_ret (K := [.cells out.length 1 false (out.map encI)]) (by simp [*]; rfl) rfl ?_
            exact .nil
        · have hbad' : r'.bad = false := by simpa using hbad
          rw [if_neg hbad] at hrow
          have hn' : n < 1501 := hbig.resolve_right hbad
          have hy := number_read r' (by omega)
          have hle := (makes_num r' hr').2
          generalize (numR r').1 = v at *
          generalize (numR r').2 = r'' at *
          have hb1 : out.length + 1 ≤ 140737488355328 := by omega
          have hb2 : (out.length + 1) * 88 ≤ 140737488355328 := by omega
          have hb3 : (out.length + 1) * 8 ≤ 140737488355328 := by omega
          have hb4 : (out.length + 1) * 64 ≤ 140737488355328 := by omega
          have h7 : IntKind.i64.wrap ((i : Int) + 1) = (i : Int) + 1 := wrap_i64 (by omega) (by omega)
          rcases hout with ⟨rfl, rfl, hf6⟩ | ⟨hne, rfl, hf6⟩
          · skip
            repeat' (first
              | apply w_seq
              | apply w_region
              | apply o_end
              | apply t_normal
              | (apply o_add; exact kc0; exact kc2; rfl; exact kc2; rfl; exact ke2)
              | (apply o_val; exact kc0; exact kc2)
              | (apply o_lit; exact kc0; exact kc1; (focus (simp; done)); exact kd7)
              | (apply o_beside fine; exact kc0; exact kc1; exact hy; rfl; rfl; exact kd4; (focus (simp only [rowH, rdH, List.cons_append, List.nil_append]; rfl)))
              | (apply o_mem; exact kc0; rfl; exact kc1)
              | apply w_skip
              | apply w_block
              | apply b_normal
              | (apply w_true; exact kc3)
              | (apply w_false; exact kc3)
              | fail)
            exact ⟨k, by omega, k, i + 1, r'', [v], [.cells 1 1 false [encI v]], rfl, by omega, by simp, by omega, .inl hn', by simpa using hrow, rfl, .inr ⟨by simp, rfl, by simp⟩, by simp [*], by simp [*], by simp [*], by simp [*]⟩
          · skip
            repeat' (first
              | apply w_seq
              | apply w_region
              | apply o_end
              | apply t_normal
              | (apply o_add; exact kc0; exact kc2; rfl; exact kc2; rfl; exact ke2)
              | (apply o_val; exact kc0; exact kc2)
              | (apply o_lit; exact kc0; exact kc1; (focus (simp; done)); exact kd7)
              | (apply o_beside fine; exact kc0; exact kc1; exact hy; rfl; rfl; exact kd4; (focus (simp only [rowH, rdH, List.cons_append, List.nil_append]; rfl)))
              | (apply o_mem; exact kc0; rfl; exact kc1)
              | apply w_skip
              | apply w_block
              | apply b_normal
              | (apply w_true; exact kc3)
              | (apply w_false; exact kc3)
              | fail)
            exact ⟨k, by omega, k, i + 1, r'', out ++ [v], [.cells (out.length + 1) 1 false (out.map encI ++ [encI v])], rfl, by omega, by simp; omega, by omega, .inl hn', by simpa using hrow, rfl, .inr ⟨by simp, by simp, by simp⟩, by simp [*], by simp [*], by simp [*], by simp [*]⟩


theorem lists_bool (r : Rd) (hb : r.b.length < 1501) : CallsV L 28 [rp, .func (.func 26) [rp] []] (rdH r) (Turns (boolsL (listR truR r).1) (rdH (listR truR r).2)) := by
  refine gives_of_body L_ok rfl (by simp) (fn := Try.f28) rfl rfl rfl rfl (by kernel_rfl) ?_
  obtain ⟨hni, hnl⟩ := makes_num r hb
  have hx := number_read r (by omega)
  have hL : listR truR r = rowR truR (numR r).1.toNat (markR (numR r).1 (numR r).2) [] := rfl
  rw [hL]
  clear hL
  generalize (numR r).1 = n at *
  generalize hr1 : (numR r).2 = r1 at *
  have hmk : (markR n r1).b.length < 1501 ∧ (n < 1501 ∨ (markR n r1).bad = true) := by
    unfold markR
    split
    · exact ⟨by simp only; omega, .inr rfl⟩
    · exact ⟨by omega, .inl (by omega)⟩
  have hmk2 : rdH (markR n r1) = [.cells 0 2 false [[bytesL r1.b, .bool (decide (n < 0 ∨ (r1.b.length : Int) < n) || r1.bad)]]] := by
    unfold markR
    split
    · rename_i h; simp [rdH, h]
    · rename_i h; simp [rdH, h]
  have key : ∀ (f : Fr) (H : Heap), H = rdH (markR n r1) → f 0 = rp → f 1 = .func (.func 26) [rp] [] → f 6 = .nilsl → f 23 = .int .i64 n → f 24 = .int .i64 0 →
      ∃ (k i : Nat) (r' : Rd) (out : List Bool) (K : Heap), n.toNat = k ∧ i + k = n.toNat ∧ out.length ≤ i ∧ r'.b.length < 1501 ∧ (n < 1501 ∨ r'.bad = true) ∧ rowR truR k r' out = rowR truR n.toNat (markR n r1) [] ∧ H = rdH r' ++ K ∧
        ((out = [] ∧ K = [] ∧ f 6 = .nilsl) ∨ (out ≠ [] ∧ K = [.cells out.length 1 false (out.map encT)] ∧ f 6 = .slice 1 0 out.length out.length)) ∧ f 0 = rp ∧ f 1 = .func (.func 26) [rp] [] ∧ f 23 = .int .i64 n ∧ f 24 = .int .i64 (i : Nat) :=
    fun f H h h0 h1 h6 h23 h24 => ⟨n.toNat, 0, markR n r1, [], [], rfl, by omega, by simp, hmk.1, hmk.2, rfl, by rw [h, List.append_nil], .inl ⟨rfl, rfl, h6⟩, h0, h1, h23, h24⟩
  obtain ⟨res, hres⟩ : ∃ res, rowR truR n.toNat (markR n r1) [] = res := ⟨_, rfl⟩
  rw [hres] at key ⊢
  by_cases c1 : n < 0
  · have e : rdH (markR n r1) = [.cells 0 2 false [[bytesL r1.b, .bool true]]] := by rw [hmk2]; simp [c1]
    rw [e] at key
    clear hmk2 e hres
    repeat' (first
      | apply w_seq
      | apply w_region
      | apply o_end
      | apply t_normal
      | (apply o_val; exact kc0; exact kc2)
      | (apply o_turns; exact kc0; exact kc1; exact hx)
      | (apply o_mem; exact kc0; rfl; exact kc1)
      | apply w_block
      | (apply w_true; exact kc3)
      | (apply o_no; exact ke7)
      | fail)
    refine w_loop (fun m f H => ∃ (k i : Nat) (r' : Rd) (out : List Bool) (K : Heap), m = k ∧ i + k = n.toNat ∧ out.length ≤ i ∧ r'.b.length < 1501 ∧ (n < 1501 ∨ r'.bad = true) ∧ rowR truR k r' out = res ∧ H = rdH r' ++ K ∧
            ((out = [] ∧ K = [] ∧ f 6 = .nilsl) ∨ (out ≠ [] ∧ K = [.cells out.length 1 false (out.map encT)] ∧ f 6 = .slice 1 0 out.length out.length)) ∧ f 0 = rp ∧ f 1 = .func (.func 26) [rp] [] ∧ f 23 = .int .i64 n ∧ f 24 = .int .i64 (i : Nat)) n.toNat (key _ _ rfl (by simp) (by simp) (by simp) (by simp) (by simp)) ?_
    clear key hx
    rintro m f H ⟨k, i, r', out, K, rfl, hik, hol, hr', hbig, hrow, rfl, hout, hf0, hf1, hf23, hf24⟩
    cases m with
    | zero =>
      have hlt : ¬ (i : Int) < n := by omega
      rw [rowR] at hrow
      subst hrow
      rcases hout with ⟨rfl, rfl, hf6⟩ | ⟨hne, rfl, hf6⟩
      · skip
        repeat' (first
          | apply w_seq
          | apply w_region
          | apply o_end
          | apply t_normal
          | (apply o_val; exact kc0; exact kc2)
          | apply w_ret
          | apply w_exit
          | apply t_exit
          | apply b_here
          | (apply w_false; exact kc3)
          | fail)
        refine g_ret (K := []) (by simp [*]; rfl) rfl ?_
        exact .nil
      · skip
        repeat' (first
          | apply w_seq
          | apply w_region
          | apply o_end
          | apply t_normal
          | (apply o_val; exact kc0; exact kc2)
          | apply w_ret
          | apply w_exit
          | apply t_exit
          | apply b_here
          | (apply w_false; exact kc3)
          | fail)
        refine g_ret (K := [.cells out.length 1 false (out.map encT)]) (by simp [*]; rfl) rfl ?_
        exact .slice_flat (by simp) rfl (by simp) (by simp) (flt_bool _)
    | succ k =>
      have hlt : (i : Int) < n := by omega
      rw [rowR] at hrow
      by_cases hbad : r'.bad = true
      · rw [if_pos hbad] at hrow
        subst hrow
        rcases hout with ⟨rfl, rfl, hf6⟩ | ⟨hne, rfl, hf6⟩
        · skip
          repeat' (first
            | apply w_seq
            | apply w_region
            | apply o_end
            | apply t_normal
            | (apply o_val; exact kc0; exact kc2)
            | apply w_skip
            | apply w_block
            | apply w_ret
            | apply t_ret
            | apply b_ret
            | (apply w_true; exact kc3)
            | fail)
          refine g_ret (K := []) (by simp [*]; rfl) rfl ?_
          exact .nil
        · skip
          repeat' (first
            | apply w_seq
            | apply w_region
            | apply o_end
            | apply t_normal
            | (apply o_val; exact kc0; exact kc2)
            | apply w_skip
            | apply w_block
            | apply w_ret
            | apply t_ret
            | apply b_ret
            | (apply w_true; exact kc3)
            | fail)
          refine g_ret (K := [.cells out.length 1 false (out.map encT)]) (by simp [*]; rfl) rfl ?_
          exact .nil
      · have hbad' : r'.bad = false := by simpa using hbad
        rw [if_neg hbad] at hrow
        have hn' : n < 1501 := hbig.resolve_right hbad
        have hy := truth_read r' (by omega)
        have hle := (makes_tru r' hr').2
        generalize (truR r').1 = v at *
        generalize (truR r').2 = r'' at *
        have hb1 : out.length + 1 ≤ 140737488355328 := by omega
        have hb2 : (out.length + 1) * 88 ≤ 140737488355328 := by omega
        have hb3 : (out.length + 1) * 8 ≤ 140737488355328 := by omega
        have hb4 : (out.length + 1) * 64 ≤ 140737488355328 := by omega
        have h7 : IntKind.i64.wrap ((i : Int) + 1) = (i : Int) + 1 := wrap_i64 (by omega) (by omega)
        rcases hout with ⟨rfl, rfl, hf6⟩ | ⟨hne, rfl, hf6⟩
        · skip
          repeat' (first
            | apply w_seq
            | apply w_region
            | apply o_end
            | apply t_normal
            | (apply o_add; exact kc0; exact kc2; rfl; exact kc2; rfl; exact ke2)
            | (apply o_val; exact kc0; exact kc2)
            | (apply o_lit; exact kc0; exact kc1; (focus (simp; done)); exact kd7)
            | (apply o_beside fine; exact kc0; exact kc1; exact hy; rfl; rfl; exact kd4; (focus (simp only [rowH, rdH, List.cons_append, List.nil_append]; rfl)))
            | (apply o_mem; exact kc0; rfl; exact kc1)
            | apply w_skip
            | apply w_block
            | apply b_normal
            | (apply w_true; exact kc3)
            | (apply w_false; exact kc3)
            | fail)
          exact ⟨k, by omega, k, i + 1, r'', [v], [.cells 1 1 false [encT v]], rfl, by omega, by simp, by omega, .inl hn', by simpa using hrow, rfl, .inr ⟨by simp, rfl, by simp⟩, by simp [*], by simp [*], by simp [*], by simp [*]⟩
        · skip
          repeat' (first
            | apply w_seq
            | apply w_region
            | apply o_end
            | apply t_normal
            | (apply o_add; exact kc0; exact kc2; rfl; exact kc2; rfl; exact ke2)
            | (apply o_val; exact kc0; exact kc2)
            | (apply o_lit; exact kc0; exact kc1; (focus (simp; done)); exact kd7)
            | (apply o_beside fine; exact kc0; exact kc1; exact hy; rfl; rfl; exact kd4; (focus (simp only [rowH, rdH, List.cons_append, List.nil_append]; rfl)))
            | (apply o_mem; exact kc0; rfl; exact kc1)
            | apply w_skip
            | apply w_block
            | apply b_normal
            | (apply w_true; exact kc3)
            | (apply w_false; exact kc3)
            | fail)
          exact ⟨k, by omega, k, i + 1, r'', out ++ [v], [.cells (out.length + 1) 1 false (out.map encT ++ [encT v])], rfl, by omega, by simp; omega, by omega, .inl hn', by simpa using hrow, rfl, .inr ⟨by simp, by simp, by simp⟩, by simp [*], by simp [*], by simp [*], by simp [*]⟩
  · by_cases c2 : (r1.b.length : Int) < n
    · have e : rdH (markR n r1) = [.cells 0 2 false [[bytesL r1.b, .bool true]]] := by rw [hmk2]; simp [c2]
      rw [e] at key
      clear hmk2 e hres
      repeat' (first
        | apply w_seq
        | apply w_region
        | apply o_end
        | apply t_normal
        | (apply o_val; exact kc0; exact kc2)
        | (apply o_turns; exact kc0; exact kc1; exact hx)
        | (apply o_mem; exact kc0; rfl; exact kc1)
        | apply w_block
        | (apply w_true; exact kc3)
        | fail)
      refine w_loop (fun m f H => ∃ (k i : Nat) (r' : Rd) (out : List Bool) (K : Heap), m = k ∧ i + k = n.toNat ∧ out.length ≤ i ∧ r'.b.length < 1501 ∧ (n < 1501 ∨ r'.bad = true) ∧ rowR truR k r' out = res ∧ H = rdH r' ++ K ∧
              ((out = [] ∧ K = [] ∧ f 6 = .nilsl) ∨ (out ≠ [] ∧ K = [.cells out.length 1 false (out.map encT)] ∧ f 6 = .slice 1 0 out.length out.length)) ∧ f 0 = rp ∧ f 1 = .func (.func 26) [rp] [] ∧ f 23 = .int .i64 n ∧ f 24 = .int .i64 (i : Nat)) n.toNat (key _ _ rfl (by simp) (by simp) (by simp) (by simp) (by simp)) ?_
      clear key hx
      rintro m f H ⟨k, i, r', out, K, rfl, hik, hol, hr', hbig, hrow, rfl, hout, hf0, hf1, hf23, hf24⟩
      cases m with
      | zero =>
        have hlt : ¬ (i : Int) < n := by omega
        rw [rowR] at hrow
        subst hrow
        rcases hout with ⟨rfl, rfl, hf6⟩ | ⟨hne, rfl, hf6⟩
        · skip
          repeat' (first
            | apply w_seq
            | apply w_region
            | apply o_end
            | apply t_normal
            | (apply o_val; exact kc0; exact kc2)
            | apply w_ret
            | apply w_exit
            | apply t_exit
            | apply b_here
            | (apply w_false; exact kc3)
            | fail)
          refine g_ret (K := []) (by simp [*]; rfl) rfl ?_
          exact .nil
        · skip
          repeat' (first
            | apply w_seq
            | apply w_region
            | apply o_end
            | apply t_normal
            | (apply o_val; exact kc0; exact kc2)
            | apply w_ret
            | apply w_exit
            | apply t_exit
            | apply b_here
            | (apply w_false; exact kc3)
            | fail)
          refine g_ret (K := [.cells out.length 1 false (out.map encT)]) (by simp [*]; rfl) rfl ?_
          exact .slice_flat (by simp) rfl (by simp) (by simp) (flt_bool _)
      | succ k =>
        have hlt : (i : Int) < n := by omega
        rw [rowR] at hrow
        by_cases hbad : r'.bad = true
        · rw [if_pos hbad] at hrow
          subst hrow
          rcases hout with ⟨rfl, rfl, hf6⟩ | ⟨hne, rfl, hf6⟩
          · skip
            repeat' (first
              | apply w_seq
              | apply w_region
              | apply o_end
              | apply t_normal
              | (apply o_val; exact kc0; exact kc2)
              | apply w_skip
              | apply w_block
              | apply w_ret
              | apply t_ret
              | apply b_ret
              | (apply w_true; exact kc3)
              | fail)
            refine g_ret (K := []) (by simp [*]; rfl) rfl ?_
            exact .nil
          · skip
            repeat' (first
              | apply w_seq
              | apply w_region
              | apply o_end
              | apply t_normal
              | (apply o_val; exact kc0; exact kc2)
              | apply w_skip
              | apply w_block
              | apply w_ret
              | apply t_ret
              | apply b_ret
              | (apply w_true; exact kc3)
              | fail)
            refine g_ret (K := [.cells out.length 1 false (out.map encT)]) (by simp [*]; rfl) rfl ?_
            exact .nil
        · have hbad' : r'.bad = false := by simpa using hbad
          rw [if_neg hbad] at hrow
          have hn' : n < 1501 := hbig.resolve_right hbad
          have hy := truth_read r' (by omega)
          have hle := (makes_tru r' hr').2
          generalize (truR r').1 = v at *
          generalize (truR r').2 = r'' at *
          have hb1 : out.length + 1 ≤ 140737488355328 := by omega
          have hb2 : (out.length + 1) * 88 ≤ 140737488355328 := by omega
          have hb3 : (out.length + 1) * 8 ≤ 140737488355328 := by omega
          have hb4 : (out.length + 1) * 64 ≤ 140737488355328 := by omega
          have h7 : IntKind.i64.wrap ((i : Int) + 1) = (i : Int) + 1 := wrap_i64 (by omega) (by omega)
          rcases hout with ⟨rfl, rfl, hf6⟩ | ⟨hne, rfl, hf6⟩
          · skip
            repeat' (first
              | apply w_seq
              | apply w_region
              | apply o_end
              | apply t_normal
              | (apply o_add; exact kc0; exact kc2; rfl; exact kc2; rfl; exact ke2)
              | (apply o_val; exact kc0; exact kc2)
              | (apply o_lit; exact kc0; exact kc1; (focus (simp; done)); exact kd7)
              | (apply o_beside fine; exact kc0; exact kc1; exact hy; rfl; rfl; exact kd4; (focus (simp only [rowH, rdH, List.cons_append, List.nil_append]; rfl)))
              | (apply o_mem; exact kc0; rfl; exact kc1)
              | apply w_skip
              | apply w_block
              | apply b_normal
              | (apply w_true; exact kc3)
              | (apply w_false; exact kc3)
              | fail)
            exact ⟨k, by omega, k, i + 1, r'', [v], [.cells 1 1 false [encT v]], rfl, by omega, by simp, by omega, .inl hn', by simpa using hrow, rfl, .inr ⟨by simp, rfl, by simp⟩, by simp [*], by simp [*], by simp [*], by simp [*]⟩
          · skip
            repeat' (first
              | apply w_seq
              | apply w_region
              | apply o_end
              | apply t_normal
              | (apply o_add; exact kc0; exact kc2; rfl; exact kc2; rfl; exact ke2)
              | (apply o_val; exact kc0; exact kc2)
              | (apply o_lit; exact kc0; exact kc1; (focus (simp; done)); exact kd7)
              | (apply o_beside fine; exact kc0; exact kc1; exact hy; rfl; rfl; exact kd4; (focus (simp only [rowH, rdH, List.cons_append, List.nil_append]; rfl)))
              | (apply o_mem; exact kc0; rfl; exact kc1)
              | apply w_skip
              | apply w_block
              | apply b_normal
              | (apply w_true; exact kc3)
              | (apply w_false; exact kc3)
              | fail)
            exact ⟨k, by omega, k, i + 1, r'', out ++ [v], [.cells (out.length + 1) 1 false (out.map encT ++ [encT v])], rfl, by omega, by simp; omega, by omega, .inl hn', by simpa using hrow, rfl, .inr ⟨by simp, by simp, by simp⟩, by simp [*], by simp [*], by simp [*], by simp [*]⟩
    · have e : rdH (markR n r1) = [.cells 0 2 false [[bytesL r1.b, .bool r1.bad]]] := by rw [hmk2]; simp [c1, c2]
      rw [e] at key
      clear hmk2 e hres
      repeat' (first
        | apply w_seq
        | apply w_region
        | apply o_end
        | apply t_normal
        | (apply o_val; exact kc0; exact kc2)
        | (apply o_turns; exact kc0; exact kc1; exact hx)
        | apply w_skip
        | apply w_block
        | (apply w_false; exact kc3)
        | fail)
      refine w_loop (fun m f H => ∃ (k i : Nat) (r' : Rd) (out : List Bool) (K : Heap), m = k ∧ i + k = n.toNat ∧ out.length ≤ i ∧ r'.b.length < 1501 ∧ (n < 1501 ∨ r'.bad = true) ∧ rowR truR k r' out = res ∧ H = rdH r' ++ K ∧
              ((out = [] ∧ K = [] ∧ f 6 = .nilsl) ∨ (out ≠ [] ∧ K = [.cells out.length 1 false (out.map encT)] ∧ f 6 = .slice 1 0 out.length out.length)) ∧ f 0 = rp ∧ f 1 = .func (.func 26) [rp] [] ∧ f 23 = .int .i64 n ∧ f 24 = .int .i64 (i : Nat)) n.toNat (key _ _ rfl (by simp) (by simp) (by simp) (by simp) (by simp)) ?_
      clear key hx
      rintro m f H ⟨k, i, r', out, K, rfl, hik, hol, hr', hbig, hrow, rfl, hout, hf0, hf1, hf23, hf24⟩
      cases m with
      | zero =>
        have hlt : ¬ (i : Int) < n := by omega
        rw [rowR] at hrow
        subst hrow
        rcases hout with ⟨rfl, rfl, hf6⟩ | ⟨hne, rfl, hf6⟩
        · skip
          repeat' (first
            | apply w_seq
            | apply w_region
            | apply o_end
            | apply t_normal
            | (apply o_val; exact kc0; exact kc2)
            | apply w_ret
            | apply w_exit
            | apply t_exit
            | apply b_here
            | (apply w_false; exact kc3)
            | fail)
          refine g_ret (K := []) (by simp [*]; rfl) rfl ?_
          exact .nil
        · skip
          repeat' (first
            | apply w_seq
            | apply w_region
            | apply o_end
            | apply t_normal
            | (apply o_val; exact kc0; exact kc2)
            | apply w_ret
            | apply w_exit
            | apply t_exit
            | apply b_here
            | (apply w_false; exact kc3)
            | fail)
          refine g_ret (K := [.cells out.length 1 false (out.map encT)]) (by simp [*]; rfl) rfl ?_
          exact .slice_flat (by simp) rfl (by simp) (by simp) (flt_bool _)
      | succ k =>
        have hlt : (i : Int) < n := by omega
        rw [rowR] at hrow
        by_cases hbad : r'.bad = true
        · rw [if_pos hbad] at hrow
          subst hrow
          rcases hout with ⟨rfl, rfl, hf6⟩ | ⟨hne, rfl, hf6⟩
          · skip
            repeat' (first
              | apply w_seq
              | apply w_region
              | apply o_end
              | apply t_normal
              | (apply o_val; exact kc0; exact kc2)
              | apply w_skip
              | apply w_block
              | apply w_ret
              | apply t_ret
              | apply b_ret
              | (apply w_true; exact kc3)
              | fail)
            refine g_ret (K := []) (by simp [*]; rfl) rfl ?_
            exact .nil
          · skip
            repeat' (first
              | apply w_seq
              | apply w_region
              | apply o_end
              | apply t_normal
              | (apply o_val; exact kc0; exact kc2)
              | apply w_skip
              | apply w_block
              | apply w_ret
              | apply t_ret
              | apply b_ret
              | (apply w_true; exact kc3)
              | fail)
            refine g_ret (K := [.cells out.length 1 false (out.map encT)]) (by simp [*]; rfl) rfl ?_
            exact .nil
        · have hbad' : r'.bad = false := by simpa using hbad
          rw [if_neg hbad] at hrow
          have hn' : n < 1501 := hbig.resolve_right hbad
          have hy := truth_read r' (by omega)
          have hle := (makes_tru r' hr').2
          generalize (truR r').1 = v at *
          generalize (truR r').2 = r'' at *
          have hb1 : out.length + 1 ≤ 140737488355328 := by omega
          have hb2 : (out.length + 1) * 88 ≤ 140737488355328 := by omega
          have hb3 : (out.length + 1) * 8 ≤ 140737488355328 := by omega
          have hb4 : (out.length + 1) * 64 ≤ 140737488355328 := by omega
          have h7 : IntKind.i64.wrap ((i : Int) + 1) = (i : Int) + 1 := wrap_i64 (by omega) (by omega)
          rcases hout with ⟨rfl, rfl, hf6⟩ | ⟨hne, rfl, hf6⟩
          · skip
            repeat' (first
              | apply w_seq
              | apply w_region
              | apply o_end
              | apply t_normal
              | (apply o_add; exact kc0; exact kc2; rfl; exact kc2; rfl; exact ke2)
              | (apply o_val; exact kc0; exact kc2)
              | (apply o_lit; exact kc0; exact kc1; (focus (simp; done)); exact kd7)
              | (apply o_beside fine; exact kc0; exact kc1; exact hy; rfl; rfl; exact kd4; (focus (simp only [rowH, rdH, List.cons_append, List.nil_append]; rfl)))
              | (apply o_mem; exact kc0; rfl; exact kc1)
              | apply w_skip
              | apply w_block
              | apply b_normal
              | (apply w_true; exact kc3)
              | (apply w_false; exact kc3)
              | fail)
            exact ⟨k, by omega, k, i + 1, r'', [v], [.cells 1 1 false [encT v]], rfl, by omega, by simp, by omega, .inl hn', by simpa using hrow, rfl, .inr ⟨by simp, rfl, by simp⟩, by simp [*], by simp [*], by simp [*], by simp [*]⟩
          · skip
            repeat' (first
              | apply w_seq
              | apply w_region
              | apply o_end
              | apply t_normal
              | (apply o_add; exact kc0; exact kc2; rfl; exact kc2; rfl; exact ke2)
              | (apply o_val; exact kc0; exact kc2)
              | (apply o_lit; exact kc0; exact kc1; (focus (simp; done)); exact kd7)
              | (apply o_beside fine; exact kc0; exact kc1; exact hy; rfl; rfl; exact kd4; (focus (simp only [rowH, rdH, List.cons_append, List.nil_append]; rfl)))
              | (apply o_mem; exact kc0; rfl; exact kc1)
              | apply w_skip
              | apply w_block
              | apply b_normal
              | (apply w_true; exact kc3)
              | (apply w_false; exact kc3)
              | fail)
            exact ⟨k, by omega, k, i + 1, r'', out ++ [v], [.cells (out.length + 1) 1 false (out.map encT ++ [encT v])], rfl, by omega, by simp; omega, by omega, .inl hn', by simpa using hrow, rfl, .inr ⟨by simp, by simp, by simp⟩, by simp [*], by simp [*], by simp [*], by simp [*]⟩


theorem request_read (r : Rd) (hb : r.b.length < 1501) : CallsV L 30 [rp] (rdH r) (Turns (rqD (rqR r).1) (rdH (rqR r).2)) := by
  refine gives_of_body L_ok rfl (by simp) (fn := Try.f30) rfl rfl rfl rfl (by kernel_rfl) ?_
  obtain ⟨_, l1⟩ := makes_num (r) (by omega)
  have c1 := number_read (r) (by omega)
  obtain ⟨a, e1⟩ : ∃ x, numR (r) = x := ⟨_, rfl⟩
  rw [e1] at c1 l1
  obtain ⟨_, l2⟩ := makes_num (a.2) (by omega)
  have c2 := number_read (a.2) (by omega)
  obtain ⟨b, e2⟩ : ∃ x, numR (a.2) = x := ⟨_, rfl⟩
  rw [e2] at c2 l2
  obtain ⟨_, l3⟩ := makes_num (b.2) (by omega)
  have c3 := number_read (b.2) (by omega)
  obtain ⟨c, e3⟩ : ∃ x, numR (b.2) = x := ⟨_, rfl⟩
  rw [e3] at c3 l3
  obtain ⟨_, l4⟩ := makes_num (c.2) (by omega)
  have c4 := number_read (c.2) (by omega)
  obtain ⟨d, e4⟩ : ∃ x, numR (c.2) = x := ⟨_, rfl⟩
  rw [e4] at c4 l4
  obtain ⟨_, l5⟩ := makes_tru (d.2) (by omega)
  have c5 := truth_read (d.2) (by omega)
  obtain ⟨e, e5⟩ : ∃ x, truR (d.2) = x := ⟨_, rfl⟩
  rw [e5] at c5 l5
  obtain ⟨_, l6⟩ := makes_tru (e.2) (by omega)
  have c6 := truth_read (e.2) (by omega)
  obtain ⟨f, e6⟩ : ∃ x, truR (e.2) = x := ⟨_, rfl⟩
  rw [e6] at c6 l6
  obtain ⟨_, l7⟩ := makes_tru (f.2) (by omega)
  have c7 := truth_read (f.2) (by omega)
  obtain ⟨g, e7⟩ : ∃ x, truR (f.2) = x := ⟨_, rfl⟩
  rw [e7] at c7 l7
  obtain ⟨_, l8⟩ := makes_list makes_num (g.2) (by omega)
  have c8 := lists_int (g.2) (by omega)
  obtain ⟨h, e8⟩ : ∃ x, listR numR (g.2) = x := ⟨_, rfl⟩
  rw [e8] at c8 l8
  have hR : rqR r = ({ endpoint := a.1, by_ := b.1, kind := c.1, hops := d.1, creds := e.1, heads := f.1, forged := g.1, sent := h.1 }, h.2) := by
    subst e1 e2 e3 e4 e5 e6 e7 e8
    rfl
  rw [hR]
  clear hR l1 l2 l3 l4 l5 l6 l7 l8 e1 e2 e3 e4 e5 e6 e7 e8
  repeat' (first
    | apply w_seq
    | apply w_region
    | apply o_end
    | apply t_normal
    | (apply o_val; exact kc0; exact kc2)
    | (apply o_beside fine; exact kc0; exact kc1; exact c1; rfl; rfl; exact kd4; (focus (simp only [rowH, rdH, List.cons_append, List.nil_append]; rfl)))
    | (apply o_beside fine; exact kc0; exact kc1; exact c2; rfl; rfl; exact kd4; (focus (simp only [rowH, rdH, List.cons_append, List.nil_append]; rfl)))
    | (apply o_beside fine; exact kc0; exact kc1; exact c3; rfl; rfl; exact kd4; (focus (simp only [rowH, rdH, List.cons_append, List.nil_append]; rfl)))
    | (apply o_beside fine; exact kc0; exact kc1; exact c4; rfl; rfl; exact kd4; (focus (simp only [rowH, rdH, List.cons_append, List.nil_append]; rfl)))
    | (apply o_beside fine; exact kc0; exact kc1; exact c5; rfl; rfl; exact kd4; (focus (simp only [rowH, rdH, List.cons_append, List.nil_append]; rfl)))
    | (apply o_beside fine; exact kc0; exact kc1; exact c6; rfl; rfl; exact kd4; (focus (simp only [rowH, rdH, List.cons_append, List.nil_append]; rfl)))
    | (apply o_beside fine; exact kc0; exact kc1; exact c7; rfl; rfl; exact kd4; (focus (simp only [rowH, rdH, List.cons_append, List.nil_append]; rfl)))
    | (apply o_beside fine; exact kc0; exact kc1; exact c8; rfl; rfl; exact kd4; (focus (simp only [rowH, rdH, List.cons_append, List.nil_append]; rfl)))
    | (apply o_mem; exact kc0; rfl; exact kc1)
    | apply w_ret
    | fail)
  exact g_ret (by first | (simp [*]; done) | (simp [*]; rfl)) rfl (.flat (by simp))

theorem lists_rq (r : Rd) (hb : r.b.length < 1501) : CallsV L 29 [rp, .func (.func 30) [rp] []] (rdH r) (Turns (rqsL (listR rqR r).1) (rdH (listR rqR r).2)) := by
  refine gives_of_body L_ok rfl (by simp) (fn := Try.f29) rfl rfl rfl rfl (by kernel_rfl) ?_
  obtain ⟨hni, hnl⟩ := makes_num r hb
  have hx := number_read r (by omega)
  have hL : listR rqR r = rowR rqR (numR r).1.toNat (markR (numR r).1 (numR r).2) [] := rfl
  rw [hL]
  clear hL
  generalize (numR r).1 = n at *
  generalize hr1 : (numR r).2 = r1 at *
  have hmk : (markR n r1).b.length < 1501 ∧ (n < 1501 ∨ (markR n r1).bad = true) := by
    unfold markR
    split
    · exact ⟨by simp only; omega, .inr rfl⟩
    · exact ⟨by omega, .inl (by omega)⟩
  have hmk2 : rdH (markR n r1) = [.cells 0 2 false [[bytesL r1.b, .bool (decide (n < 0 ∨ (r1.b.length : Int) < n) || r1.bad)]]] := by
    unfold markR
    split
    · rename_i h; simp [rdH, h]
    · rename_i h; simp [rdH, h]
  have key : ∀ (f : Fr) (H : Heap), H = rdH (markR n r1) → f 0 = rp → f 1 = .func (.func 30) [rp] [] → f 6 = .nilsl → f 23 = .int .i64 n → f 24 = .int .i64 0 →
      ∃ (k i : Nat) (r' : Rd) (out : List Rq) (K : Heap), n.toNat = k ∧ i + k = n.toNat ∧ out.length ≤ i ∧ r'.b.length < 1501 ∧ (n < 1501 ∨ r'.bad = true) ∧ rowR rqR k r' out = rowR rqR n.toNat (markR n r1) [] ∧ H = rdH r' ++ K ∧
        ((out = [] ∧ K = [] ∧ f 6 = .nilsl) ∨ (out ≠ [] ∧ K = [.cells out.length 8 false (out.map rqC)] ∧ f 6 = .slice 1 0 out.length out.length)) ∧ f 0 = rp ∧ f 1 = .func (.func 30) [rp] [] ∧ f 23 = .int .i64 n ∧ f 24 = .int .i64 (i : Nat) :=
    fun f H h h0 h1 h6 h23 h24 => ⟨n.toNat, 0, markR n r1, [], [], rfl, by omega, by simp, hmk.1, hmk.2, rfl, by rw [h, List.append_nil], .inl ⟨rfl, rfl, h6⟩, h0, h1, h23, h24⟩
  obtain ⟨res, hres⟩ : ∃ res, rowR rqR n.toNat (markR n r1) [] = res := ⟨_, rfl⟩
  rw [hres] at key ⊢
  by_cases c1 : n < 0
  · have e : rdH (markR n r1) = [.cells 0 2 false [[bytesL r1.b, .bool true]]] := by rw [hmk2]; simp [c1]
    rw [e] at key
    clear hmk2 e hres
    repeat' (first
      | apply w_seq
      | apply w_region
      | apply o_end
      | apply t_normal
      | (apply o_val; exact kc0; exact kc2)
      | (apply o_turns; exact kc0; exact kc1; exact hx)
      | (apply o_mem; exact kc0; rfl; exact kc1)
      | apply w_block
      | (apply w_true; exact kc3)
      | (apply o_no; exact ke7)
      | fail)
    refine w_loop (fun m f H => ∃ (k i : Nat) (r' : Rd) (out : List Rq) (K : Heap), m = k ∧ i + k = n.toNat ∧ out.length ≤ i ∧ r'.b.length < 1501 ∧ (n < 1501 ∨ r'.bad = true) ∧ rowR rqR k r' out = res ∧ H = rdH r' ++ K ∧
            ((out = [] ∧ K = [] ∧ f 6 = .nilsl) ∨ (out ≠ [] ∧ K = [.cells out.length 8 false (out.map rqC)] ∧ f 6 = .slice 1 0 out.length out.length)) ∧ f 0 = rp ∧ f 1 = .func (.func 30) [rp] [] ∧ f 23 = .int .i64 n ∧ f 24 = .int .i64 (i : Nat)) n.toNat (key _ _ rfl (by simp) (by simp) (by simp) (by simp) (by simp)) ?_
    clear key hx
    rintro m f H ⟨k, i, r', out, K, rfl, hik, hol, hr', hbig, hrow, rfl, hout, hf0, hf1, hf23, hf24⟩
    cases m with
    | zero =>
      have hlt : ¬ (i : Int) < n := by omega
      rw [rowR] at hrow
      subst hrow
      rcases hout with ⟨rfl, rfl, hf6⟩ | ⟨hne, rfl, hf6⟩
      · skip
        repeat' (first
          | apply w_seq
          | apply w_region
          | apply o_end
          | apply t_normal
          | (apply o_val; exact kc0; exact kc2)
          | apply w_ret
          | apply w_exit
          | apply t_exit
          | apply b_here
          | (apply w_false; exact kc3)
          | fail)
        refine g_ret (K := []) (by simp [*]; rfl) rfl ?_
        exact .nil
      · skip
        repeat' (first
          | apply w_seq
          | apply w_region
          | apply o_end
          | apply t_normal
          | (apply o_val; exact kc0; exact kc2)
          | apply w_ret
          | apply w_exit
          | apply t_exit
          | apply b_here
          | (apply w_false; exact kc3)
          | fail)
        refine g_ret (K := [.cells out.length 8 false (out.map rqC)]) (by simp [*]; rfl) rfl ?_
        exact .slice_flat (by simp) rfl (by simp) (by simp) (flt_rq _)
    | succ k =>
      have hlt : (i : Int) < n := by omega
      rw [rowR] at hrow
      by_cases hbad : r'.bad = true
      · rw [if_pos hbad] at hrow
        subst hrow
        rcases hout with ⟨rfl, rfl, hf6⟩ | ⟨hne, rfl, hf6⟩
        · skip
          repeat' (first
            | apply w_seq
            | apply w_region
            | apply o_end
            | apply t_normal
            | (apply o_val; exact kc0; exact kc2)
            | apply w_skip
            | apply w_block
            | apply w_ret
            | apply t_ret
            | apply b_ret
            | (apply w_true; exact kc3)
            | fail)
          refine g_ret (K := []) (by simp [*]; rfl) rfl ?_
          exact .nil
        · skip
          repeat' (first
            | apply w_seq
            | apply w_region
            | apply o_end
            | apply t_normal
            | (apply o_val; exact kc0; exact kc2)
            | apply w_skip
            | apply w_block
            | apply w_ret
            | apply t_ret
            | apply b_ret
            | (apply w_true; exact kc3)
            | fail)
          refine g_ret (K := [.cells out.length 8 false (out.map rqC)]) (by simp [*]; rfl) rfl ?_
          exact .nil
      · have hbad' : r'.bad = false := by simpa using hbad
        rw [if_neg hbad] at hrow
        have hn' : n < 1501 := hbig.resolve_right hbad
        have hy := request_read r' (by omega)
        have hle := (makes_rq r' hr').2
        generalize (rqR r').1 = v at *
        generalize (rqR r').2 = r'' at *
        have hb1 : out.length + 1 ≤ 140737488355328 := by omega
        have hb2 : (out.length + 1) * 88 ≤ 140737488355328 := by omega
        have hb3 : (out.length + 1) * 8 ≤ 140737488355328 := by omega
        have hb4 : (out.length + 1) * 64 ≤ 140737488355328 := by omega
        have h7 : IntKind.i64.wrap ((i : Int) + 1) = (i : Int) + 1 := wrap_i64 (by omega) (by omega)
        rcases hout with ⟨rfl, rfl, hf6⟩ | ⟨hne, rfl, hf6⟩
        · skip
          repeat' (first
            | apply w_seq
            | apply w_region
            | apply o_end
            | apply t_normal
            | (apply o_add; exact kc0; exact kc2; rfl; exact kc2; rfl; exact ke2)
            | (apply o_val; exact kc0; exact kc2)
            | (apply o_lit; exact kc0; exact kc1; (focus (simp; done)); exact kd7)
            | (apply o_beside fine; exact kc0; exact kc1; exact hy; rfl; rfl; exact kd4; (focus (simp only [rowH, rdH, List.cons_append, List.nil_append]; rfl)))
            | (apply o_mem; exact kc0; rfl; exact kc1)
            | apply w_skip
            | apply w_block
            | apply b_normal
            | (apply w_true; exact kc3)
            | (apply w_false; exact kc3)
            | fail)
          exact ⟨k, by omega, k, i + 1, r'', [v], [.cells 1 8 false [rqC v]], rfl, by omega, by simp, by omega, .inl hn', by simpa using hrow, rfl, .inr ⟨by simp, rfl, by simp⟩, by simp [*], by simp [*], by simp [*], by simp [*]⟩
        · skip
          repeat' (first
            | apply w_seq
            | apply w_region
            | apply o_end
            | apply t_normal
            | (apply o_add; exact kc0; exact kc2; rfl; exact kc2; rfl; exact ke2)
            | (apply o_val; exact kc0; exact kc2)
            | (apply o_lit; exact kc0; exact kc1; (focus (simp; done)); exact kd7)
            | (apply o_beside fine; exact kc0; exact kc1; exact hy; rfl; rfl; exact kd4; (focus (simp only [rowH, rdH, List.cons_append, List.nil_append]; rfl)))
            | (apply o_mem; exact kc0; rfl; exact kc1)
            | apply w_skip
            | apply w_block
            | apply b_normal
            | (apply w_true; exact kc3)
            | (apply w_false; exact kc3)
            | fail)
          exact ⟨k, by omega, k, i + 1, r'', out ++ [v], [.cells (out.length + 1) 8 false (out.map rqC ++ [rqC v])], rfl, by omega, by simp; omega, by omega, .inl hn', by simpa using hrow, rfl, .inr ⟨by simp, by simp, by simp⟩, by simp [*], by simp [*], by simp [*], by simp [*]⟩
  · by_cases c2 : (r1.b.length : Int) < n
    · have e : rdH (markR n r1) = [.cells 0 2 false [[bytesL r1.b, .bool true]]] := by rw [hmk2]; simp [c2]
      rw [e] at key
      clear hmk2 e hres
      repeat' (first
        | apply w_seq
        | apply w_region
        | apply o_end
        | apply t_normal
        | (apply o_val; exact kc0; exact kc2)
        | (apply o_turns; exact kc0; exact kc1; exact hx)
        | (apply o_mem; exact kc0; rfl; exact kc1)
        | apply w_block
        | (apply w_true; exact kc3)
        | fail)
      refine w_loop (fun m f H => ∃ (k i : Nat) (r' : Rd) (out : List Rq) (K : Heap), m = k ∧ i + k = n.toNat ∧ out.length ≤ i ∧ r'.b.length < 1501 ∧ (n < 1501 ∨ r'.bad = true) ∧ rowR rqR k r' out = res ∧ H = rdH r' ++ K ∧
              ((out = [] ∧ K = [] ∧ f 6 = .nilsl) ∨ (out ≠ [] ∧ K = [.cells out.length 8 false (out.map rqC)] ∧ f 6 = .slice 1 0 out.length out.length)) ∧ f 0 = rp ∧ f 1 = .func (.func 30) [rp] [] ∧ f 23 = .int .i64 n ∧ f 24 = .int .i64 (i : Nat)) n.toNat (key _ _ rfl (by simp) (by simp) (by simp) (by simp) (by simp)) ?_
      clear key hx
      rintro m f H ⟨k, i, r', out, K, rfl, hik, hol, hr', hbig, hrow, rfl, hout, hf0, hf1, hf23, hf24⟩
      cases m with
      | zero =>
        have hlt : ¬ (i : Int) < n := by omega
        rw [rowR] at hrow
        subst hrow
        rcases hout with ⟨rfl, rfl, hf6⟩ | ⟨hne, rfl, hf6⟩
        · skip
          repeat' (first
            | apply w_seq
            | apply w_region
            | apply o_end
            | apply t_normal
            | (apply o_val; exact kc0; exact kc2)
            | apply w_ret
            | apply w_exit
            | apply t_exit
            | apply b_here
            | (apply w_false; exact kc3)
            | fail)
          refine g_ret (K := []) (by simp [*]; rfl) rfl ?_
          exact .nil
        · skip
          repeat' (first
            | apply w_seq
            | apply w_region
            | apply o_end
            | apply t_normal
            | (apply o_val; exact kc0; exact kc2)
            | apply w_ret
            | apply w_exit
            | apply t_exit
            | apply b_here
            | (apply w_false; exact kc3)
            | fail)
          refine g_ret (K := [.cells out.length 8 false (out.map rqC)]) (by simp [*]; rfl) rfl ?_
          exact .slice_flat (by simp) rfl (by simp) (by simp) (flt_rq _)
      | succ k =>
        have hlt : (i : Int) < n := by omega
        rw [rowR] at hrow
        by_cases hbad : r'.bad = true
        · rw [if_pos hbad] at hrow
          subst hrow
          rcases hout with ⟨rfl, rfl, hf6⟩ | ⟨hne, rfl, hf6⟩
          · skip
            repeat' (first
              | apply w_seq
              | apply w_region
              | apply o_end
              | apply t_normal
              | (apply o_val; exact kc0; exact kc2)
              | apply w_skip
              | apply w_block
              | apply w_ret
              | apply t_ret
              | apply b_ret
              | (apply w_true; exact kc3)
              | fail)
            refine g_ret (K := []) (by simp [*]; rfl) rfl ?_
            exact .nil
          · skip
            repeat' (first
              | apply w_seq
              | apply w_region
              | apply o_end
              | apply t_normal
              | (apply o_val; exact kc0; exact kc2)
              | apply w_skip
              | apply w_block
              | apply w_ret
              | apply t_ret
              | apply b_ret
              | (apply w_true; exact kc3)
              | fail)
            refine g_ret (K := [.cells out.length 8 false (out.map rqC)]) (by simp [*]; rfl) rfl ?_
            exact .nil
        · have hbad' : r'.bad = false := by simpa using hbad
          rw [if_neg hbad] at hrow
          have hn' : n < 1501 := hbig.resolve_right hbad
          have hy := request_read r' (by omega)
          have hle := (makes_rq r' hr').2
          generalize (rqR r').1 = v at *
          generalize (rqR r').2 = r'' at *
          have hb1 : out.length + 1 ≤ 140737488355328 := by omega
          have hb2 : (out.length + 1) * 88 ≤ 140737488355328 := by omega
          have hb3 : (out.length + 1) * 8 ≤ 140737488355328 := by omega
          have hb4 : (out.length + 1) * 64 ≤ 140737488355328 := by omega
          have h7 : IntKind.i64.wrap ((i : Int) + 1) = (i : Int) + 1 := wrap_i64 (by omega) (by omega)
          rcases hout with ⟨rfl, rfl, hf6⟩ | ⟨hne, rfl, hf6⟩
          · skip
            repeat' (first
              | apply w_seq
              | apply w_region
              | apply o_end
              | apply t_normal
              | (apply o_add; exact kc0; exact kc2; rfl; exact kc2; rfl; exact ke2)
              | (apply o_val; exact kc0; exact kc2)
              | (apply o_lit; exact kc0; exact kc1; (focus (simp; done)); exact kd7)
              | (apply o_beside fine; exact kc0; exact kc1; exact hy; rfl; rfl; exact kd4; (focus (simp only [rowH, rdH, List.cons_append, List.nil_append]; rfl)))
              | (apply o_mem; exact kc0; rfl; exact kc1)
              | apply w_skip
              | apply w_block
              | apply b_normal
              | (apply w_true; exact kc3)
              | (apply w_false; exact kc3)
              | fail)
            exact ⟨k, by omega, k, i + 1, r'', [v], [.cells 1 8 false [rqC v]], rfl, by omega, by simp, by omega, .inl hn', by simpa using hrow, rfl, .inr ⟨by simp, rfl, by simp⟩, by simp [*], by simp [*], by simp [*], by simp [*]⟩
          · skip
            repeat' (first
              | apply w_seq
              | apply w_region
              | apply o_end
              | apply t_normal
              | (apply o_add; exact kc0; exact kc2; rfl; exact kc2; rfl; exact ke2)
              | (apply o_val; exact kc0; exact kc2)
              | (apply o_lit; exact kc0; exact kc1; (focus (simp; done)); exact kd7)
              | (apply o_beside fine; exact kc0; exact kc1; exact hy; rfl; rfl; exact kd4; (focus (simp only [rowH, rdH, List.cons_append, List.nil_append]; rfl)))
              | (apply o_mem; exact kc0; rfl; exact kc1)
              | apply w_skip
              | apply w_block
              | apply b_normal
              | (apply w_true; exact kc3)
              | (apply w_false; exact kc3)
              | fail)
            exact ⟨k, by omega, k, i + 1, r'', out ++ [v], [.cells (out.length + 1) 8 false (out.map rqC ++ [rqC v])], rfl, by omega, by simp; omega, by omega, .inl hn', by simpa using hrow, rfl, .inr ⟨by simp, by simp, by simp⟩, by simp [*], by simp [*], by simp [*], by simp [*]⟩
    · have e : rdH (markR n r1) = [.cells 0 2 false [[bytesL r1.b, .bool r1.bad]]] := by rw [hmk2]; simp [c1, c2]
      rw [e] at key
      clear hmk2 e hres
      repeat' (first
        | apply w_seq
        | apply w_region
        | apply o_end
        | apply t_normal
        | (apply o_val; exact kc0; exact kc2)
        | (apply o_turns; exact kc0; exact kc1; exact hx)
        | apply w_skip
        | apply w_block
        | (apply w_false; exact kc3)
        | fail)
      refine w_loop (fun m f H => ∃ (k i : Nat) (r' : Rd) (out : List Rq) (K : Heap), m = k ∧ i + k = n.toNat ∧ out.length ≤ i ∧ r'.b.length < 1501 ∧ (n < 1501 ∨ r'.bad = true) ∧ rowR rqR k r' out = res ∧ H = rdH r' ++ K ∧
              ((out = [] ∧ K = [] ∧ f 6 = .nilsl) ∨ (out ≠ [] ∧ K = [.cells out.length 8 false (out.map rqC)] ∧ f 6 = .slice 1 0 out.length out.length)) ∧ f 0 = rp ∧ f 1 = .func (.func 30) [rp] [] ∧ f 23 = .int .i64 n ∧ f 24 = .int .i64 (i : Nat)) n.toNat (key _ _ rfl (by simp) (by simp) (by simp) (by simp) (by simp)) ?_
      clear key hx
      rintro m f H ⟨k, i, r', out, K, rfl, hik, hol, hr', hbig, hrow, rfl, hout, hf0, hf1, hf23, hf24⟩
      cases m with
      | zero =>
        have hlt : ¬ (i : Int) < n := by omega
        rw [rowR] at hrow
        subst hrow
        rcases hout with ⟨rfl, rfl, hf6⟩ | ⟨hne, rfl, hf6⟩
        · skip
          repeat' (first
            | apply w_seq
            | apply w_region
            | apply o_end
            | apply t_normal
            | (apply o_val; exact kc0; exact kc2)
            | apply w_ret
            | apply w_exit
            | apply t_exit
            | apply b_here
            | (apply w_false; exact kc3)
            | fail)
          refine g_ret (K := []) (by simp [*]; rfl) rfl ?_
          exact .nil
        · skip
          repeat' (first
            | apply w_seq
            | apply w_region
            | apply o_end
            | apply t_normal
            | (apply o_val; exact kc0; exact kc2)
            | apply w_ret
            | apply w_exit
            | apply t_exit
            | apply b_here
            | (apply w_false; exact kc3)
            | fail)
          refine g_ret (K := [.cells out.length 8 false (out.map rqC)]) (by simp [*]; rfl) rfl ?_
          exact .slice_flat (by simp) rfl (by simp) (by simp) (flt_rq _)
      | succ k =>
        have hlt : (i : Int) < n := by omega
        rw [rowR] at hrow
        by_cases hbad : r'.bad = true
        · rw [if_pos hbad] at hrow
          subst hrow
          rcases hout with ⟨rfl, rfl, hf6⟩ | ⟨hne, rfl, hf6⟩
          · skip
            repeat' (first
              | apply w_seq
              | apply w_region
              | apply o_end
              | apply t_normal
              | (apply o_val; exact kc0; exact kc2)
              | apply w_skip
              | apply w_block
              | apply w_ret
              | apply t_ret
              | apply b_ret
              | (apply w_true; exact kc3)
              | fail)
            refine g_ret (K := []) (by simp [*]; rfl) rfl ?_
            exact .nil
          · skip
            repeat' (first
              | apply w_seq
              | apply w_region
              | apply o_end
              | apply t_normal
              | (apply o_val; exact kc0; exact kc2)
              | apply w_skip
              | apply w_block
              | apply w_ret
              | apply t_ret
              | apply b_ret
              | (apply w_true; exact kc3)
              | fail)
            refine g_ret (K := [.cells out.length 8 false (out.map rqC)]) (by simp [*]; rfl) rfl ?_
            exact .nil
        · have hbad' : r'.bad = false := by simpa using hbad
          rw [if_neg hbad] at hrow
          have hn' : n < 1501 := hbig.resolve_right hbad
          have hy := request_read r' (by omega)
          have hle := (makes_rq r' hr').2
          generalize (rqR r').1 = v at *
          generalize (rqR r').2 = r'' at *
          have hb1 : out.length + 1 ≤ 140737488355328 := by omega
          have hb2 : (out.length + 1) * 88 ≤ 140737488355328 := by omega
          have hb3 : (out.length + 1) * 8 ≤ 140737488355328 := by omega
          have hb4 : (out.length + 1) * 64 ≤ 140737488355328 := by omega
          have h7 : IntKind.i64.wrap ((i : Int) + 1) = (i : Int) + 1 := wrap_i64 (by omega) (by omega)
          rcases hout with ⟨rfl, rfl, hf6⟩ | ⟨hne, rfl, hf6⟩
          · skip
            repeat' (first
              | apply w_seq
              | apply w_region
              | apply o_end
              | apply t_normal
              | (apply o_add; exact kc0; exact kc2; rfl; exact kc2; rfl; exact ke2)
              | (apply o_val; exact kc0; exact kc2)
              | (apply o_lit; exact kc0; exact kc1; (focus (simp; done)); exact kd7)
              | (apply o_beside fine; exact kc0; exact kc1; exact hy; rfl; rfl; exact kd4; (focus (simp only [rowH, rdH, List.cons_append, List.nil_append]; rfl)))
              | (apply o_mem; exact kc0; rfl; exact kc1)
              | apply w_skip
              | apply w_block
              | apply b_normal
              | (apply w_true; exact kc3)
              | (apply w_false; exact kc3)
              | fail)
            exact ⟨k, by omega, k, i + 1, r'', [v], [.cells 1 8 false [rqC v]], rfl, by omega, by simp, by omega, .inl hn', by simpa using hrow, rfl, .inr ⟨by simp, rfl, by simp⟩, by simp [*], by simp [*], by simp [*], by simp [*]⟩
          · skip
            repeat' (first
              | apply w_seq
              | apply w_region
              | apply o_end
              | apply t_normal
              | (apply o_add; exact kc0; exact kc2; rfl; exact kc2; rfl; exact ke2)
              | (apply o_val; exact kc0; exact kc2)
              | (apply o_lit; exact kc0; exact kc1; (focus (simp; done)); exact kd7)
              | (apply o_beside fine; exact kc0; exact kc1; exact hy; rfl; rfl; exact kd4; (focus (simp only [rowH, rdH, List.cons_append, List.nil_append]; rfl)))
              | (apply o_mem; exact kc0; rfl; exact kc1)
              | apply w_skip
              | apply w_block
              | apply b_normal
              | (apply w_true; exact kc3)
              | (apply w_false; exact kc3)
              | fail)
            exact ⟨k, by omega, k, i + 1, r'', out ++ [v], [.cells (out.length + 1) 8 false (out.map rqC ++ [rqC v])], rfl, by omega, by simp; omega, by omega, .inl hn', by simpa using hrow, rfl, .inr ⟨by simp, by simp, by simp⟩, by simp [*], by simp [*], by simp [*], by simp [*]⟩


theorem Equal_ok (a b : List UInt8) : Ans L 31 [bytesL a, bytesL b] (.bool (a == b)) := by
  refine fn_of_body L_ok (fn := Try.f31) rfl rfl rfl rfl (by kernel_rfl) ?_
  repeat' (first
    | apply w_seq
    | apply w_region
    | apply o_end
    | apply t_normal
    | (apply o_val; exact kc0; exact kc2)
    | (apply f_retf; exact kc2; (focus (simp; done)); exact kc3)
    | (apply o_mem; exact kc0; rfl; exact kc1)
    | apply w_ret
    | fail)
theorem snap_zero {S : Nat → Prop} {H : Heap} : Snap S H (.tuple [.agg [.int .i64 0, .bool false, .nilsl, .nilsl, .nilsl, .nilsl, .nilsl, .nilsl], .bool false]) (.tuple [stD zeroSt, .bool false]) :=
  SnapL.tuple ⟨SnapL.agg ⟨.flat (by simp), .flat (by simp), .nil, .nil, .nil, .nil, .nil, .nil, trivial⟩, .flat (by simp), trivial⟩
theorem Read_ok (l : List UInt8) (hl : l.length < 1501) : Ans L 10 [bytesL l] (.tuple [stD (readSt l).1, .bool (readSt l).2]) := by
  refine fn_of_body L_ok (fn := Try.f10) rfl rfl rfl rfl (by kernel_rfl) ?_
  obtain ⟨hin, _⟩ := makes_st ⟨l, false⟩ hl
  have hS : readSt l = if (stR ⟨l, false⟩).2.bad || !(stB (stR ⟨l, false⟩).1 == l) then (zeroSt, false) else ((stR ⟨l, false⟩).1, true) := rfl
  obtain ⟨r, hr⟩ : ∃ r : Rd, r = ⟨l, false⟩ := ⟨_, rfl⟩
  have hrb : r.b = l := by rw [hr]
  have hrbad : r.bad = false := by rw [hr]
  rw [← hr] at hS hin
  have hb : r.b.length < 1501 := by rw [hrb]; exact hl
  clear hr
  obtain ⟨_, l1⟩ := makes_num (r) (by omega)
  have c1 := number_read (r) (by omega)
  obtain ⟨a, e1⟩ : ∃ x, numR (r) = x := ⟨_, rfl⟩
  rw [e1] at c1 l1
  obtain ⟨_, l2⟩ := makes_tru (a.2) (by omega)
  have c2 := truth_read (a.2) (by omega)
  obtain ⟨b, e2⟩ : ∃ x, truR (a.2) = x := ⟨_, rfl⟩
  rw [e2] at c2 l2
  obtain ⟨_, l3⟩ := makes_list makes_num (b.2) (by omega)
  have c3 := lists_int (b.2) (by omega)
  obtain ⟨c, e3⟩ : ∃ x, listR numR (b.2) = x := ⟨_, rfl⟩
  rw [e3] at c3 l3
  obtain ⟨_, l4⟩ := makes_list makes_num (c.2) (by omega)
  have c4 := lists_int (c.2) (by omega)
  obtain ⟨d, e4⟩ : ∃ x, listR numR (c.2) = x := ⟨_, rfl⟩
  rw [e4] at c4 l4
  obtain ⟨_, l5⟩ := makes_list makes_tru (d.2) (by omega)
  have c5 := lists_bool (d.2) (by omega)
  obtain ⟨e, e5⟩ : ∃ x, listR truR (d.2) = x := ⟨_, rfl⟩
  rw [e5] at c5 l5
  obtain ⟨_, l6⟩ := makes_list makes_tru (e.2) (by omega)
  have c6 := lists_bool (e.2) (by omega)
  obtain ⟨f, e6⟩ : ∃ x, listR truR (e.2) = x := ⟨_, rfl⟩
  rw [e6] at c6 l6
  obtain ⟨_, l7⟩ := makes_list makes_tru (f.2) (by omega)
  have c7 := lists_bool (f.2) (by omega)
  obtain ⟨g, e7⟩ : ∃ x, listR truR (f.2) = x := ⟨_, rfl⟩
  rw [e7] at c7 l7
  obtain ⟨_, l8⟩ := makes_list makes_rq (g.2) (by omega)
  have c8 := lists_rq (g.2) (by omega)
  obtain ⟨h, e8⟩ : ∃ x, listR rqR (g.2) = x := ⟨_, rfl⟩
  rw [e8] at c8 l8
  have hR : stR r = ({ doc := a.1, owned := b.1, jar := c.1, changed := d.1, knows := e.1, stolen := f.1, ran := g.1, pending := h.1 }, h.2) := by
    subst e1 e2 e3 e4 e5 e6 e7 e8
    rfl
  rw [hR] at hS hin
  simp only at hS hin
  have cS := State_ok _ hin
  have cE := Equal_ok (stB { doc := a.1, owned := b.1, jar := c.1, changed := d.1, knows := e.1, stolen := f.1, ran := g.1, pending := h.1 }) l
  clear hR l1 l2 l3 l4 l5 l6 l7 l8 e1 e2 e3 e4 e5 e6 e7 e8 hin
  obtain ⟨ra, rb⟩ := r
  simp only at hrb hrbad
  subst hrb hrbad
  rw [hS]
  clear hS
  generalize hq : stB { doc := a.1, owned := b.1, jar := c.1, changed := d.1, knows := e.1, stolen := f.1, ran := g.1, pending := h.1 } = q at *
  repeat' (first
    | apply w_seq
    | apply w_region
    | apply o_end
    | apply t_normal
    | (apply o_val; exact kc0; exact kc2)
    | (apply o_amid fine 1; exact kc0; exact kc1; exact c1; (focus (simp [rn, rnL]; done)); rfl; rfl; rfl; exact kd4; (focus (simp only [rowH, rdH, List.take_succ_cons, List.take_zero, List.cons_append, List.nil_append]; rfl)))
    | (apply o_amid fine 1; exact kc0; exact kc1; exact c2; (focus (simp [rn, rnL]; done)); rfl; rfl; rfl; exact kd4; (focus (simp only [rowH, rdH, List.take_succ_cons, List.take_zero, List.cons_append, List.nil_append]; rfl)))
    | (apply o_amid fine 1; exact kc0; exact kc1; exact c3; (focus (simp [rn, rnL]; done)); rfl; rfl; rfl; exact kd4; (focus (simp only [rowH, rdH, List.take_succ_cons, List.take_zero, List.cons_append, List.nil_append]; rfl)))
    | (apply o_amid fine 1; exact kc0; exact kc1; exact c4; (focus (simp [rn, rnL]; done)); rfl; rfl; rfl; exact kd4; (focus (simp only [rowH, rdH, List.take_succ_cons, List.take_zero, List.cons_append, List.nil_append]; rfl)))
    | (apply o_amid fine 1; exact kc0; exact kc1; exact c5; (focus (simp [rn, rnL]; done)); rfl; rfl; rfl; exact kd4; (focus (simp only [rowH, rdH, List.take_succ_cons, List.take_zero, List.cons_append, List.nil_append]; rfl)))
    | (apply o_amid fine 1; exact kc0; exact kc1; exact c6; (focus (simp [rn, rnL]; done)); rfl; rfl; rfl; exact kd4; (focus (simp only [rowH, rdH, List.take_succ_cons, List.take_zero, List.cons_append, List.nil_append]; rfl)))
    | (apply o_amid fine 1; exact kc0; exact kc1; exact c7; (focus (simp [rn, rnL]; done)); rfl; rfl; rfl; exact kd4; (focus (simp only [rowH, rdH, List.take_succ_cons, List.take_zero, List.cons_append, List.nil_append]; rfl)))
    | (apply o_amid fine 1; exact kc0; exact kc1; exact c8; (focus (simp [rn, rnL]; done)); rfl; rfl; rfl; exact kd4; (focus (simp only [rowH, rdH, List.take_succ_cons, List.take_zero, List.cons_append, List.nil_append]; rfl)))
    | (apply o_fn fine; exact kc0; exact kc1; exact cS; exact kc3)
    | (apply o_fn fine; exact kc0; exact kc1; exact cE; exact kc3)
    | (apply o_mem; exact kc0; rfl; exact kc1)
    | apply w_skip
    | apply w_ret
    | apply t_ret
    | (apply w_true; exact kc3)
    | ((apply w_cond; exact kc2; rfl) <;> (intro hc; have hc' := hc; try simp at hc'))
    | (apply o_no; exact ke7)
    | ((apply o_if; rfl; rfl; exact kc2; rfl) <;> (intro hg; (fail_if_success (guard_hyp hg : true = true)); (fail_if_success (guard_hyp hg : false = false)); have hg' := hg; (try simp at hg'); have hg2 := hg; (try simp only [bne, Bool.not_not, Bool.not_true, Bool.not_false, Bool.not_or, Bool.not_and, Bool.not_eq_true', Bool.not_eq_false', Bool.and_eq_true, Bool.or_eq_false_iff] at hg2)))
    | fail)
  all_goals first
    | (apply f_retf; exact kc2; (focus (simp; done)); exact kc3)
    | (refine f_ret (by simp [*]; rfl) ?_; (focus (first | (simp only [*, Bool.or_true, Bool.true_or, Bool.not_false, Bool.not_true, Bool.false_or, if_true]; exact snap_zero) | (simp [*]; exact snap_zero))))
end Go.Proofs.Ytejpgmemohchaaa.Vm
