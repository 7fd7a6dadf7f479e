/- Walks: code, what lays states into bytes. -/
import Derived.Test.YtejpgmemohchaaaVmX
import Derived.Test.YtejpgmemohchaaaVmTy
import Derived.Test.YtejpgmemohchaaaCdC
set_option linter.unusedSimpArgs false
set_option maxRecDepth 100000
set_option maxHeartbeats 4000000
namespace Go.Proofs.Ytejpgmemohchaaa.Vm
open Go
attribute [local irreducible] wpD opsD thenD blockD planD planA
attribute [local simp] List.take_of_length_le List.drop_of_length_le

theorem xor_all (m : Nat) (h : m < 18446744073709551616) : 18446744073709551615 ^^^ m = 18446744073709551615 - m := by
  have h1 := congrArg BitVec.toNat (BitVec.allOnes_xor (x := BitVec.ofNat 64 m))
  simp only [BitVec.toNat_xor, BitVec.toNat_allOnes, BitVec.toNat_not, BitVec.toNat_ofNat] at h1
  rw [Nat.mod_eq_of_lt (by simpa using h)] at h1
  simpa using h1
theorem u64_zz_pos {n : Int} (hn : I64 n) (h : 0 ≤ n) : IntKind.u64.wrap (IntKind.u64.wrap n * 2 ^ min 1 IntKind.u64.bits) = (zz n : Int) := by
  unfold I64 at hn
  rw [show min 1 IntKind.u64.bits = 1 from rfl, wrap_u64, wrap_u64, zz, if_pos h]
  omega
theorem u64_zz_neg {n : Int} (hn : I64 n) (h : n < 0) : IntKind.u64.wrap (IntKind.u64.wrap n * 2 ^ min 1 IntKind.u64.bits) = ((18446744073709551615 - zz n : Nat) : Int) := by
  unfold I64 at hn
  rw [show min 1 IntKind.u64.bits = 1 from rfl, wrap_u64, wrap_u64, zz, if_neg (by omega)]
  omega
theorem u64_not {m : Nat} (h : m < 18446744073709551616) : IntKind.u64.wrap ↑(((if IntKind.u64.signed = true then -1 else IntKind.u64.max) % 2 ^ IntKind.u64.bits).toNat ^^^ m % 2 ^ IntKind.u64.bits) = ((18446744073709551615 - m : Nat) : Int) := by
  have e1 : ((if IntKind.u64.signed = true then -1 else IntKind.u64.max) % 2 ^ IntKind.u64.bits).toNat = 18446744073709551615 := by decide +kernel
  have e2 : m % 2 ^ IntKind.u64.bits = m := Nat.mod_eq_of_lt h
  rw [e1, e2, xor_all m h, wrap_u64]
  omega
theorem or_byte (u : Nat) : IntKind.u8.wrap ↑((IntKind.u8.wrap (u : Int) % 2 ^ IntKind.u8.bits).toNat ||| 128 % 2 ^ IntKind.u8.bits) = ((u % 128 + 128 : Nat) : Int) := by
  have e : (IntKind.u8.wrap (u : Int) % 2 ^ IntKind.u8.bits).toNat = u % 256 := by
    rw [wrap_u8, show (2 : Int) ^ IntKind.u8.bits = 256 from rfl]
    omega
  rw [e, show 128 % 2 ^ IntKind.u8.bits = 128 from rfl, or128 _ (by omega), wrap_u8]
  omega
theorem shr7 (u : Nat) : (u : Int).fdiv (2 ^ min 7 IntKind.u64.bits) = ((u / 128 : Nat) : Int) := by
  rw [show min 7 IntKind.u64.bits = 7 from rfl, Int.fdiv_eq_ediv_of_nonneg _ (by decide)]
  omega

theorem number_ok {H : Heap} {b : D} {g : Nat} {bs : List UInt8} (own : Own1 1 H b g (bs.map encB)) (n : Int) (hn : I64 n) (hb : bs.length < 1000000000000) :
    CallsV L 41 [b, .int .i64 n] H (Turns (rowS ((bs ++ num n).map encB) (g + (num n).length)) (rowH 1 ((bs ++ num n).map encB) (g + (num n).length))) := by
  refine turns_of_body L_ok (fn := Try.f41) rfl rfl rfl rfl (by kernel_rfl) ?_
  have hz := zz_lt hn
  have key : ∀ f : Fr, f 0 = b → f 5 = .int .u64 (zz n) → ∃ (k u : Nat) (bs' : List UInt8) (g' : Nat) (d : D) (xs : List (List D)), 10 = k ∧ 0 < k ∧ u < 2 ^ (7 * k) ∧ u < 18446744073709551616 ∧ bs'.length + k ≤ 1000000000010 ∧ f 0 = d ∧ xs = bs'.map encB ∧ Own1 1 H d g' xs ∧
      bs' ++ grp k u = bs ++ num n ∧ g' + (grp k u).length = g + (num n).length ∧ f 5 = .int .u64 (u : Nat) := fun f h0 h5 =>
    ⟨10, zz n, bs, g, b, _, rfl, by decide, Nat.lt_of_lt_of_le hz (by decide), hz, by omega, h0, rfl, own, rfl, rfl, h5⟩
  by_cases h0 : 0 ≤ n
  · have h0' : ¬ n < 0 := by omega
    have e := u64_zz_pos hn h0
    repeat' (first
      | apply w_seq
      | apply w_region
      | apply o_end
      | apply t_normal
      | (apply o_val; exact kc0; exact kc2)
      | (apply o_mem; exact kc0; rfl; exact kc1)
      | apply w_skip
      | apply w_block
      | (apply w_false; exact kc3)
      | fail)
    refine w_loop (fun m f H => ∃ (k u : Nat) (bs' : List UInt8) (g' : Nat) (d : D) (xs : List (List D)), m = k ∧ 0 < k ∧ u < 2 ^ (7 * k) ∧ u < 18446744073709551616 ∧ bs'.length + k ≤ 1000000000010 ∧ f 0 = d ∧ xs = bs'.map encB ∧ Own1 1 H d g' xs ∧
      bs' ++ grp k u = bs ++ num n ∧ g' + (grp k u).length = g + (num n).length ∧ f 5 = .int .u64 (u : Nat)) 10 (key _ (by simp) (by simp [*])) ?_
    clear key own
    rintro m f H ⟨k, u, bs', g', d, xs, rfl, hk, hu, hu', hl, hf0, hx, own, hbs, hg, hf5⟩
    have hxl : xs.length = bs'.length := by rw [hx]; simp
    have e1 := or_byte u
    have e2 := shr7 u
    have b1 : bs'.length + 1 ≤ 140737488355328 := by omega
    obtain ⟨k, rfl⟩ : ∃ k, m = k + 1 := ⟨m - 1, by omega⟩
    by_cases hbig : 128 ≤ u
    · have hbig' : (128 : Int) ≤ (u : Int) := by omega
      have hk0 : 0 < k := by
        rcases Nat.eq_zero_or_pos k with h | h
        · subst h; simp at hu; omega
        · exact h
      have hu2 : u / 128 < 2 ^ (7 * k) := by
        rw [Nat.mul_add, Nat.pow_add] at hu
        omega
      rw [grp, if_neg (by omega)] at hbs hg
      have e3 : ((UInt8.ofNat (u % 128 + 128)).toNat : Int) = (u : Int) % 128 + 128 := by simp; omega
      have e4 : [D.int .u8 ((u : Int) % 128 + 128)] = encB (UInt8.ofNat (u % 128 + 128)) := by rw [encB, e3]
      rcases own with _ | ⟨g', xs⟩
      · obtain rfl : bs' = [] := by simpa using hx.symm
        clear hx hxl
        repeat' (first
          | apply w_seq
          | apply w_region
          | apply o_end
          | apply t_normal
          | (apply o_val; exact kc0; exact kc2)
          | (apply o_lit; exact kc0; exact kc1; (focus (simp; done)); exact kd7)
          | (apply o_mem; exact kc0; rfl; exact kc1)
          | apply w_skip
          | apply w_block
          | apply b_normal
          | (apply w_true; exact kc3)
          | fail)
        exact ⟨k, by omega, k, u / 128, [UInt8.ofNat (u % 128 + 128)], 1, rowS [encB (UInt8.ofNat (u % 128 + 128))] 1, [encB (UInt8.ofNat (u % 128 + 128))], rfl, hk0, hu2, by omega, by simp; omega, by simp, rfl, by simpa using Own1.row (sz := 1) 1 [encB (UInt8.ofNat (u % 128 + 128))], by simpa using hbs, by simp at hg ⊢; omega, by simp [*]⟩
      · subst hx
        repeat' (first
          | apply w_seq
          | apply w_region
          | apply o_end
          | apply t_normal
          | (apply o_val; exact kc0; exact kc2)
          | (apply o_lit; exact kc0; exact kc1; (focus (simp; done)); exact kd7)
          | (apply o_mem; exact kc0; rfl; exact kc1)
          | apply w_skip
          | apply w_block
          | apply b_normal
          | (apply w_true; exact kc3)
          | fail)
        exact ⟨k, by omega, k, u / 128, bs' ++ [UInt8.ofNat (u % 128 + 128)], g' + 1, rowS (bs'.map encB ++ [encB (UInt8.ofNat (u % 128 + 128))]) (g' + 1), bs'.map encB ++ [encB (UInt8.ofNat (u % 128 + 128))], rfl, hk0, hu2, by omega, by simp; omega, by simp, by simp, by simpa using Own1.row (sz := 1) (g' + 1) (bs'.map encB ++ [encB (UInt8.ofNat (u % 128 + 128))]), by simpa using hbs, by simp at hg ⊢; omega, by simp [*]⟩
    · have hbig' : ¬ (128 : Int) ≤ (u : Int) := by omega
      rw [grp, if_pos (by omega)] at hbs hg
      have e3 : IntKind.u8.wrap (u : Int) = ((UInt8.ofNat u).toNat : Int) := by rw [wrap_u8]; simp
      rcases own with _ | ⟨g', xs⟩
      · obtain rfl : bs' = [] := by simpa using hx.symm
        clear hx hxl
        repeat' (first
          | apply w_seq
          | apply w_region
          | apply o_end
          | apply t_normal
          | (apply o_val; exact kc0; exact kc2)
          | (apply o_lit; exact kc0; exact kc1; (focus (simp; done)); exact kd7)
          | (apply o_mem; exact kc0; rfl; exact kc1)
          | apply w_ret
          | apply w_exit
          | apply t_exit
          | apply b_here
          | (apply w_false; exact kc3)
          | fail)
        apply t_retT
        · simp [*]; rfl
        · rw [← hbs, ← hg]; simp
        · rw [← hbs, ← hg]; simp [encB]
      · subst hx
        repeat' (first
          | apply w_seq
          | apply w_region
          | apply o_end
          | apply t_normal
          | (apply o_val; exact kc0; exact kc2)
          | (apply o_lit; exact kc0; exact kc1; (focus (simp; done)); exact kd7)
          | (apply o_mem; exact kc0; rfl; exact kc1)
          | apply w_ret
          | apply w_exit
          | apply t_exit
          | apply b_here
          | (apply w_false; exact kc3)
          | fail)
        apply t_retT
        · simp [*]; rfl
        · rw [← hbs, ← hg]; simp
        · rw [← hbs, ← hg]; simp [encB]
  · have h0' : n < 0 := by omega
    have e := u64_zz_neg hn h0'
    have e' : IntKind.u64.wrap _ = _ := u64_not (show 18446744073709551615 - zz n < 18446744073709551616 by omega)
    rw [show 18446744073709551615 - (18446744073709551615 - zz n) = zz n by omega] at e'
    repeat' (first
      | apply w_seq
      | apply w_region
      | apply o_end
      | apply t_normal
      | (apply o_val; exact kc0; exact kc2)
      | (apply o_mem; exact kc0; rfl; exact kc1)
      | apply w_block
      | (apply w_true; exact kc3)
      | fail)
    refine w_loop (fun m f H => ∃ (k u : Nat) (bs' : List UInt8) (g' : Nat) (d : D) (xs : List (List D)), m = k ∧ 0 < k ∧ u < 2 ^ (7 * k) ∧ u < 18446744073709551616 ∧ bs'.length + k ≤ 1000000000010 ∧ f 0 = d ∧ xs = bs'.map encB ∧ Own1 1 H d g' xs ∧
      bs' ++ grp k u = bs ++ num n ∧ g' + (grp k u).length = g + (num n).length ∧ f 5 = .int .u64 (u : Nat)) 10 (key _ (by simp) (by simp [*])) ?_
    clear key own
    rintro m f H ⟨k, u, bs', g', d, xs, rfl, hk, hu, hu', hl, hf0, hx, own, hbs, hg, hf5⟩
    have hxl : xs.length = bs'.length := by rw [hx]; simp
    have e1 := or_byte u
    have e2 := shr7 u
    have b1 : bs'.length + 1 ≤ 140737488355328 := by omega
    obtain ⟨k, rfl⟩ : ∃ k, m = k + 1 := ⟨m - 1, by omega⟩
    by_cases hbig : 128 ≤ u
    · have hbig' : (128 : Int) ≤ (u : Int) := by omega
      have hk0 : 0 < k := by
        rcases Nat.eq_zero_or_pos k with h | h
        · subst h; simp at hu; omega
        · exact h
      have hu2 : u / 128 < 2 ^ (7 * k) := by
        rw [Nat.mul_add, Nat.pow_add] at hu
        omega
      rw [grp, if_neg (by omega)] at hbs hg
      have e3 : ((UInt8.ofNat (u % 128 + 128)).toNat : Int) = (u : Int) % 128 + 128 := by simp; omega
      have e4 : [D.int .u8 ((u : Int) % 128 + 128)] = encB (UInt8.ofNat (u % 128 + 128)) := by rw [encB, e3]
      rcases own with _ | ⟨g', xs⟩
      · obtain rfl : bs' = [] := by simpa using hx.symm
        clear hx hxl
        repeat' (first
          | apply w_seq
          | apply w_region
          | apply o_end
          | apply t_normal
          | (apply o_val; exact kc0; exact kc2)
          | (apply o_lit; exact kc0; exact kc1; (focus (simp; done)); exact kd7)
          | (apply o_mem; exact kc0; rfl; exact kc1)
          | apply w_skip
          | apply w_block
          | apply b_normal
          | (apply w_true; exact kc3)
          | fail)
        exact ⟨k, by omega, k, u / 128, [UInt8.ofNat (u % 128 + 128)], 1, rowS [encB (UInt8.ofNat (u % 128 + 128))] 1, [encB (UInt8.ofNat (u % 128 + 128))], rfl, hk0, hu2, by omega, by simp; omega, by simp, rfl, by simpa using Own1.row (sz := 1) 1 [encB (UInt8.ofNat (u % 128 + 128))], by simpa using hbs, by simp at hg ⊢; omega, by simp [*]⟩
      · subst hx
        repeat' (first
          | apply w_seq
          | apply w_region
          | apply o_end
          | apply t_normal
          | (apply o_val; exact kc0; exact kc2)
          | (apply o_lit; exact kc0; exact kc1; (focus (simp; done)); exact kd7)
          | (apply o_mem; exact kc0; rfl; exact kc1)
          | apply w_skip
          | apply w_block
          | apply b_normal
          | (apply w_true; exact kc3)
          | fail)
        exact ⟨k, by omega, k, u / 128, bs' ++ [UInt8.ofNat (u % 128 + 128)], g' + 1, rowS (bs'.map encB ++ [encB (UInt8.ofNat (u % 128 + 128))]) (g' + 1), bs'.map encB ++ [encB (UInt8.ofNat (u % 128 + 128))], rfl, hk0, hu2, by omega, by simp; omega, by simp, by simp, by simpa using Own1.row (sz := 1) (g' + 1) (bs'.map encB ++ [encB (UInt8.ofNat (u % 128 + 128))]), by simpa using hbs, by simp at hg ⊢; omega, by simp [*]⟩
    · have hbig' : ¬ (128 : Int) ≤ (u : Int) := by omega
      rw [grp, if_pos (by omega)] at hbs hg
      have e3 : IntKind.u8.wrap (u : Int) = ((UInt8.ofNat u).toNat : Int) := by rw [wrap_u8]; simp
      rcases own with _ | ⟨g', xs⟩
      · obtain rfl : bs' = [] := by simpa using hx.symm
        clear hx hxl
        repeat' (first
          | apply w_seq
          | apply w_region
          | apply o_end
          | apply t_normal
          | (apply o_val; exact kc0; exact kc2)
          | (apply o_lit; exact kc0; exact kc1; (focus (simp; done)); exact kd7)
          | (apply o_mem; exact kc0; rfl; exact kc1)
          | apply w_ret
          | apply w_exit
          | apply t_exit
          | apply b_here
          | (apply w_false; exact kc3)
          | fail)
        apply t_retT
        · simp [*]; rfl
        · rw [← hbs, ← hg]; simp
        · rw [← hbs, ← hg]; simp [encB]
      · subst hx
        repeat' (first
          | apply w_seq
          | apply w_region
          | apply o_end
          | apply t_normal
          | (apply o_val; exact kc0; exact kc2)
          | (apply o_lit; exact kc0; exact kc1; (focus (simp; done)); exact kd7)
          | (apply o_mem; exact kc0; rfl; exact kc1)
          | apply w_ret
          | apply w_exit
          | apply t_exit
          | apply b_here
          | (apply w_false; exact kc3)
          | fail)
        apply t_retT
        · simp [*]; rfl
        · rw [← hbs, ← hg]; simp
        · rw [← hbs, ← hg]; simp [encB]

theorem own_bytes (bs : List UInt8) (g : Nat) : Own1 1 (rowH 1 (bs.map encB) g) (.slice 0 0 bs.length g) g (bs.map encB) := by
  simpa [rowS] using Own1.row (sz := 1) g (bs.map encB)
/-- A number behind bytes. -/
theorem number_row (bs : List UInt8) (g : Nat) (n : Int) (hn : I64 n) (hb : bs.length < 1000000000000) :
    CallsV L 41 [.slice 0 0 bs.length g, .int .i64 n] (rowH 1 (bs.map encB) g) (Turns (.slice 0 0 (bs ++ num n).length (g + (num n).length)) (rowH 1 ((bs ++ num n).map encB) (g + (num n).length))) := by
  simpa [rowS] using number_ok (own_bytes bs g) n hn hb
theorem number_nil (n : Int) (hn : I64 n) : CallsV L 41 [.nilsl, .int .i64 n] [] (Turns (.slice 0 0 (num n).length (num n).length) (rowH 1 ((num n).map encB) (num n).length)) := by
  simpa [rowS] using number_ok (bs := []) .nil n hn (by decide)
theorem truth_row (bs : List UInt8) (g : Nat) (t : Bool) (hb : bs.length < 1000000000000) :
    CallsV L 42 [.slice 0 0 bs.length g, .bool t] (rowH 1 (bs.map encB) g) (Turns (.slice 0 0 (bs ++ tru t).length (g + (tru t).length)) (rowH 1 ((bs ++ tru t).map encB) (g + (tru t).length))) := by
  refine turns_of_body L_ok (fn := Try.f42) rfl rfl rfl rfl (by kernel_rfl) ?_
  have b1 : bs.length + 1 ≤ 140737488355328 := by omega
  cases t
  · skip
    repeat' (first
      | apply w_seq
      | apply w_region
      | apply o_end
      | apply t_normal
      | (apply o_val; exact kc0; exact kc2)
      | (apply o_lit; exact kc0; exact kc1; (focus (simp; done)); exact kd7)
      | (apply o_mem; exact kc0; rfl; exact kc1)
      | apply w_skip
      | apply w_ret
      | (apply w_false; exact kc3)
      | fail)
    apply t_retT
    · simp [*]; rfl
    · simp [tru]
    · simp [tru, encB]
  · skip
    repeat' (first
      | apply w_seq
      | apply w_region
      | apply o_end
      | apply t_normal
      | (apply o_val; exact kc0; exact kc2)
      | (apply o_lit; exact kc0; exact kc1; (focus (simp; done)); exact kd7)
      | (apply o_mem; exact kc0; rfl; exact kc1)
      | apply w_ret
      | apply t_ret
      | (apply w_true; exact kc3)
      | fail)
    apply t_retT
    · simp [*]; rfl
    · simp [tru]
    · simp [tru, encB]
abbrev encT (b : Bool) : List D := [.bool b]
abbrev boolsL (s : List Bool) : D := .isl 1 (s.map encT)
@[simp high] theorem flat_bools (s : List Bool) : Flat (.isl 1 (s.map encT)) := .isl _ _ fun x hx d hd => by
  obtain ⟨b, _, rfl⟩ := List.mem_map.1 hx
  rw [List.mem_singleton.1 hd]
  exact .bool b
abbrev rqC (r : Rq) : List D := [.int .i64 r.endpoint, .int .i64 r.by_, .int .i64 r.kind, .bool r.creds, .bool r.heads, .bool r.forged, .int .i64 r.hops, intsL r.sent]
abbrev rqD (r : Rq) : D := .agg (rqC r)
abbrev rqsL (s : List Rq) : D := .isl 8 (s.map rqC)
abbrev stC (s : St) : List D := [.int .i64 s.doc, .bool s.owned, intsL s.jar, intsL s.changed, boolsL s.knows, boolsL s.stolen, boolsL s.ran, rqsL s.pending]
abbrev stD (s : St) : D := .agg (stC s)
/-- Lists, laid. -/
def flatN {α : Type} (f : α → List UInt8) (l : List α) (i : Nat) : List UInt8 := (l.drop i).flatMap f
theorem flatN_cons {α : Type} (f : α → List UInt8) (l : List α) (i : Nat) (h : i < l.length) : flatN f l i = f l[i] ++ flatN f l (i + 1) := by
  unfold flatN
  rw [List.drop_eq_getElem_cons h, List.flatMap_cons]
theorem flatN_end {α : Type} (f : α → List UInt8) (l : List α) (i : Nat) (h : l.length ≤ i) : flatN f l i = [] := by
  unfold flatN
  rw [List.drop_of_length_le h]
  rfl
theorem lay_flatN {α : Type} (f : α → List UInt8) (l : List α) : lay f l = num l.length ++ flatN f l 0 := rfl

theorem listInt_row (bs : List UInt8) (g : Nat) (l : List Int) (hn : ∀ n, n ∈ l → I64 n) (hl : l.length < 1501) (hb : bs.length + 10 * (l.length + 1) < 1000000000000) :
    CallsV L 43 [.slice 0 0 bs.length g, intsL l, .func (.func 41) [] []] (rowH 1 (bs.map encB) g) (Turns (.slice 0 0 (bs ++ lay num l).length (g + (lay num l).length)) (rowH 1 ((bs ++ lay num l).map encB) (g + (lay num l).length))) := by
  refine turns_of_body L_ok (fn := Try.f43) rfl rfl rfl rfl (by kernel_rfl) ?_
  have hlen := num_len (l.length : Int)
  repeat' (first
    | apply w_seq
    | apply w_region
    | apply o_end
    | apply t_normal
    | (apply o_val; exact kc0; exact kc2)
    | (apply o_turns; exact kc0; exact kc1; (focus (exact number_row bs g l.length (i64_len (by omega)) (by omega))))
    | apply w_block
    | fail)
  refine w_loop (fun m f H => ∃ (i : Nat) (bs' : List UInt8) (g' : Nat), i ≤ l.length ∧ m = l.length - i ∧ H = rowH 1 (bs'.map encB) g' ∧ f 0 = .slice 0 0 bs'.length g' ∧ bs'.length + 10 * (l.length - i) < 1000000000000 ∧
      bs' ++ flatN num l i = bs ++ lay num l ∧ g' + (flatN num l i).length = g + (lay num l).length ∧ f 2 = .func (.func 41) [] [] ∧ f 13 = intsL l ∧ f 14 = .int .i64 l.length ∧ f 15 = .int .i64 i) l.length
      ⟨0, bs ++ num l.length, g + (num l.length).length, by omega, rfl, rfl, by simp, by rw [List.length_append]; omega, by simp [lay_flatN], by simp [lay_flatN]; omega, by simp⟩ ?_
  rintro m f H ⟨i, bs', g', hi, rfl, rfl, hf0, hbn, hbs, hg, hf2, hf13, hf14, hf15⟩
  by_cases hlt : i < l.length
  · have hel := num_len l[i]
    rw [flatN_cons _ _ _ hlt] at hbs hg
    repeat' (first
      | apply w_seq
      | apply w_region
      | apply o_end
      | apply t_normal
      | (apply o_add; exact kc0; exact kc2; rfl; exact kc2; rfl; exact ke2)
      | (apply o_val; exact kc0; exact kc2)
      | (apply o_turns; exact kc0; exact kc1; (focus (exact number_row bs' g' l[i] (hn _ (List.getElem_mem _)) (by omega))))
      | apply w_skip
      | apply w_block
      | apply b_normal
      | (apply w_true; exact kc3)
      | fail)
    exact ⟨l.length - (i + 1), by omega, i + 1, bs' ++ num l[i], g' + (num l[i]).length, by omega, rfl, rfl, by simp, by rw [List.length_append]; omega, by simpa using hbs, by simp at hg ⊢; omega, by simp [*]⟩
  · rw [flatN_end _ _ _ (by omega)] at hbs hg
    repeat' (first
      | apply w_seq
      | apply w_region
      | apply o_end
      | apply t_normal
      | (apply o_val; exact kc0; exact kc2)
      | apply w_ret
      | apply w_exit
      | apply t_exit
      | apply b_here
      | (apply w_false; exact kc3)
      | fail)
    apply t_retT
    · simp [*]; rfl
    · rw [← hbs, ← hg]; simp
    · rw [← hbs, ← hg]; simp

theorem listBool_row (bs : List UInt8) (g : Nat) (l : List Bool)  (hl : l.length < 1501) (hb : bs.length + 10 * (l.length + 1) < 1000000000000) :
    CallsV L 44 [.slice 0 0 bs.length g, boolsL l, .func (.func 42) [] []] (rowH 1 (bs.map encB) g) (Turns (.slice 0 0 (bs ++ lay tru l).length (g + (lay tru l).length)) (rowH 1 ((bs ++ lay tru l).map encB) (g + (lay tru l).length))) := by
  refine turns_of_body L_ok (fn := Try.f44) rfl rfl rfl rfl (by kernel_rfl) ?_
  have hlen := num_len (l.length : Int)
  repeat' (first
    | apply w_seq
    | apply w_region
    | apply o_end
    | apply t_normal
    | (apply o_val; exact kc0; exact kc2)
    | (apply o_turns; exact kc0; exact kc1; (focus (exact number_row bs g l.length (i64_len (by omega)) (by omega))))
    | apply w_block
    | fail)
  refine w_loop (fun m f H => ∃ (i : Nat) (bs' : List UInt8) (g' : Nat), i ≤ l.length ∧ m = l.length - i ∧ H = rowH 1 (bs'.map encB) g' ∧ f 0 = .slice 0 0 bs'.length g' ∧ bs'.length + 10 * (l.length - i) < 1000000000000 ∧
      bs' ++ flatN tru l i = bs ++ lay tru l ∧ g' + (flatN tru l i).length = g + (lay tru l).length ∧ f 2 = .func (.func 42) [] [] ∧ f 13 = boolsL l ∧ f 14 = .int .i64 l.length ∧ f 15 = .int .i64 i) l.length
      ⟨0, bs ++ num l.length, g + (num l.length).length, by omega, rfl, rfl, by simp, by rw [List.length_append]; omega, by simp [lay_flatN], by simp [lay_flatN]; omega, by simp⟩ ?_
  rintro m f H ⟨i, bs', g', hi, rfl, rfl, hf0, hbn, hbs, hg, hf2, hf13, hf14, hf15⟩
  by_cases hlt : i < l.length
  · have hel := (show (tru l[i]).length ≤ 10 by simp [tru])
    rw [flatN_cons _ _ _ hlt] at hbs hg
    repeat' (first
      | apply w_seq
      | apply w_region
      | apply o_end
      | apply t_normal
      | (apply o_add; exact kc0; exact kc2; rfl; exact kc2; rfl; exact ke2)
      | (apply o_val; exact kc0; exact kc2)
      | (apply o_turns; exact kc0; exact kc1; (focus (exact truth_row bs' g' l[i] (by omega))))
      | apply w_skip
      | apply w_block
      | apply b_normal
      | (apply w_true; exact kc3)
      | fail)
    exact ⟨l.length - (i + 1), by omega, i + 1, bs' ++ tru l[i], g' + (tru l[i]).length, by omega, rfl, rfl, by simp, by rw [List.length_append]; omega, by simpa using hbs, by simp at hg ⊢; omega, by simp [*]⟩
  · rw [flatN_end _ _ _ (by omega)] at hbs hg
    repeat' (first
      | apply w_seq
      | apply w_region
      | apply o_end
      | apply t_normal
      | (apply o_val; exact kc0; exact kc2)
      | apply w_ret
      | apply w_exit
      | apply t_exit
      | apply b_here
      | (apply w_false; exact kc3)
      | fail)
    apply t_retT
    · simp [*]; rfl
    · rw [← hbs, ← hg]; simp
    · rw [← hbs, ← hg]; simp

theorem number_at (bs : List UInt8) {k g : Nat} (hk : k = bs.length) (n : Int) (hn : I64 n) (hb : bs.length < 1000000000000) : CallsV L 41 [.slice 0 0 k g, .int .i64 n] (rowH 1 (bs.map encB) g) (Turns (.slice 0 0 (bs ++ num n).length (g + (num n).length)) (rowH 1 ((bs ++ num n).map encB) (g + (num n).length))) := by
  subst hk
  exact number_row bs g n hn hb
theorem truth_at (bs : List UInt8) {k g : Nat} (hk : k = bs.length) (t : Bool) (hb : bs.length < 1000000000000) : CallsV L 42 [.slice 0 0 k g, .bool t] (rowH 1 (bs.map encB) g) (Turns (.slice 0 0 (bs ++ tru t).length (g + (tru t).length)) (rowH 1 ((bs ++ tru t).map encB) (g + (tru t).length))) := by
  subst hk
  exact truth_row bs g t hb
theorem listInt_at (bs : List UInt8) {k g : Nat} (hk : k = bs.length) (l : List Int) (hn : ∀ n, n ∈ l → I64 n) (hl : l.length < 1501) (hb : bs.length + 10 * (l.length + 1) < 1000000000000) : CallsV L 43 [.slice 0 0 k g, intsL l, .func (.func 41) [] []] (rowH 1 (bs.map encB) g) (Turns (.slice 0 0 (bs ++ lay num l).length (g + (lay num l).length)) (rowH 1 ((bs ++ lay num l).map encB) (g + (lay num l).length))) := by
  subst hk
  exact listInt_row bs g l hn hl hb
theorem listBool_at (bs : List UInt8) {k g : Nat} (hk : k = bs.length) (l : List Bool) (hl : l.length < 1501) (hb : bs.length + 10 * (l.length + 1) < 1000000000000) : CallsV L 44 [.slice 0 0 k g, boolsL l, .func (.func 42) [] []] (rowH 1 (bs.map encB) g) (Turns (.slice 0 0 (bs ++ lay tru l).length (g + (lay tru l).length)) (rowH 1 ((bs ++ lay tru l).map encB) (g + (lay tru l).length))) := by
  subst hk
  exact listBool_row bs g l hl hb

theorem flat_len_le {α : Type} {f : α → List UInt8} {k : Nat} : ∀ {l : List α}, (∀ a, a ∈ l → (f a).length ≤ k) → (l.flatMap f).length ≤ k * l.length
  | [], _ => by simp
  | a :: l, h => by
    have h1 := h a (List.mem_cons_self ..)
    have h2 := flat_len_le (l := l) fun a ha => h a (List.mem_cons_of_mem _ ha)
    simp only [List.flatMap_cons, List.length_append, List.length_cons, Nat.mul_add, Nat.mul_one]
    omega
theorem lay_len_le {α : Type} {f : α → List UInt8} {k : Nat} {l : List α} (h : ∀ a, a ∈ l → (f a).length ≤ k) : (lay f l).length ≤ 10 + k * l.length := by
  have h1 := num_len (l.length : Int)
  have h2 := flat_len_le h
  simp only [lay, List.length_append]
  omega
theorem tru_len (b : Bool) : (tru b).length = 1 := rfl
theorem rqB_len {r : Rq} (h : r.In) : (rqB r).length ≤ 20000 := by
  have h1 := num_len r.endpoint
  have h2 := num_len r.by_
  have h3 := num_len r.kind
  have h4 := num_len r.hops
  have h5 := lay_len_le (l := r.sent) fun n _ => num_len n
  have h6 := h.len
  simp only [rqB, List.length_append, tru_len]
  omega
theorem request_row (bs : List UInt8) (g : Nat) (r : Rq) (hr : r.In) (hb : bs.length + 30000 < 1000000000000) :
    CallsV L 46 [.slice 0 0 bs.length g, rqD r] (rowH 1 (bs.map encB) g) (Turns (.slice 0 0 (bs ++ rqB r).length (g + (rqB r).length)) (rowH 1 ((bs ++ rqB r).map encB) (g + (rqB r).length))) := by
  refine turns_of_body L_ok (fn := Try.f46) rfl rfl rfl rfl (by kernel_rfl) ?_
  repeat' (first
    | apply w_seq
    | apply w_region
    | apply o_end
    | apply t_normal
    | (apply o_val; exact kc0; exact kc2)
    | (apply o_var; exact kc0; exact kc1; (focus (simp; done)); exact kd7)
    | (apply o_lit; exact kc0; exact kc1; (focus (simp; done)); exact kd7)
    | apply w_block
    | fail)
  obtain ⟨l, hl⟩ : ∃ l, l = [r.endpoint, r.by_, r.kind, r.hops] := ⟨_, rfl⟩
  have hll : l.length = 4 := by rw [hl]; rfl
  have hln : ∀ n, n ∈ l → I64 n := fun n hn => by
    rw [hl] at hn
    simp only [List.mem_cons, List.not_mem_nil, or_false] at hn
    rcases hn with rfl | rfl | rfl | rfl
    · exact hr.endpoint
    · exact hr.by_
    · exact hr.kind
    · exact hr.hops
  have hB : rqB r = flatN num l 0 ++ (tru r.creds ++ (tru r.heads ++ (tru r.forged ++ lay num r.sent))) := by
    rw [hl]
    simp [rqB, flatN]
  have hI : ([[.int .i64 r.endpoint], [.int .i64 r.by_], [.int .i64 r.kind], [.int .i64 r.hops]] : List (List D)) = l.map encI := by rw [hl]; rfl
  rw [hB, hI]
  refine w_loop (fun m f H => ∃ (i : Nat) (bs' : List UInt8) (g' : Nat), i ≤ 4 ∧ m = 4 - i ∧ H = rowH 1 (bs'.map encB) g' ∧ f 0 = .slice 0 0 bs'.length g' ∧ bs'.length + 10 * (4 - i) ≤ bs.length + 40 ∧
      bs' ++ flatN num l i = bs ++ flatN num l 0 ∧ g' + (flatN num l i).length = g + (flatN num l 0).length ∧ f 3 = .box (rqC r) ∧ f 15 = intsL l ∧ f 16 = .int .i64 4 ∧ f 17 = .int .i64 i) 4
      ⟨0, bs, g, by omega, rfl, rfl, by simp, by omega, rfl, rfl, by simp⟩ ?_
  rintro m f H ⟨i, bs', g', hi, rfl, rfl, hf0, hbn, hbs, hg, hf3, hf15, hf16, hf17⟩
  clear hI hl hB
  by_cases hlt : i < 4
  · have hlt' : (i : Int) < 4 := by omega
    have hel := num_len (l[i]'(by omega))
    rw [flatN_cons _ _ _ (by omega)] at hbs hg
    repeat' (first
      | apply w_seq
      | apply w_region
      | apply o_end
      | apply t_normal
      | (apply o_add; exact kc0; exact kc2; rfl; exact kc2; rfl; exact ke2)
      | (apply o_val; exact kc0; exact kc2)
      | (apply o_turns; exact kc0; exact kc1; (focus (exact number_row bs' g' (l[i]'(by omega)) (hln _ (List.getElem_mem _)) (by omega))))
      | apply w_skip
      | apply w_block
      | apply b_normal
      | (apply w_true; exact kc3)
      | fail)
    exact ⟨4 - (i + 1), by omega, i + 1, bs' ++ num (l[i]'(by omega)), g' + (num (l[i]'(by omega))).length, by omega, rfl, rfl, by simp, by rw [List.length_append]; omega, by simpa using hbs, by simp at hg ⊢; omega, by simp [*]⟩
  · have hlt' : ¬ (i : Int) < 4 := by omega
    rw [flatN_end _ _ _ (by omega)] at hbs hg
    rw [List.append_nil] at hbs
    simp only [List.length_nil, Nat.add_zero] at hg
    have hsl := lay_len_le (l := r.sent) fun n _ => num_len n
    have hsl2 := hr.len
    have hsn := hr.sent
    subst hbs hg
    have hpl : (flatN num l 0).length ≤ 40 := by
      simp only [List.length_append] at hbn
      omega
    clear hbn
    generalize flatN num l 0 = p at *
    repeat' (first
      | apply w_seq
      | apply w_region
      | apply o_end
      | apply t_normal
      | (apply o_val; exact kc0; exact kc2)
      | apply w_ret
      | apply w_exit
      | apply t_exit
      | apply b_here
      | (apply w_false; exact kc3)
      | (apply w_drawA; rfl; exact ke3; exact kc4; exact kc4)
      | (apply a_end; exact kc4)
      | (apply a_val; exact kc4; exact kc5; exact kd9; exact kc6)
      | (apply a_turns; exact kc4; exact kc5; exact kd8; (focus (exact truth_at (bs ++ p) (by simp) r.creds (by simp; omega))); exact kc7; exact kc6; exact kc4)
      | (apply a_turns; exact kc4; exact kc5; exact kd8; (focus (exact truth_at (bs ++ p ++ tru r.creds) (by simp) r.heads (by simp [tru_len]; omega))); exact kc7; exact kc6; exact kc4)
      | (apply a_turns; exact kc4; exact kc5; exact kd8; (focus (exact truth_at (bs ++ p ++ tru r.creds ++ tru r.heads) (by simp) r.forged (by simp [tru_len]; omega))); exact kc7; exact kc6; exact kc4)
      | (apply a_turns; exact kc4; exact kc5; exact kd8; (focus (exact listInt_at (bs ++ p ++ tru r.creds ++ tru r.heads ++ tru r.forged) (by simp) r.sent hsn (by omega) (by simp [tru_len]; omega))); exact kc7; exact kc6; exact kc4)
      | fail)
    apply t_retT
    · simp [*]; rfl
    · simp; omega
    · simp; omega
theorem request_at (bs : List UInt8) {k g : Nat} (hk : k = bs.length) (r : Rq) (hr : r.In) (hb : bs.length + 30000 < 1000000000000) : CallsV L 46 [.slice 0 0 k g, rqD r] (rowH 1 (bs.map encB) g) (Turns (.slice 0 0 (bs ++ rqB r).length (g + (rqB r).length)) (rowH 1 ((bs ++ rqB r).map encB) (g + (rqB r).length))) := by
  subst hk
  exact request_row bs g r hr hb

theorem listRq_row (bs : List UInt8) (g : Nat) (l : List Rq) (hr : ∀ r, r ∈ l → r.In) (hl : l.length < 1501) (hb : bs.length + 20000 * (l.length + 1) + 100000 < 1000000000000) :
    CallsV L 45 [.slice 0 0 bs.length g, rqsL l, .func (.func 46) [] []] (rowH 1 (bs.map encB) g) (Turns (.slice 0 0 (bs ++ lay rqB l).length (g + (lay rqB l).length)) (rowH 1 ((bs ++ lay rqB l).map encB) (g + (lay rqB l).length))) := by
  refine turns_of_body L_ok (fn := Try.f45) rfl rfl rfl rfl (by kernel_rfl) ?_
  have hlen := num_len (l.length : Int)
  repeat' (first
    | apply w_seq
    | apply w_region
    | apply o_end
    | apply t_normal
    | (apply o_val; exact kc0; exact kc2)
    | (apply o_turns; exact kc0; exact kc1; (focus (exact number_row bs g l.length (i64_len (by omega)) (by omega))))
    | apply w_block
    | fail)
  refine w_loop (fun m f H => ∃ (i : Nat) (bs' : List UInt8) (g' : Nat), i ≤ l.length ∧ m = l.length - i ∧ H = rowH 1 (bs'.map encB) g' ∧ f 0 = .slice 0 0 bs'.length g' ∧ bs'.length + 20000 * (l.length - i) + 50000 < 1000000000000 ∧
      bs' ++ flatN rqB l i = bs ++ lay rqB l ∧ g' + (flatN rqB l i).length = g + (lay rqB l).length ∧ f 2 = .func (.func 46) [] [] ∧ f 13 = rqsL l ∧ f 14 = .int .i64 l.length ∧ f 15 = .int .i64 i) l.length
      ⟨0, bs ++ num l.length, g + (num l.length).length, by omega, rfl, rfl, by simp, by rw [List.length_append]; omega, by simp [lay_flatN], by simp [lay_flatN]; omega, by simp⟩ ?_
  rintro m f H ⟨i, bs', g', hi, rfl, rfl, hf0, hbn, hbs, hg, hf2, hf13, hf14, hf15⟩
  by_cases hlt : i < l.length
  · have hri := hr _ (List.getElem_mem hlt)
    have hel := rqB_len hri
    clear hr
    rw [flatN_cons _ _ _ hlt] at hbs hg
    repeat' (first
      | apply w_seq
      | apply w_region
      | apply o_end
      | apply t_normal
      | (apply o_add; exact kc0; exact kc2; rfl; exact kc2; rfl; exact ke2)
      | (apply o_val; exact kc0; exact kc2)
      | (apply o_fuse; exact kc0; rfl; (focus (simp [*]; first | rfl | exact ⟨rfl, rfl⟩)); exact kc0; rfl; (focus (simp [*]; first | rfl | exact ⟨rfl, rfl⟩ | exact ⟨rfl, rfl, rfl⟩)); (focus (intro d hd; apply Under.flat; revert hd; revert d; simp; done)))
      | (apply o_turns; exact kc0; exact kc1; (focus (exact request_at bs' rfl l[i] hri (by omega))))
      | apply w_skip
      | apply w_block
      | apply b_normal
      | (apply w_true; exact kc3)
      | fail)
    exact ⟨l.length - (i + 1), by omega, i + 1, bs' ++ rqB l[i], g' + (rqB l[i]).length, by omega, rfl, rfl, by simp, by rw [List.length_append]; omega, by simpa using hbs, by simp at hg ⊢; omega, by simp [*]⟩
  · rw [flatN_end _ _ _ (by omega)] at hbs hg
    repeat' (first
      | apply w_seq
      | apply w_region
      | apply o_end
      | apply t_normal
      | (apply o_val; exact kc0; exact kc2)
      | apply w_ret
      | apply w_exit
      | apply t_exit
      | apply b_here
      | (apply w_false; exact kc3)
      | fail)
    apply t_retT
    · simp [*]; rfl
    · rw [← hbs, ← hg]; simp
    · rw [← hbs, ← hg]; simp
theorem listRq_at (bs : List UInt8) {k g : Nat} (hk : k = bs.length) (l : List Rq) (hr : ∀ r, r ∈ l → r.In) (hl : l.length < 1501) (hb : bs.length + 20000 * (l.length + 1) + 100000 < 1000000000000) : CallsV L 45 [.slice 0 0 k g, rqsL l, .func (.func 46) [] []] (rowH 1 (bs.map encB) g) (Turns (.slice 0 0 (bs ++ lay rqB l).length (g + (lay rqB l).length)) (rowH 1 ((bs ++ lay rqB l).map encB) (g + (lay rqB l).length))) := by
  subst hk
  exact listRq_row bs g l hr hl hb

theorem numB_flat (bs : List UInt8) : ∀ x, x ∈ bs.map encB → ∀ d, d ∈ x → Flat d := by simp
theorem Number_ok (n : Int) (hn : I64 n) : Ans L 15 [.int .i64 n] (bytesL (num n)) := by
  refine ans_of_row (gn := (num n).length) ?_ (numB_flat _)
  refine turns_of_body L_ok (fn := Try.f15) rfl rfl rfl rfl (by kernel_rfl) ?_
  repeat' (first
    | apply w_seq
    | apply w_region
    | apply o_end
    | apply t_normal
    | (apply o_val; exact kc0; exact kc2)
    | (apply o_turns; exact kc0; exact kc1; (focus (exact number_nil n hn)))
    | apply w_ret
    | fail)
  apply t_retT
  · simp [*]; rfl
  · simp [rowS]
  · rfl
theorem request_nil (r : Rq) (hr : r.In) : CallsV L 46 [.nilsl, rqD r] [] (Turns (.slice 0 0 (rqB r).length (rqB r).length) (rowH 1 ((rqB r).map encB) (rqB r).length)) := by
  refine turns_of_body L_ok (fn := Try.f46) rfl rfl rfl rfl (by kernel_rfl) ?_
  have b0 := hr.endpoint
  have b1 := hr.by_
  have b2 := hr.kind
  have b3 := hr.hops
  have l0 := num_len r.endpoint
  have l1 := num_len r.by_
  have l2 := num_len r.kind
  have l3 := num_len r.hops
  have hsl := lay_len_le (l := r.sent) fun n _ => num_len n
  have hsl2 := hr.len
  have hsn := hr.sent
  repeat' (first
    | apply w_seq
    | apply w_region
    | apply o_end
    | apply t_normal
    | (apply o_val; exact kc0; exact kc2)
    | (apply o_var; exact kc0; exact kc1; (focus (simp; done)); exact kd7)
    | (apply o_lit; exact kc0; exact kc1; (focus (simp; done)); exact kd7)
    | apply w_block
    | fail)
  (try apply loop_is); refine loop_unfold ?_
  repeat' (first
    | apply w_seq
    | apply w_region
    | apply o_end
    | apply t_normal
    | (apply o_add; exact kc0; exact kc2; rfl; exact kc2; rfl; exact ke2)
    | (apply o_val; exact kc0; exact kc2)
    | (apply o_turns; exact kc0; exact kc1; (focus (exact number_nil r.endpoint b0)))
    | apply w_skip
    | apply w_block
    | apply b_normal
    | (apply w_true; exact kc3)
    | fail)
  (try apply loop_is); refine loop_unfold ?_
  repeat' (first
    | apply w_seq
    | apply w_region
    | apply o_end
    | apply t_normal
    | (apply o_add; exact kc0; exact kc2; rfl; exact kc2; rfl; exact ke2)
    | (apply o_val; exact kc0; exact kc2)
    | (apply o_turns; exact kc0; exact kc1; (focus (exact number_at (num r.endpoint) (by simp) r.by_ b1 (by omega))))
    | apply w_skip
    | apply w_block
    | apply b_normal
    | (apply w_true; exact kc3)
    | fail)
  (try apply loop_is); refine loop_unfold ?_
  repeat' (first
    | apply w_seq
    | apply w_region
    | apply o_end
    | apply t_normal
    | (apply o_add; exact kc0; exact kc2; rfl; exact kc2; rfl; exact ke2)
    | (apply o_val; exact kc0; exact kc2)
    | (apply o_turns; exact kc0; exact kc1; (focus (exact number_at (num r.endpoint ++ num r.by_) (by simp) r.kind b2 (by simp; omega))))
    | apply w_skip
    | apply w_block
    | apply b_normal
    | (apply w_true; exact kc3)
    | fail)
  (try apply loop_is); refine loop_unfold ?_
  repeat' (first
    | apply w_seq
    | apply w_region
    | apply o_end
    | apply t_normal
    | (apply o_add; exact kc0; exact kc2; rfl; exact kc2; rfl; exact ke2)
    | (apply o_val; exact kc0; exact kc2)
    | (apply o_turns; exact kc0; exact kc1; (focus (exact number_at (num r.endpoint ++ num r.by_ ++ num r.kind) (by simp) r.hops b3 (by simp; omega))))
    | apply w_skip
    | apply w_block
    | apply b_normal
    | (apply w_true; exact kc3)
    | fail)
  (try apply loop_is); refine loop_unfold ?_
  have hB : rqB r = (num r.endpoint ++ num r.by_ ++ num r.kind ++ num r.hops) ++ (tru r.creds ++ (tru r.heads ++ (tru r.forged ++ lay num r.sent))) := by simp [rqB]
  have hpl : (num r.endpoint ++ num r.by_ ++ num r.kind ++ num r.hops).length ≤ 40 := by simp; omega
  rw [hB]
  clear hB
  have hpq : (num r.endpoint ++ num r.by_ ++ num r.kind ++ num r.hops).length = (num r.endpoint).length + (num r.by_).length + (num r.kind).length + (num r.hops).length := by simp; omega
  generalize num r.endpoint ++ num r.by_ ++ num r.kind ++ num r.hops = p at *
  repeat' (first
    | apply w_seq
    | apply w_region
    | apply o_end
    | apply t_normal
    | (apply o_val; exact kc0; exact kc2)
    | apply w_ret
    | apply w_exit
    | apply t_exit
    | apply b_here
    | (apply w_false; exact kc3)
    | (apply w_drawA; rfl; exact ke3; exact kc4; exact kc4)
    | (apply a_end; exact kc4)
    | (apply a_val; exact kc4; exact kc5; exact kd9; exact kc6)
    | (apply a_turns; exact kc4; exact kc5; exact kd8; (focus (exact truth_at p (by (try simp only [List.length_append]); omega) r.creds (by omega))); exact kc7; exact kc6; exact kc4)
    | (apply a_turns; exact kc4; exact kc5; exact kd8; (focus (exact truth_at (p ++ tru r.creds) (by (try simp only [List.length_append]); omega) r.heads (by simp [tru_len]; omega))); exact kc7; exact kc6; exact kc4)
    | (apply a_turns; exact kc4; exact kc5; exact kd8; (focus (exact truth_at (p ++ tru r.creds ++ tru r.heads) (by (try simp only [List.length_append]); omega) r.forged (by simp [tru_len]; omega))); exact kc7; exact kc6; exact kc4)
    | (apply a_turns; exact kc4; exact kc5; exact kd8; (focus (exact listInt_at (p ++ tru r.creds ++ tru r.heads ++ tru r.forged) (by (try simp only [List.length_append]); omega) r.sent hsn (by omega) (by simp [tru_len]; omega))); exact kc7; exact kc6; exact kc4)
    | fail)
  apply t_retT
  · simp [*]; rfl
  · simp; omega
  · simp; omega
theorem St.lens {s : St} (h : s.In) : (lay num s.jar).length ≤ 20000 ∧ (lay num s.changed).length ≤ 20000 ∧ (lay tru s.knows).length ≤ 20000 ∧ (lay tru s.stolen).length ≤ 20000 ∧ (lay tru s.ran).length ≤ 20000 := by
  have h1 := lay_len_le (l := s.jar) fun n _ => num_len n
  have h2 := lay_len_le (l := s.changed) fun n _ => num_len n
  have h3 := lay_len_le (l := s.knows) fun b _ => Nat.le_of_eq (tru_len b)
  have h4 := lay_len_le (l := s.stolen) fun b _ => Nat.le_of_eq (tru_len b)
  have h5 := lay_len_le (l := s.ran) fun b _ => Nat.le_of_eq (tru_len b)
  have := h.jarL
  have := h.changedL
  have := h.knowsL
  have := h.stolenL
  have := h.ranL
  omega
theorem State_ok (s : St) (hs : s.In) : Ans L 16 [stD s] (bytesL (stB s)) := by
  refine ans_of_row (gn := (stB s).length) ?_ (numB_flat _)
  refine turns_of_body L_ok (fn := Try.f16) rfl rfl rfl rfl (by kernel_rfl) ?_
  have l0 := num_len s.doc
  obtain ⟨l1, l2, l3, l4, l5⟩ := St.lens hs
  have b0 := hs.doc
  have b1 := hs.jar
  have b2 := hs.changed
  have b3 := hs.pending
  have n1 := hs.jarL
  have n2 := hs.changedL
  have n3 := hs.knowsL
  have n4 := hs.stolenL
  have n5 := hs.ranL
  have n6 := hs.pendingL
  clear hs
  repeat' (first
    | apply w_seq
    | apply w_region
    | apply o_end
    | apply t_normal
    | (apply o_val; exact kc0; exact kc2)
    | (apply o_var; exact kc0; exact kc1; (focus (simp; done)); exact kd7)
    | (apply o_turns; exact kc0; exact kc1; (focus (exact listRq_at (num s.doc ++ tru s.owned ++ lay num s.jar ++ lay num s.changed ++ lay tru s.knows ++ lay tru s.stolen ++ lay tru s.ran) (by simp) s.pending b3 n6 (by simp [tru_len]; omega))))
    | apply w_ret
    | (apply w_drawA; rfl; exact ke3; exact kc4; exact kc4)
    | (apply a_end; exact kc4)
    | (apply a_val; exact kc4; exact kc5; exact kd9; exact kc6)
    | (apply a_turns; exact kc4; exact kc5; exact kd8; (focus (exact number_nil s.doc b0)); exact kc7; exact kc6; exact kc4)
    | (apply a_turns; exact kc4; exact kc5; exact kd8; (focus (exact truth_at (num s.doc) (by simp) s.owned (by omega))); exact kc7; exact kc6; exact kc4)
    | (apply a_turns; exact kc4; exact kc5; exact kd8; (focus (exact listInt_at (num s.doc ++ tru s.owned) (by simp) s.jar b1 n1 (by simp [tru_len]; omega))); exact kc7; exact kc6; exact kc4)
    | (apply a_turns; exact kc4; exact kc5; exact kd8; (focus (exact listInt_at (num s.doc ++ tru s.owned ++ lay num s.jar) (by simp) s.changed b2 n2 (by simp [tru_len]; omega))); exact kc7; exact kc6; exact kc4)
    | (apply a_turns; exact kc4; exact kc5; exact kd8; (focus (exact listBool_at (num s.doc ++ tru s.owned ++ lay num s.jar ++ lay num s.changed) (by simp) s.knows n3 (by simp [tru_len]; omega))); exact kc7; exact kc6; exact kc4)
    | (apply a_turns; exact kc4; exact kc5; exact kd8; (focus (exact listBool_at (num s.doc ++ tru s.owned ++ lay num s.jar ++ lay num s.changed ++ lay tru s.knows) (by simp) s.stolen n4 (by simp [tru_len]; omega))); exact kc7; exact kc6; exact kc4)
    | (apply a_turns; exact kc4; exact kc5; exact kd8; (focus (exact listBool_at (num s.doc ++ tru s.owned ++ lay num s.jar ++ lay num s.changed ++ lay tru s.knows ++ lay tru s.stolen) (by simp) s.ran n5 (by simp [tru_len]; omega))); exact kc7; exact kc6; exact kc4)
    | fail)
  apply t_retT
  · simp [*]; rfl
  · simp [stB, rowS]; omega
  · simp [stB]; omega
theorem Request_ok (r : Rq) (hr : r.In) : Ans L 20 [rqD r] (bytesL (rqB r)) := by
  refine ans_of_row (gn := (rqB r).length) ?_ (numB_flat _)
  refine turns_of_body L_ok (fn := Try.f20) rfl rfl rfl rfl (by kernel_rfl) ?_
  repeat' (first
    | apply w_seq
    | apply w_region
    | apply o_end
    | apply t_normal
    | (apply o_val; exact kc0; exact kc2)
    | (apply o_var; exact kc0; exact kc1; (focus (simp; done)); exact kd7)
    | (apply o_turns; exact kc0; exact kc1; (focus (exact request_nil r hr)))
    | apply w_ret
    | fail)
  apply t_retT
  · simp [*]; rfl
  · simp [rowS]
  · rfl
end Go.Proofs.Ytejpgmemohchaaa.Vm
