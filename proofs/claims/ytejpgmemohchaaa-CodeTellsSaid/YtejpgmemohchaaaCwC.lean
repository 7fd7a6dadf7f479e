/- Walks: code.Less; the document's writer. -/
import Derived.Test.YtejpgmemohchaaaVmZ
import Derived.Test.YtejpgmemohchaaaCwB
set_option linter.unusedSimpArgs false
set_option maxRecDepth 100000
set_option maxHeartbeats 4000000
namespace Go.Proofs.Ytejpgmemohchaaa.Vm
open Go
attribute [local irreducible] wpD opsD thenD blockD planD planA
attribute [local simp] List.take_of_length_le List.drop_of_length_le num_ne

theorem Compare_ext {H : Heap} {x y : D} {xs ys : List (List D)} {a b : List UInt8} (hx : elemsS H 1 x = some xs) (ha : bytesD xs = some a) (hy : elemsS H 1 y = some ys) (hb : bytesD ys = some b) :
    ExtV L 48 [x, y] H (.int .i64 (Lib.compareBytes a b)) :=
  cmp_ext (fn := Try.f48) rfl rfl rfl (by kernel_rfl) (by kernel_rfl) hx ha hy hb
theorem bytesD_encB (a : List UInt8) : bytesD (a.map encB) = some a := bytesD_map a
theorem Compare_ok (a b : List UInt8) : Ans L 40 [bytesL a, bytesL b] (.int .i64 (Lib.compareBytes a b)) := by
  refine fn_of_body L_ok (fn := Try.f40) rfl rfl rfl rfl (by kernel_rfl) ?_
  repeat' (first
    | apply w_seq
    | apply w_region
    | apply o_end
    | apply t_normal
    | (apply o_val; exact kc0; exact kc2)
    | (apply o_ext; exact kc0; exact kc1; (focus (exact Compare_ext (a := a) (b := b) rfl (bytesD_map a) rfl (bytesD_map b))))
    | (apply f_retf; exact kc2; (focus (simp; done)); exact kc3)
    | apply w_ret
    | fail)
theorem Less_ok (a b : List UInt8) : Ans L 14 [bytesL a, bytesL b] (.bool (decide (Lib.compareBytes a b < 0))) := by
  refine fn_of_body L_ok (fn := Try.f14) rfl rfl rfl rfl (by kernel_rfl) ?_
  repeat' (first
    | apply w_seq
    | apply w_region
    | apply o_end
    | apply t_normal
    | (apply o_val; exact kc0; exact kc2)
    | (apply o_fn fine; exact kc0; exact kc1; (focus (exact Compare_ok a b)); exact kc3)
    | (apply f_retf; exact kc2; (focus (simp; done)); exact kc3)
    | apply w_ret
    | fail)

theorem u64_ref_neg {n : Int} (hn : I64 n) (h : n < 0) : IntKind.u64.wrap ↑((IntKind.u64.wrap (IntKind.u64.wrap (IntKind.i64.wrap (-(n + 1))) * 2 ^ min 1 IntKind.u64.bits) % 2 ^ IntKind.u64.bits).toNat ||| 1 % 2 ^ IntKind.u64.bits) = (zz n : Int) := by
  unfold I64 at hn
  rw [wrap_i64 (by omega) (by omega)]
  have e : (IntKind.u64.wrap (IntKind.u64.wrap (-(n + 1)) * 2 ^ min 1 IntKind.u64.bits) % 2 ^ IntKind.u64.bits).toNat = 2 * (-n - 1).toNat := by
    rw [show min 1 IntKind.u64.bits = 1 from rfl, wrap_u64, wrap_u64, show (2 : Int) ^ IntKind.u64.bits = 18446744073709551616 from rfl]
    omega
  rw [e, show 1 % 2 ^ IntKind.u64.bits = 1 from rfl, zz, if_neg (by omega), wrap_u64]
  have : 2 * (-n - 1).toNat ||| 1 = 2 * (-n - 1).toNat + 1 := by
    have := Nat.two_pow_add_eq_or_of_lt (i := 1) (b := 1) (by decide) (-n - 1).toNat
    simpa using this.symm
  rw [this]
  omega
theorem refNumber_ok (n : Int) (hn : I64 n) : CallsV L 19 [.int .i64 n] [] (Turns (.slice 0 0 (num n).length (num n).length) (rowH 1 ((num n).map encB) (num n).length)) := by
  refine turns_of_body L_ok (fn := Try.f19) rfl rfl rfl rfl (by kernel_rfl) ?_
  have hz := zz_lt hn
  have key : ∀ f : Fr, f 4 = .nilsl → f 3 = .int .u64 (zz n) → ∃ (k u : Nat) (bs' : List UInt8) (g' : Nat) (d : D) (xs : List (List D)), 10 = k ∧ 0 < k ∧ u < 2 ^ (7 * k) ∧ u < 18446744073709551616 ∧ bs'.length + k ≤ 1000000000010 ∧ f 4 = d ∧ xs = bs'.map encB ∧ Own1 1 [] d g' xs ∧
      bs' ++ grp k u = num n ∧ g' + (grp k u).length = (num n).length ∧ f 3 = .int .u64 (u : Nat) := fun f h0 h5 =>
    ⟨10, zz n, [], 0, .nilsl, [], rfl, by decide, Nat.lt_of_lt_of_le hz (by decide), hz, by simp, h0, rfl, .nil, rfl, by simp [num], h5⟩
  by_cases h0 : 0 ≤ n
  · have h0' : ¬ n < 0 := by omega
    have e := u64_zz_pos hn h0
    repeat' (first
      | apply w_seq
      | apply w_region
      | apply o_end
      | apply t_normal
      | (apply o_val; exact kc0; exact kc2)
      | (apply o_mem; exact kc0; rfl; exact kc1)
      | apply w_skip
      | apply w_block
      | (apply w_false; exact kc3)
      | fail)
    refine w_loop (fun m f H => ∃ (k u : Nat) (bs' : List UInt8) (g' : Nat) (d : D) (xs : List (List D)), m = k ∧ 0 < k ∧ u < 2 ^ (7 * k) ∧ u < 18446744073709551616 ∧ bs'.length + k ≤ 1000000000010 ∧ f 4 = d ∧ xs = bs'.map encB ∧ Own1 1 H d g' xs ∧
      bs' ++ grp k u = num n ∧ g' + (grp k u).length = (num n).length ∧ f 3 = .int .u64 (u : Nat)) 10 (key _ (by simp) (by simp [*])) ?_
    clear key
    rintro m f H ⟨k, u, bs', g', d, xs, rfl, hk, hu, hu', hl, hf0, hx, own, hbs, hg, hf5⟩
    have hxl : xs.length = bs'.length := by rw [hx]; simp
    have e1 := or_byte u
    have e2 := shr7 u
    have b1 : bs'.length + 1 ≤ 140737488355328 := by omega
    obtain ⟨k, rfl⟩ : ∃ k, m = k + 1 := ⟨m - 1, by omega⟩
    by_cases hbig : 128 ≤ u
    · have hbig' : (128 : Int) ≤ (u : Int) := by omega
      have hk0 : 0 < k := by
        rcases Nat.eq_zero_or_pos k with h | h
        · subst h; simp at hu; omega
        · exact h
      have hu2 : u / 128 < 2 ^ (7 * k) := by
        rw [Nat.mul_add, Nat.pow_add] at hu
        omega
      rw [grp, if_neg (by omega)] at hbs hg
      have e3 : ((UInt8.ofNat (u % 128 + 128)).toNat : Int) = (u : Int) % 128 + 128 := by simp; omega
      have e4 : [D.int .u8 ((u : Int) % 128 + 128)] = encB (UInt8.ofNat (u % 128 + 128)) := by rw [encB, e3]
      rcases own with _ | ⟨g', xs⟩
      · obtain rfl : bs' = [] := by simpa using hx.symm
        clear hx hxl
        repeat' (first
          | apply w_seq
          | apply w_region
          | apply o_end
          | apply t_normal
          | (apply o_val; exact kc0; exact kc2)
          | (apply o_lit; exact kc0; exact kc1; (focus (simp; done)); exact kd7)
          | (apply o_mem; exact kc0; rfl; exact kc1)
          | apply w_skip
          | apply w_block
          | apply b_normal
          | (apply w_true; exact kc3)
          | fail)
        exact ⟨k, by omega, k, u / 128, [UInt8.ofNat (u % 128 + 128)], 1, rowS [encB (UInt8.ofNat (u % 128 + 128))] 1, [encB (UInt8.ofNat (u % 128 + 128))], rfl, hk0, hu2, by omega, by simp; omega, by simp, rfl, by simpa using Own1.row (sz := 1) 1 [encB (UInt8.ofNat (u % 128 + 128))], by simpa using hbs, by simp at hg ⊢; omega, by simp [*]⟩
      · subst hx
        repeat' (first
          | apply w_seq
          | apply w_region
          | apply o_end
          | apply t_normal
          | (apply o_val; exact kc0; exact kc2)
          | (apply o_lit; exact kc0; exact kc1; (focus (simp; done)); exact kd7)
          | (apply o_mem; exact kc0; rfl; exact kc1)
          | apply w_skip
          | apply w_block
          | apply b_normal
          | (apply w_true; exact kc3)
          | fail)
        exact ⟨k, by omega, k, u / 128, bs' ++ [UInt8.ofNat (u % 128 + 128)], g' + 1, rowS (bs'.map encB ++ [encB (UInt8.ofNat (u % 128 + 128))]) (g' + 1), bs'.map encB ++ [encB (UInt8.ofNat (u % 128 + 128))], rfl, hk0, hu2, by omega, by simp; omega, by simp, by simp, by simpa using Own1.row (sz := 1) (g' + 1) (bs'.map encB ++ [encB (UInt8.ofNat (u % 128 + 128))]), by simpa using hbs, by simp at hg ⊢; omega, by simp [*]⟩
    · have hbig' : ¬ (128 : Int) ≤ (u : Int) := by omega
      rw [grp, if_pos (by omega)] at hbs hg
      have e3 : IntKind.u8.wrap (u : Int) = ((UInt8.ofNat u).toNat : Int) := by rw [wrap_u8]; simp
      rcases own with _ | ⟨g', xs⟩
      · obtain rfl : bs' = [] := by simpa using hx.symm
        clear hx hxl
        repeat' (first
          | apply w_seq
          | apply w_region
          | apply o_end
          | apply t_normal
          | (apply o_val; exact kc0; exact kc2)
          | (apply o_lit; exact kc0; exact kc1; (focus (simp; done)); exact kd7)
          | (apply o_mem; exact kc0; rfl; exact kc1)
          | apply w_ret
          | apply w_exit
          | apply t_exit
          | apply b_here
          | (apply w_false; exact kc3)
          | fail)
        apply t_retT
        · simp [*]; rfl
        · rw [← hbs]; simp
        · rw [← hbs]; simp [encB]
      · subst hx
        repeat' (first
          | apply w_seq
          | apply w_region
          | apply o_end
          | apply t_normal
          | (apply o_val; exact kc0; exact kc2)
          | (apply o_lit; exact kc0; exact kc1; (focus (simp; done)); exact kd7)
          | (apply o_mem; exact kc0; rfl; exact kc1)
          | apply w_ret
          | apply w_exit
          | apply t_exit
          | apply b_here
          | (apply w_false; exact kc3)
          | fail)
        apply t_retT
        · simp [*]; rfl
        · obtain rfl : g' = bs'.length := by rw [← hbs] at hg; simp at hg; omega
          rw [← hbs]; simp
        · obtain rfl : g' = bs'.length := by rw [← hbs] at hg; simp at hg; omega
          rw [← hbs]; simp [encB]
  · have h0' : n < 0 := by omega
    have e := u64_ref_neg hn h0'
    unfold I64 at hn
    repeat' (first
      | apply w_seq
      | apply w_region
      | apply o_end
      | apply t_normal
      | (apply o_add; exact kc0; exact kc2; rfl; exact kc2; rfl; exact ke2)
      | (apply o_val; exact kc0; exact kc2)
      | (apply o_mem; exact kc0; rfl; exact kc1)
      | apply w_block
      | (apply w_true; exact kc3)
      | fail)
    refine w_loop (fun m f H => ∃ (k u : Nat) (bs' : List UInt8) (g' : Nat) (d : D) (xs : List (List D)), m = k ∧ 0 < k ∧ u < 2 ^ (7 * k) ∧ u < 18446744073709551616 ∧ bs'.length + k ≤ 1000000000010 ∧ f 4 = d ∧ xs = bs'.map encB ∧ Own1 1 H d g' xs ∧
      bs' ++ grp k u = num n ∧ g' + (grp k u).length = (num n).length ∧ f 3 = .int .u64 (u : Nat)) 10 (key _ (by simp) (by simp [*])) ?_
    clear key
    rintro m f H ⟨k, u, bs', g', d, xs, rfl, hk, hu, hu', hl, hf0, hx, own, hbs, hg, hf5⟩
    have hxl : xs.length = bs'.length := by rw [hx]; simp
    have e1 := or_byte u
    have e2 := shr7 u
    have b1 : bs'.length + 1 ≤ 140737488355328 := by omega
    obtain ⟨k, rfl⟩ : ∃ k, m = k + 1 := ⟨m - 1, by omega⟩
    by_cases hbig : 128 ≤ u
    · have hbig' : (128 : Int) ≤ (u : Int) := by omega
      have hk0 : 0 < k := by
        rcases Nat.eq_zero_or_pos k with h | h
        · subst h; simp at hu; omega
        · exact h
      have hu2 : u / 128 < 2 ^ (7 * k) := by
        rw [Nat.mul_add, Nat.pow_add] at hu
        omega
      rw [grp, if_neg (by omega)] at hbs hg
      have e3 : ((UInt8.ofNat (u % 128 + 128)).toNat : Int) = (u : Int) % 128 + 128 := by simp; omega
      have e4 : [D.int .u8 ((u : Int) % 128 + 128)] = encB (UInt8.ofNat (u % 128 + 128)) := by rw [encB, e3]
      rcases own with _ | ⟨g', xs⟩
      · obtain rfl : bs' = [] := by simpa using hx.symm
        clear hx hxl
        repeat' (first
          | apply w_seq
          | apply w_region
          | apply o_end
          | apply t_normal
          | (apply o_val; exact kc0; exact kc2)
          | (apply o_lit; exact kc0; exact kc1; (focus (simp; done)); exact kd7)
          | (apply o_mem; exact kc0; rfl; exact kc1)
          | apply w_skip
          | apply w_block
          | apply b_normal
          | (apply w_true; exact kc3)
          | fail)
        exact ⟨k, by omega, k, u / 128, [UInt8.ofNat (u % 128 + 128)], 1, rowS [encB (UInt8.ofNat (u % 128 + 128))] 1, [encB (UInt8.ofNat (u % 128 + 128))], rfl, hk0, hu2, by omega, by simp; omega, by simp, rfl, by simpa using Own1.row (sz := 1) 1 [encB (UInt8.ofNat (u % 128 + 128))], by simpa using hbs, by simp at hg ⊢; omega, by simp [*]⟩
      · subst hx
        repeat' (first
          | apply w_seq
          | apply w_region
          | apply o_end
          | apply t_normal
          | (apply o_val; exact kc0; exact kc2)
          | (apply o_lit; exact kc0; exact kc1; (focus (simp; done)); exact kd7)
          | (apply o_mem; exact kc0; rfl; exact kc1)
          | apply w_skip
          | apply w_block
          | apply b_normal
          | (apply w_true; exact kc3)
          | fail)
        exact ⟨k, by omega, k, u / 128, bs' ++ [UInt8.ofNat (u % 128 + 128)], g' + 1, rowS (bs'.map encB ++ [encB (UInt8.ofNat (u % 128 + 128))]) (g' + 1), bs'.map encB ++ [encB (UInt8.ofNat (u % 128 + 128))], rfl, hk0, hu2, by omega, by simp; omega, by simp, by simp, by simpa using Own1.row (sz := 1) (g' + 1) (bs'.map encB ++ [encB (UInt8.ofNat (u % 128 + 128))]), by simpa using hbs, by simp at hg ⊢; omega, by simp [*]⟩
    · have hbig' : ¬ (128 : Int) ≤ (u : Int) := by omega
      rw [grp, if_pos (by omega)] at hbs hg
      have e3 : IntKind.u8.wrap (u : Int) = ((UInt8.ofNat u).toNat : Int) := by rw [wrap_u8]; simp
      rcases own with _ | ⟨g', xs⟩
      · obtain rfl : bs' = [] := by simpa using hx.symm
        clear hx hxl
        repeat' (first
          | apply w_seq
          | apply w_region
          | apply o_end
          | apply t_normal
          | (apply o_val; exact kc0; exact kc2)
          | (apply o_lit; exact kc0; exact kc1; (focus (simp; done)); exact kd7)
          | (apply o_mem; exact kc0; rfl; exact kc1)
          | apply w_ret
          | apply w_exit
          | apply t_exit
          | apply b_here
          | (apply w_false; exact kc3)
          | fail)
        apply t_retT
        · simp [*]; rfl
        · rw [← hbs]; simp
        · rw [← hbs]; simp [encB]
      · subst hx
        repeat' (first
          | apply w_seq
          | apply w_region
          | apply o_end
          | apply t_normal
          | (apply o_val; exact kc0; exact kc2)
          | (apply o_lit; exact kc0; exact kc1; (focus (simp; done)); exact kd7)
          | (apply o_mem; exact kc0; rfl; exact kc1)
          | apply w_ret
          | apply w_exit
          | apply t_exit
          | apply b_here
          | (apply w_false; exact kc3)
          | fail)
        apply t_retT
        · simp [*]; rfl
        · obtain rfl : g' = bs'.length := by rw [← hbs] at hg; simp at hg; omega
          rw [← hbs]; simp
        · obtain rfl : g' = bs'.length := by rw [← hbs] at hg; simp at hg; omega
          rw [← hbs]; simp [encB]

theorem refNumberA (n : Int) (hn : I64 n) : Ans L 19 [.int .i64 n] (bytesL (num n)) := by
  refine ans_of_row (gn := (num n).length) ?_ (numB_flat _)
  simpa [rowS] using refNumber_ok n hn
theorem refTruth_at (bs : List UInt8) {k g : Nat} (hk : k = bs.length) (t : Bool) (hb : bs.length < 1000000000000) :
    CallsV L 38 [.slice 0 0 k g, .bool t] (rowH 1 (bs.map encB) g) (Turns (.slice 0 0 (bs ++ tru t).length (g + (tru t).length)) (rowH 1 ((bs ++ tru t).map encB) (g + (tru t).length))) := by
  subst hk
  refine turns_of_body L_ok (fn := Try.f38) rfl rfl rfl rfl (by kernel_rfl) ?_
  have b1 : bs.length + 1 ≤ 140737488355328 := by omega
  cases t
  · skip
    repeat' (first
      | apply w_seq
      | apply w_region
      | apply o_end
      | apply t_normal
      | (apply o_val; exact kc0; exact kc2)
      | (apply o_lit; exact kc0; exact kc1; (focus (simp; done)); exact kd7)
      | (apply o_mem; exact kc0; rfl; exact kc1)
      | apply w_skip
      | apply w_ret
      | (apply w_false; exact kc3)
      | fail)
    apply t_retT
    · simp [*]; rfl
    · simp [tru]
    · simp [tru, encB]
  · skip
    repeat' (first
      | apply w_seq
      | apply w_region
      | apply o_end
      | apply t_normal
      | (apply o_val; exact kc0; exact kc2)
      | (apply o_lit; exact kc0; exact kc1; (focus (simp; done)); exact kd7)
      | (apply o_mem; exact kc0; rfl; exact kc1)
      | apply w_ret
      | apply t_ret
      | (apply w_true; exact kc3)
      | fail)
    apply t_retT
    · simp [*]; rfl
    · simp [tru]
    · simp [tru, encB]
theorem refInts_at (bs : List UInt8) {k g : Nat} (hk : k = bs.length) (l : List Int) (hn : ∀ n, n ∈ l → I64 n) (hl : l.length < 1501) (hb : bs.length + 10 * (l.length + 1) < 1000000000000) :
    CallsV L 37 [.slice 0 0 k g, intsL l] (rowH 1 (bs.map encB) g) (Turns (.slice 0 0 (bs ++ lay num l).length (g + (lay num l).length)) (rowH 1 ((bs ++ lay num l).map encB) (g + (lay num l).length))) := by
  subst hk
  refine turns_of_body L_ok (fn := Try.f37) rfl rfl rfl rfl (by kernel_rfl) ?_
  have hlen := num_len (l.length : Int)
  have b1 : bs.length + (num (l.length : Int)).length ≤ 140737488355328 := by omega
  repeat' (first
    | apply w_seq
    | apply w_region
    | apply o_end
    | apply t_normal
    | (apply o_val; exact kc0; exact kc2)
    | (apply o_fn fine; exact kc0; exact kc1; (focus (exact refNumberA l.length (i64_len (by omega)))); exact kc3)
    | (apply o_mem; exact kc0; rfl; exact kc1)
    | apply w_block
    | fail)
  refine w_loop (fun m f H => ∃ (i : Nat) (bs' : List UInt8) (g' : Nat), i ≤ l.length ∧ m = l.length - i ∧ H = rowH 1 (bs'.map encB) g' ∧ f 0 = .slice 0 0 bs'.length g' ∧ bs'.length + 10 * (l.length - i) < 1000000000000 ∧
      bs' ++ flatN num l i = bs ++ lay num l ∧ g' + (flatN num l i).length = g + (lay num l).length ∧ f 1 = intsL l ∧ f 5 = .int .i64 i) l.length
      ⟨0, bs ++ num l.length, g + (num l.length).length, by omega, rfl, by simp, by simp, by rw [List.length_append]; omega, by simp [lay_flatN], by simp [lay_flatN]; omega, by simp⟩ ?_
  rintro m f H ⟨i, bs', g', hi, rfl, rfl, hf0, hbn, hbs, hg, hf1, hf5⟩
  by_cases hlt : i < l.length
  · have hel := num_len l[i]
    rw [flatN_cons _ _ _ hlt] at hbs hg
    have b2 : bs'.length + (num l[i]).length ≤ 140737488355328 := by omega
    repeat' (first
      | apply w_seq
      | apply w_region
      | apply o_end
      | apply t_normal
      | (apply o_add; exact kc0; exact kc2; rfl; exact kc2; rfl; exact ke2)
      | (apply o_val; exact kc0; exact kc2)
      | (apply o_fn fine; exact kc0; exact kc1; (focus (exact refNumberA l[i] (hn _ (List.getElem_mem _)))); exact kc3)
      | (apply o_mem; exact kc0; rfl; exact kc1)
      | apply w_skip
      | apply w_block
      | apply b_normal
      | (apply w_true; exact kc3)
      | fail)
    exact ⟨l.length - (i + 1), by omega, i + 1, bs' ++ num l[i], g' + (num l[i]).length, by omega, rfl, by simp, by simp, by rw [List.length_append]; omega, by simpa using hbs, by simp at hg ⊢; omega, by simp [*]⟩
  · rw [flatN_end _ _ _ (by omega)] at hbs hg
    repeat' (first
      | apply w_seq
      | apply w_region
      | apply o_end
      | apply t_normal
      | (apply o_val; exact kc0; exact kc2)
      | apply w_ret
      | apply w_exit
      | apply t_exit
      | apply b_here
      | (apply w_false; exact kc3)
      | fail)
    apply t_retT
    · simp [*]; rfl
    · rw [← hbs, ← hg]; simp
    · rw [← hbs, ← hg]; simp
theorem refTruths_at (bs : List UInt8) {k g : Nat} (hk : k = bs.length) (l : List Bool) (hl : l.length < 1501) (hb : bs.length + 10 * (l.length + 1) < 1000000000000) :
    CallsV L 39 [.slice 0 0 k g, boolsL l] (rowH 1 (bs.map encB) g) (Turns (.slice 0 0 (bs ++ lay tru l).length (g + (lay tru l).length)) (rowH 1 ((bs ++ lay tru l).map encB) (g + (lay tru l).length))) := by
  subst hk
  refine turns_of_body L_ok (fn := Try.f39) rfl rfl rfl rfl (by kernel_rfl) ?_
  have hlen := num_len (l.length : Int)
  have b1 : bs.length + (num (l.length : Int)).length ≤ 140737488355328 := by omega
  repeat' (first
    | apply w_seq
    | apply w_region
    | apply o_end
    | apply t_normal
    | (apply o_val; exact kc0; exact kc2)
    | (apply o_fn fine; exact kc0; exact kc1; (focus (exact refNumberA l.length (i64_len (by omega)))); exact kc3)
    | (apply o_mem; exact kc0; rfl; exact kc1)
    | apply w_block
    | fail)
  refine w_loop (fun m f H => ∃ (i : Nat) (bs' : List UInt8) (g' : Nat), i ≤ l.length ∧ m = l.length - i ∧ H = rowH 1 (bs'.map encB) g' ∧ f 0 = .slice 0 0 bs'.length g' ∧ bs'.length + 10 * (l.length - i) < 1000000000000 ∧
      bs' ++ flatN tru l i = bs ++ lay tru l ∧ g' + (flatN tru l i).length = g + (lay tru l).length ∧ f 1 = boolsL l ∧ f 5 = .int .i64 i) l.length
      ⟨0, bs ++ num l.length, g + (num l.length).length, by omega, rfl, by simp, by simp, by rw [List.length_append]; omega, by simp [lay_flatN], by simp [lay_flatN]; omega, by simp⟩ ?_
  rintro m f H ⟨i, bs', g', hi, rfl, rfl, hf0, hbn, hbs, hg, hf1, hf5⟩
  by_cases hlt : i < l.length
  · have hel := (show (tru l[i]).length ≤ 10 by simp [tru])
    rw [flatN_cons _ _ _ hlt] at hbs hg
    repeat' (first
      | apply w_seq
      | apply w_region
      | apply o_end
      | apply t_normal
      | (apply o_add; exact kc0; exact kc2; rfl; exact kc2; rfl; exact ke2)
      | (apply o_val; exact kc0; exact kc2)
      | (apply o_turns; exact kc0; exact kc1; (focus (exact refTruth_at bs' rfl l[i] (by omega))))
      | apply w_skip
      | apply w_block
      | apply b_normal
      | (apply w_true; exact kc3)
      | fail)
    exact ⟨l.length - (i + 1), by omega, i + 1, bs' ++ tru l[i], g' + (tru l[i]).length, by omega, rfl, by simp, by simp, by rw [List.length_append]; omega, by simpa using hbs, by simp at hg ⊢; omega, by simp [*]⟩
  · rw [flatN_end _ _ _ (by omega)] at hbs hg
    repeat' (first
      | apply w_seq
      | apply w_region
      | apply o_end
      | apply t_normal
      | (apply o_val; exact kc0; exact kc2)
      | apply w_ret
      | apply w_exit
      | apply t_exit
      | apply b_here
      | (apply w_false; exact kc3)
      | fail)
    apply t_retT
    · simp [*]; rfl
    · rw [← hbs, ← hg]; simp
    · rw [← hbs, ← hg]; simp
theorem refTruth_x (bs : List UInt8) {k g : Nat} {X : List (List D)} (hX : X = bs.map encB) (hk : k = bs.length) (t : Bool) (hb : bs.length < 1000000000000) :
    CallsV L 38 [.slice 0 0 k g, .bool t] (rowH 1 X g) (Turns (.slice 0 0 (bs ++ tru t).length (g + (tru t).length)) (rowH 1 ((bs ++ tru t).map encB) (g + (tru t).length))) := by
  subst hX
  exact refTruth_at bs hk t hb
section
attribute [local simp] Nat.add_assoc
theorem refRequest_ok (r : Rq) (hr : r.In) : CallsV L 21 [rqD r] [] (Turns (.slice 0 0 (rqB r).length (rqB r).length) (rowH 1 ((rqB r).map encB) (rqB r).length)) := by
  refine turns_of_body L_ok (fn := Try.f21) rfl rfl rfl rfl (by kernel_rfl) ?_
  have b0 := hr.endpoint
  have b1 := hr.by_
  have b2 := hr.kind
  have b3 := hr.hops
  have l0 := num_len r.endpoint
  have l1 := num_len r.by_
  have l2 := num_len r.kind
  have l3 := num_len r.hops
  have m1 : (num r.endpoint).length + (num r.by_).length ≤ 140737488355328 := by omega
  have m2 : (num r.endpoint).length + ((num r.by_).length + (num r.kind).length) ≤ 140737488355328 := by omega
  have m3 : (num r.endpoint).length + ((num r.by_).length + ((num r.kind).length + (num r.hops).length)) ≤ 140737488355328 := by omega
  have hsl := lay_len_le (l := r.sent) fun n _ => num_len n
  have hsl2 := hr.len
  have hsn := hr.sent
  repeat' (first
    | apply w_seq
    | apply w_region
    | apply o_end
    | apply t_normal
    | (apply o_val; exact kc0; exact kc2)
    | (apply o_var; exact kc0; exact kc1; (focus (simp; done)); exact kd7)
    | apply w_ret
    | (apply w_drawA; rfl; exact ke3; exact kc4; exact kc4)
    | (apply a_end; exact kc4)
    | (apply a_val; exact kc4; exact kc5; exact kd9; exact kc6)
    | (apply a_turns; exact kc4; exact kc5; exact kd8; (focus (exact refNumber_ok r.endpoint b0)); exact kc7; exact kc6; exact kc4)
    | (apply a_fn fine; exact kc4; exact kc5; exact kd8; (focus (exact refNumberA r.by_ b1)); exact kc3; exact kc6)
    | (apply a_fn fine; exact kc4; exact kc5; exact kd8; (focus (exact refNumberA r.kind b2)); exact kc3; exact kc6)
    | (apply a_fn fine; exact kc4; exact kc5; exact kd8; (focus (exact refNumberA r.hops b3)); exact kc3; exact kc6)
    | (apply a_turns; exact kc4; exact kc5; exact kd8; (focus (exact refTruth_x (num r.endpoint ++ num r.by_ ++ num r.kind ++ num r.hops) (by simp) (by simp <;> omega) r.creds (by simp <;> omega))); exact kc7; exact kc6; exact kc4)
    | (apply a_turns; exact kc4; exact kc5; exact kd8; (focus (exact refTruth_at (num r.endpoint ++ num r.by_ ++ num r.kind ++ num r.hops ++ tru r.creds) (by simp <;> omega) r.heads (by simp [tru_len] <;> omega))); exact kc7; exact kc6; exact kc4)
    | (apply a_turns; exact kc4; exact kc5; exact kd8; (focus (exact refTruth_at (num r.endpoint ++ num r.by_ ++ num r.kind ++ num r.hops ++ tru r.creds ++ tru r.heads) (by simp <;> omega) r.forged (by simp [tru_len] <;> omega))); exact kc7; exact kc6; exact kc4)
    | (apply a_turns; exact kc4; exact kc5; exact kd8; (focus (exact refInts_at (num r.endpoint ++ num r.by_ ++ num r.kind ++ num r.hops ++ tru r.creds ++ tru r.heads ++ tru r.forged) (by simp <;> omega) r.sent hsn (by omega) (by simp [tru_len] <;> omega))); exact kc7; exact kc6; exact kc4)
    | (apply a_mem; exact kc4; exact kc5; exact ke1; exact kd8; exact kc7; exact kc6; exact kc4)
    | fail)
  apply t_retT
  · simp [*]; rfl
  · simp [rqB] <;> omega
  · simp [rqB] <;> omega
end
theorem refTruths_to {bs p : List UInt8} {l : List Bool} (hp : p = bs ++ lay tru l) {k g : Nat} (hk : k = bs.length) (hg : p.length = g + (lay tru l).length) (hl : l.length < 1501) (hb : bs.length + 10 * (l.length + 1) < 1000000000000) :
    CallsV L 39 [.slice 0 0 k g, boolsL l] (rowH 1 (bs.map encB) g) (Turns (.slice 0 0 p.length p.length) (rowH 1 (p.map encB) p.length)) := by
  have h := refTruths_at bs (g := g) hk l hl hb
  rw [← hg, ← hp] at h
  exact h
theorem refRequestA (r : Rq) (hr : r.In) : Ans L 21 [rqD r] (bytesL (rqB r)) := by
  refine ans_of_row (gn := (rqB r).length) ?_ (numB_flat _)
  simpa [rowS] using refRequest_ok r hr
theorem refState_ok (s : St) (hs : s.In) : Ans L 13 [stD s] (bytesL (stB s)) := by
  refine ans_of_row (gn := (stB s).length) ?_ (numB_flat _)
  refine turns_of_body L_ok (fn := Try.f13) rfl rfl rfl rfl (by kernel_rfl) ?_
  have l0 := num_len s.doc
  obtain ⟨l1, l2, l3, l4, l5⟩ := St.lens hs
  have b0 := hs.doc
  have b1 := hs.jar
  have b2 := hs.changed
  have b3 := hs.pending
  have n1 := hs.jarL
  have n2 := hs.changedL
  have n3 := hs.knowsL
  have n4 := hs.stolenL
  have n5 := hs.ranL
  have n6 := hs.pendingL
  clear hs
  have hB : stB s = (num s.doc ++ tru s.owned ++ lay num s.jar ++ lay num s.changed ++ lay tru s.knows ++ lay tru s.stolen ++ lay tru s.ran) ++ lay rqB s.pending := by simp [stB]
  obtain ⟨p, hp⟩ : ∃ p, p = num s.doc ++ tru s.owned ++ lay num s.jar ++ lay num s.changed ++ lay tru s.knows ++ lay tru s.stolen ++ lay tru s.ran := ⟨_, rfl⟩
  have hpl : p.length ≤ 200000 := by rw [hp]; simp [tru_len]; omega
  rw [← hp] at hB
  rw [hB]
  clear hB
  have hlen := num_len (s.pending.length : Int)
  have m1 : p.length + (num (s.pending.length : Int)).length ≤ 140737488355328 := by omega
  have hR : ∀ {k : Nat}, k = (num s.doc ++ tru s.owned ++ lay num s.jar ++ lay num s.changed ++ lay tru s.knows ++ lay tru s.stolen).length → CallsV L 39 [.slice 0 0 k ((num s.doc).length + (tru s.owned).length + (lay num s.jar).length + (lay num s.changed).length + (lay tru s.knows).length + (lay tru s.stolen).length), boolsL s.ran] (rowH 1 ((num s.doc ++ tru s.owned ++ lay num s.jar ++ lay num s.changed ++ lay tru s.knows ++ lay tru s.stolen).map encB) ((num s.doc).length + (tru s.owned).length + (lay num s.jar).length + (lay num s.changed).length + (lay tru s.knows).length + (lay tru s.stolen).length)) (Turns (.slice 0 0 p.length p.length) (rowH 1 (p.map encB) p.length)) :=
    fun hk => refTruths_to hp hk (by rw [hp]; simp <;> omega) n5 (by simp [tru_len]; omega)
  clear hp
  repeat' (first
    | apply w_seq
    | apply w_region
    | apply o_end
    | apply t_normal
    | (apply o_val; exact kc0; exact kc2)
    | (apply o_var; exact kc0; exact kc1; (focus (simp; done)); exact kd7)
    | (apply o_fn fine; exact kc0; exact kc1; (focus (exact refNumberA s.pending.length (i64_len (by omega)))); exact kc3)
    | (apply o_mem; exact kc0; rfl; exact kc1)
    | apply w_block
    | (apply w_drawA; rfl; exact ke3; exact kc4; exact kc4)
    | (apply a_end; exact kc4)
    | (apply a_val; exact kc4; exact kc5; exact kd9; exact kc6)
    | (apply a_turns; exact kc4; exact kc5; exact kd8; (focus (exact refNumber_ok s.doc b0)); exact kc7; exact kc6; exact kc4)
    | (apply a_turns; exact kc4; exact kc5; exact kd8; (focus (exact refTruth_at (num s.doc) (by simp) s.owned (by omega))); exact kc7; exact kc6; exact kc4)
    | (apply a_turns; exact kc4; exact kc5; exact kd8; (focus (exact refInts_at (num s.doc ++ tru s.owned) (by simp) s.jar b1 n1 (by simp [tru_len]; omega))); exact kc7; exact kc6; exact kc4)
    | (apply a_turns; exact kc4; exact kc5; exact kd8; (focus (exact refInts_at (num s.doc ++ tru s.owned ++ lay num s.jar) (by simp) s.changed b2 n2 (by simp [tru_len]; omega))); exact kc7; exact kc6; exact kc4)
    | (apply a_turns; exact kc4; exact kc5; exact kd8; (focus (exact refTruths_at (num s.doc ++ tru s.owned ++ lay num s.jar ++ lay num s.changed) (by simp) s.knows n3 (by simp [tru_len]; omega))); exact kc7; exact kc6; exact kc4)
    | (apply a_turns; exact kc4; exact kc5; exact kd8; (focus (exact refTruths_at (num s.doc ++ tru s.owned ++ lay num s.jar ++ lay num s.changed ++ lay tru s.knows) (by simp) s.stolen n4 (by simp [tru_len]; omega))); exact kc7; exact kc6; exact kc4)
    | (apply a_turns; exact kc4; exact kc5; exact kd8; (focus (exact hR (by simp))); exact kc7; exact kc6; exact kc4)
    | fail)
  refine w_loop (fun m f H => ∃ (i : Nat) (bs' : List UInt8) (g' : Nat), i ≤ s.pending.length ∧ m = s.pending.length - i ∧ H = rowH 1 (bs'.map encB) g' ∧ f 3 = .slice 0 0 bs'.length g' ∧ bs'.length + 20000 * (s.pending.length - i) + 50000 < 1000000000000 ∧
      bs' ++ flatN rqB s.pending i = p ++ lay rqB s.pending ∧ g' + (flatN rqB s.pending i).length = (p ++ lay rqB s.pending).length ∧ f 1 = .box (stC s) ∧ f 4 = .int .i64 i) s.pending.length
      ⟨0, p ++ num s.pending.length, p.length + (num s.pending.length).length, by omega, rfl, by simp, by simp, by rw [List.length_append]; omega, by simp [lay_flatN], by simp [lay_flatN]; omega, by simp⟩ ?_
  rintro m f H ⟨i, bs', g', hi, rfl, rfl, hf3, hbn, hbs, hg, hf1, hf4⟩
  by_cases hlt : i < s.pending.length
  · have hri := b3 _ (List.getElem_mem hlt)
    have hel := rqB_len hri
    have hne : ¬ rqB s.pending[i] = [] := fun h => by have := rqB_pos s.pending[i]; simp [h] at this
    have m2 : bs'.length + (rqB s.pending[i]).length ≤ 140737488355328 := by omega
    clear b3
    rw [flatN_cons _ _ _ hlt] at hbs hg
    repeat' (first
      | apply w_seq
      | apply w_region
      | apply o_end
      | apply t_normal
      | (apply o_add; exact kc0; exact kc2; rfl; exact kc2; rfl; exact ke2)
      | (apply o_val; exact kc0; exact kc2)
      | (apply o_fn fine; exact kc0; exact kc1; (focus (exact refRequestA s.pending[i] hri)); exact kc3)
      | (apply o_mem; exact kc0; rfl; exact kc1)
      | apply w_skip
      | apply w_block
      | apply b_normal
      | (apply w_true; exact kc3)
      | fail)
    exact ⟨s.pending.length - (i + 1), by omega, i + 1, bs' ++ rqB s.pending[i], g' + (rqB s.pending[i]).length, by omega, rfl, by simp, by simp, by rw [List.length_append]; omega, by simpa using hbs, by simp at hg ⊢; omega, by simp [*]⟩
  · rw [flatN_end _ _ _ (by omega)] at hbs hg
    repeat' (first
      | apply w_seq
      | apply w_region
      | apply o_end
      | apply t_normal
      | (apply o_val; exact kc0; exact kc2)
      | apply w_ret
      | apply w_exit
      | apply t_exit
      | apply b_here
      | (apply w_false; exact kc3)
      | fail)
    apply t_retT
    · simp [*]; rfl
    · rw [List.append_nil] at hbs
      rw [← hbs] at hg ⊢
      obtain rfl : g' = bs'.length := by simpa using hg
      simp [rowS]
    · rw [List.append_nil] at hbs
      rw [← hbs] at hg ⊢
      obtain rfl : g' = bs'.length := by simpa using hg
      simp
end Go.Proofs.Ytejpgmemohchaaa.Vm
