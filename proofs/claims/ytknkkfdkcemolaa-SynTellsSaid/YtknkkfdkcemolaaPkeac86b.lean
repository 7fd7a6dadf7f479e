/- Own texts, packed. -/
import Derived.Test.YtknkkfdkcemolaaVmR
import Derived.Test.YtknkkfdkcemolaaVmTy
import Derived.Test.YtknkkfdkcemolaaVmX
import Derived.Test.YtknkkfdkcemolaaVmZc
import Derived.Test.YtknkkfdkcemolaaVmZd
import Derived.Shelf.Strings.Builder1
import Derived.Shelf.Strings.Builder2
import Derived.Shelf.Strings.OnBuilder
import Derived.Shelf.Small.Strs
import Derived.Shelf.Strings.BuilderF
import Derived.Shelf.Strings.Search1
import Derived.Shelf.Strings.Search2
import Derived.Shelf.Strings.Search3
import Derived.Shelf.LaysM
import Derived.Shelf.Strings.Shaped
import Derived.Test.YtknkkfdkcemolaaProg
import Derived.Test.YtknkkfdkcemolaaVmZe
import Derived.Test.YtknkkfdkcemolaaVmS
import Derived.Test.YtknkkfdkcemolaaVmSe
section
/- Plain facts for lex: what tokens are. No program in sight. -/
set_option linter.unusedSimpArgs false
set_option linter.unusedVariables false
namespace Go.Proofs.Ytknkkfdkcemolaa.Vm
open Go
variable {m : Int}

/-- How many bytes at the beginning fulfil p. -/
def runL (p : UInt8 → Bool) (s : List UInt8) : Nat := (s.takeWhile p).length
theorem runL_le (p : UInt8 → Bool) (s : List UInt8) : runL p s ≤ s.length := by
  unfold runL
  exact (List.takeWhile_sublist p).length_le
theorem runL_all (p : UInt8 → Bool) (s : List UInt8) : ∀ x, x ∈ s.take (runL p s) → p x = true := by
  induction s with
  | nil => simp [runL]
  | cons a s ih =>
    intro x hx
    by_cases h : p a = true
    · simp only [runL, List.takeWhile_cons, h, if_true, List.length_cons, List.take_succ_cons, List.mem_cons] at hx
      rcases hx with rfl | hx
      · exact h
      · exact ih x hx
    · simp [runL, List.takeWhile_cons, h] at hx
theorem runL_here (p : UInt8 → Bool) (s : List UInt8) (n : Nat) (hn : n ≤ s.length) (h : ∀ i (hi : i < s.length), i < n → p (s[i]'hi) = true) (he : ∀ (hi : n < s.length), p (s[n]'hi) = false) : runL p s = n := by
  induction s generalizing n with
  | nil => simp at hn; subst hn; rfl
  | cons a s ih =>
    cases n with
    | zero =>
      have := he (by simp)
      simp at this
      simp [runL, List.takeWhile_cons, this]
    | succ n =>
      have h0 := h 0 (by simp) (by omega)
      simp at h0
      have := ih n (by simpa using hn) (fun i hi hlt => h (i + 1) (by simpa using hi) (by omega)) (fun hi => he (by simpa using hi))
      simp only [runL, List.takeWhile_cons, h0, if_true, List.length_cons]
      rw [← this]
      rfl

/-- Is it that byte? -/
abbrev isB (c : UInt8) (n : Int) : Bool := (c.toNat : Int) == n
def isWs (b : UInt8) : Bool := isB b 32 || isB b 9 || isB b 10 || isB b 13
def notNl (c : UInt8) : Bool := !isB c 10
/-- How many bytes stand ahead of the next token; c: within a comment? -/
def gapS : Bool → List UInt8 → Nat
  | _, [] => 0
  | false, b :: r => if isWs b then gapS false r + 1 else if isB b 35 then gapS true r + 1 else 0
  | true, b :: r => if isB b 10 then gapS false r + 1 else gapS true r + 1
def gapN (s : List UInt8) : Nat := gapS false s
theorem gapS_le (c : Bool) (s : List UInt8) : gapS c s ≤ s.length := by
  induction s generalizing c with
  | nil => cases c <;> simp [gapS]
  | cons b r ih =>
    cases c with
    | false =>
      unfold gapS
      split
      · have := ih false; simp; omega
      · split
        · have := ih true; simp; omega
        · simp
    | true =>
      unfold gapS
      split
      · have := ih false; simp; omega
      · have := ih true; simp; omega
theorem gapN_le (s : List UInt8) : gapN s ≤ s.length := gapS_le false s
theorem gapS_true (s : List UInt8) : gapS true s = runL notNl s + gapN (s.drop (runL notNl s)) := by
  induction s with
  | nil => rfl
  | cons b r ih =>
    by_cases h : isB b 10 = true
    · have h1 : notNl b = false := by simp [notNl, h]
      have h2 : isWs b = true := by simp [isWs, h]
      simp [gapS, runL, gapN, h, h1, h2, List.takeWhile_cons]
    · have h' : isB b 10 = false := by simpa using h
      have h1 : notNl b = true := by simp [notNl, h']
      simp only [gapS, h', if_false, Bool.false_eq_true, runL, List.takeWhile_cons, h1, if_true, List.length_cons, List.drop_succ_cons]
      rw [ih]
      unfold runL
      omega
theorem gapN_ws {s : List UInt8} {b : UInt8} {r : List UInt8} (h : s = b :: r) (hb : isWs b = true) : gapN s = gapN r + 1 := by
  subst h
  simp only [gapN, gapS, hb, if_true]
theorem gapN_sharp {s : List UInt8} {b : UInt8} {r : List UInt8} (h : s = b :: r) (h1 : isWs b = false) (h2 : isB b 35 = true) : gapN s = runL notNl s + gapN (s.drop (runL notNl s)) := by
  have h3 : isB b 10 = false := by
    simp only [isWs, Bool.or_eq_false_iff] at h1
    exact h1.1.2
  have h4 : gapN s = gapS true s := by
    subst h
    simp only [gapN, gapS, h1, h2, h3, if_true, if_false, Bool.false_eq_true]
  rw [h4, gapS_true]
theorem gapN_none {s : List UInt8} {b : UInt8} {r : List UInt8} (h : s = b :: r) (h1 : isWs b = false) (h2 : isB b 35 = false) : gapN s = 0 := by
  subst h
  simp only [gapN, gapS, h1, h2, if_false, Bool.false_eq_true]

def isSmall (c : UInt8) : Bool := decide ((97 : Int) ≤ c.toNat) && decide ((c.toNat : Int) ≤ 122)
def isInner (c : UInt8) : Bool := isSmall c || decide ((48 : Int) ≤ c.toNat) && decide ((c.toNat : Int) ≤ 57) || isB c 95
def isCap (c : UInt8) : Bool := decide ((65 : Int) ≤ c.toNat) && decide ((c.toNat : Int) ≤ 90)
def isQuoted (c : UInt8) : Bool := decide ((32 : Int) ≤ c.toNat) && decide ((c.toNat : Int) ≤ 126) && !isB c 34
def isSign (c : UInt8) : Bool := isB c 123 || isB c 125 || isB c 40 || isB c 41 || isB c 59 || isB c 61
def wordsL : List (List UInt8) := [[111, 114, 105, 103, 105, 110], [99, 111, 111, 107, 105, 101], [115, 101, 99, 114, 101, 116], [101, 110, 100, 112, 111, 105, 110, 116], [112, 114, 111, 112, 101, 114, 116, 121], [110, 101, 116, 119, 111, 114, 107], [97, 116], [112, 97, 103, 101], [105, 110, 106, 101, 99, 116], [115, 99, 114, 105, 112, 116], [110, 101, 101, 100, 115], [104, 101, 97, 100, 101, 114], [111, 119, 110], [115, 101, 116, 115], [103, 105, 118, 101, 115], [99, 104, 97, 110, 103, 101, 115], [114, 101, 100, 105, 114, 101, 99, 116], [111, 112, 101, 110], [99, 111, 114, 115], [97, 110, 121], [99, 114, 101, 100, 101, 110, 116, 105, 97, 108, 115], [97, 108, 108, 111, 119], [109, 101, 116, 104, 111, 100, 115], [99, 115, 112], [97, 110, 100], [111, 114], [110, 111, 116], [99, 104, 97, 110, 103, 101, 100], [102, 111, 114, 103, 101, 100], [107, 110, 111, 119, 115], [115, 116, 111, 108, 101, 110], [114, 97, 110]]
def isWord (s : List UInt8) : Bool := wordsL.any fun w => w == s

/-- The token that a text begins with: kind, text, how many bytes, what is wrong. -/
def tok (s : List UInt8) : Nat × List UInt8 × Nat × Nat :=
  match s with
  | [] => (0, [], 0, 0)
  | c :: _ =>
    if isSmall c then (if isWord (s.take (runL isInner s)) then 2 else 1, s.take (runL isInner s), runL isInner s, if 20 < runL isInner s then 6 else 0)
    else if isCap c then (5, s.take (runL isCap s), runL isCap s, if 20 < runL isCap s then 6 else 0)
    else if isB c 34 then
      if runL isQuoted (s.drop 1) + 1 == s.length || !isB (s.getD (runL isQuoted (s.drop 1) + 1) 0) 34 then (0, [], 0, 3)
      else (3, (s.take (runL isQuoted (s.drop 1) + 1)).drop 1, runL isQuoted (s.drop 1) + 2, if 200 < runL isQuoted (s.drop 1) then 6 else 0)
    else if isSign c then (4, s.take 1, 1, 0)
    else (0, [], 0, 3)
structure Tok where
  kind : Nat
  at_ : Nat
  text : List UInt8
/-- From a place on, where a token begins or the text ends: the tokens, or what is wrong, and where. -/
def toksF : Nat → List UInt8 → Nat → List Tok → List Tok × Nat × Nat
  | 0, _, _, out => (out, 0, 0)
  | k + 1, s, at_, out => match s with
    | [] => (out, 0, 0)
    | _ :: _ =>
      if (tok s).2.2.2 ≠ 0 then ([], (tok s).2.2.2, at_)
      else if out.length = 2000 then ([], 6, at_)
      else toksF k ((s.drop (tok s).2.2.1).drop (gapN (s.drop (tok s).2.2.1))) (at_ + (tok s).2.2.1 + gapN (s.drop (tok s).2.2.1)) (out ++ [⟨(tok s).1, at_, (tok s).2.1⟩])
def toks (s : List UInt8) : List Tok × Nat × Nat := if 8000 < s.length then ([], 6, 0) else toksF s.length (s.drop (gapN s)) (gapN s) []

theorem runL_pos {p : UInt8 → Bool} {c : UInt8} {r : List UInt8} (h : p c = true) : 0 < runL p (c :: r) := by
  simp [runL, List.takeWhile_cons, h]
theorem inner_of_small {c : UInt8} (h : isSmall c = true) : isInner c = true := by simp [isInner, h]
/-- A token has a byte at least, and no more than there are. -/
theorem tok_len {s : List UInt8} (hs : s ≠ []) (h : (tok s).2.2.2 = 0) : 0 < (tok s).2.2.1 ∧ (tok s).2.2.1 ≤ s.length := by
  cases s with
  | nil => exact absurd rfl hs
  | cons c r =>
    unfold tok at h ⊢
    simp only at h ⊢
    split
    · rename_i h1
      exact ⟨runL_pos (inner_of_small h1), runL_le _ _⟩
    · rename_i h1
      rw [if_neg h1] at h
      split
      · rename_i h2
        exact ⟨runL_pos h2, runL_le _ _⟩
      · rename_i h2
        rw [if_neg h2] at h
        split
        · rename_i h3
          rw [if_pos h3] at h
          split
          · rename_i h4
            rw [if_pos h4] at h
            simp at h
          · rename_i h4
            simp only [Bool.or_eq_true, beq_iff_eq, not_or] at h4
            have := runL_le isQuoted ((c :: r).drop 1)
            simp only [List.drop_succ_cons, List.drop_zero, List.length_cons] at this h4 ⊢
            omega
        · rename_i h3
          rw [if_neg h3] at h
          split
          · simp
          · rename_i h4
            rw [if_neg h4] at h
            simp at h
theorem toksF_nil (k at_ : Nat) (out : List Tok) : toksF k [] at_ out = (out, 0, 0) := by cases k <;> rfl
theorem toksF_wrong {k : Nat} {c : UInt8} {r : List UInt8} {at_ : Nat} {out : List Tok} (h : (tok (c :: r)).2.2.2 ≠ 0) : toksF (k + 1) (c :: r) at_ out = ([], (tok (c :: r)).2.2.2, at_) := by
  rw [toksF, if_pos h]
theorem toksF_many {k : Nat} {c : UInt8} {r : List UInt8} {at_ : Nat} {out : List Tok} (h : (tok (c :: r)).2.2.2 = 0) (ho : out.length = 2000) : toksF (k + 1) (c :: r) at_ out = ([], 6, at_) := by
  rw [toksF, if_neg (by simpa using h), if_pos ho]
theorem toksF_more {k : Nat} {c : UInt8} {r : List UInt8} {at_ : Nat} {out : List Tok} (h : (tok (c :: r)).2.2.2 = 0) (ho : out.length ≠ 2000) : toksF (k + 1) (c :: r) at_ out =
    toksF k (((c :: r).drop (tok (c :: r)).2.2.1).drop (gapN ((c :: r).drop (tok (c :: r)).2.2.1))) (at_ + (tok (c :: r)).2.2.1 + gapN ((c :: r).drop (tok (c :: r)).2.2.1)) (out ++ [⟨(tok (c :: r)).1, at_, (tok (c :: r)).2.1⟩]) := by
  rw [toksF, if_neg (by simpa using h), if_neg ho]
end Go.Proofs.Ytknkkfdkcemolaa.Vm
end
section
/- Walks: the predicates of lex, runs, gaps. -/
set_option linter.unusedSimpArgs false
set_option linter.unusedVariables false
set_option maxRecDepth 100000
set_option maxHeartbeats 4000000
namespace Go.Proofs.Ytknkkfdkcemolaa.Vm
open Go
variable {m : Int}
attribute [local irreducible] wpD opsD thenD blockD planD planA
attribute [local simp] List.take_of_length_le List.drop_of_length_le

theorem notNl_ok (c : UInt8) : Ans (L m) 56 [.int .u8 c.toNat] (.bool (notNl c)) := by
  refine fn_of_body L_ok (fn := Try.f56) rfl rfl rfl rfl (by kernel_rfl) ?_
  repeat' (first
    | apply w_seq
    | apply w_region
    | apply o_end
    | apply t_normal
    | (apply o_val; exact kc0; exact kc2)
    | (apply f_retf; exact kc2; (focus (simp; done)); (focus (simp [notNl, isB, bne, *]; done)))
    | apply w_ret
    | fail)
theorem small_ok (c : UInt8) : Ans (L m) 57 [.int .u8 c.toNat] (.bool (isSmall c)) := by
  refine fn_of_body L_ok (fn := Try.f57) rfl rfl rfl rfl (by kernel_rfl) ?_
  repeat' (first
    | apply w_seq
    | apply w_region
    | apply o_end
    | apply t_normal
    | (apply o_mpick; exact kc9; exact kd0; rfl; exact kd1; rfl; exact kd1; rfl)
    | (apply o_val; exact kc0; exact kc2)
    | (apply f_retf; exact kc2; (focus (simp; done)); (focus (simp [isSmall, *]; done)))
    | apply w_ret
    | (apply o_maybe; exact kc9; exact kd0)
    | fail)
theorem capital_ok (c : UInt8) : Ans (L m) 61 [.int .u8 c.toNat] (.bool (isCap c)) := by
  refine fn_of_body L_ok (fn := Try.f61) rfl rfl rfl rfl (by kernel_rfl) ?_
  repeat' (first
    | apply w_seq
    | apply w_region
    | apply o_end
    | apply t_normal
    | (apply o_mpick; exact kc9; exact kd0; rfl; exact kd1; rfl; exact kd1; rfl)
    | (apply o_val; exact kc0; exact kc2)
    | (apply f_retf; exact kc2; (focus (simp; done)); (focus (simp [isCap, *]; done)))
    | apply w_ret
    | (apply o_maybe; exact kc9; exact kd0)
    | fail)
theorem inner_ok (c : UInt8) : Ans (L m) 58 [.int .u8 c.toNat] (.bool (isInner c)) := by
  refine fn_of_body L_ok (fn := Try.f58) rfl rfl rfl rfl (by kernel_rfl) ?_
  repeat' (first
    | apply w_seq
    | apply w_region
    | apply o_end
    | apply t_normal
    | (apply o_mpick; exact kc9; exact kd0; rfl; exact kd1; rfl; exact kd1; rfl)
    | (apply o_val; exact kc0; exact kc2)
    | (apply o_fn fine; exact kc0; exact kc1; (focus (exact small_ok c)); exact kc3)
    | (apply f_retf; exact kc2; (focus (simp; done)); (focus (simp [isInner, *]; done)))
    | apply w_ret
    | (apply o_maybe; exact kc9; exact kd0)
    | fail)
theorem quoted_ok (c : UInt8) : Ans (L m) 62 [.int .u8 c.toNat] (.bool (isQuoted c)) := by
  refine fn_of_body L_ok (fn := Try.f62) rfl rfl rfl rfl (by kernel_rfl) ?_
  repeat' (first
    | apply w_seq
    | apply w_region
    | apply o_end
    | apply t_normal
    | (apply o_mpick; exact kc9; exact kd0; rfl; exact kd1; rfl; exact kd1; rfl)
    | (apply o_val; exact kc0; exact kc2)
    | (apply f_retf; exact kc2; (focus (simp; done)); (focus (simp [isQuoted, bne, *]; done)))
    | apply w_ret
    | (apply o_maybe; exact kc9; exact kd0)
    | fail)
theorem rsmall_ok (c : UInt8) : Ans (L m) 51 [.int .u8 c.toNat] (.bool (isSmall c)) := by
  refine fn_of_body L_ok (fn := Try.f51) rfl rfl rfl rfl (by kernel_rfl) ?_
  repeat' (first
    | apply w_seq
    | apply w_region
    | apply o_end
    | apply t_normal
    | (apply o_mpick; exact kc9; exact kd0; rfl; exact kd1; rfl; exact kd1; rfl)
    | (apply o_val; exact kc0; exact kc2)
    | (apply f_retf; exact kc2; (focus (simp; done)); (focus (simp [isSmall, *]; done)))
    | apply w_ret
    | (apply o_maybe; exact kc9; exact kd0)
    | fail)
theorem rcaps_ok (c : UInt8) : Ans (L m) 53 [.int .u8 c.toNat] (.bool (isCap c)) := by
  refine fn_of_body L_ok (fn := Try.f53) rfl rfl rfl rfl (by kernel_rfl) ?_
  repeat' (first
    | apply w_seq
    | apply w_region
    | apply o_end
    | apply t_normal
    | (apply o_mpick; exact kc9; exact kd0; rfl; exact kd1; rfl; exact kd1; rfl)
    | (apply o_val; exact kc0; exact kc2)
    | (apply f_retf; exact kc2; (focus (simp; done)); (focus (simp [isCap, *]; done)))
    | apply w_ret
    | (apply o_maybe; exact kc9; exact kd0)
    | fail)
theorem long_ok (n most : Int) : Ans (L m) 60 [.int .i64 n, .int .i64 most] (.int .i64 (if most < n then 6 else 0)) := by
  refine fn_of_body L_ok (fn := Try.f60) rfl rfl rfl rfl (by kernel_rfl) ?_
  repeat' (first
    | apply w_seq
    | apply w_region
    | apply o_end
    | apply t_normal
    | (apply o_val; exact kc0; exact kc2)
    | (apply f_retf; exact kc2; (focus (simp; done)); exact kc3)
    | apply w_skip
    | apply w_ret
    | apply t_ret
    | ((apply w_cond; exact kc2; rfl) <;> (intro hc; have hc' := hc; try simp at hc'))
    | fail)
theorem run_ok (s : List UInt8) (g : FuncId) (p : UInt8 → Bool) (hn : s.length < 1000000000000) (hp : ∀ c : UInt8, Ans (L m) g [.int .u8 c.toNat] (.bool (p c))) :
    Ans (L m) 55 [.str s, .func (.func g) [] []] (.int .i64 (runL p s)) := by
  refine fn_of_body L_ok (fn := Try.f55) rfl rfl rfl rfl (by kernel_rfl) ?_
  repeat' (first
    | apply w_seq
    | apply w_region
    | apply o_end
    | apply t_normal
    | (apply o_val; exact kc0; exact kc2)
    | apply w_block
    | fail)
  refine w_loop (fun n f H => ∃ (i : Nat), i ≤ s.length ∧ n = s.length - i ∧ H = [] ∧ (∀ j (hj : j < s.length), j < i → p (s[j]'hj) = true) ∧ f 0 = .str s ∧ f 1 = .func (.func g) [] [] ∧ f 5 = .int .i64 i) s.length ⟨0, by simp⟩ ?_
  rintro n f H ⟨i, hi, rfl, rfl, hq, h0, h1, h5⟩
  by_cases hlt : i < s.length
  · have hpi := hp (s[i]'hlt)
    have hgd : s.getD i 0 = s[i]'hlt := by simp [List.getD_eq_getElem?_getD, hlt]
    clear hp
    cases hpc : p (s[i]'hlt)
    · rw [hpc] at hpi
      have hr : runL p s = i := runL_here p s i hi hq (fun _ => hpc)
      repeat' (first
        | apply w_seq
        | apply w_region
        | apply o_end
        | apply t_normal
        | (apply o_val; exact kc0; exact kc2)
        | (apply o_fn fine; exact kc0; exact kc1; exact hpi; exact kc3)
        | apply w_ret
        | apply w_exit
        | apply t_exit
        | apply b_here
        | (apply w_false; exact kc3)
        | fail)
      · apply f_retf
        · simp [*]; rfl
        · simp
        · rw [hr]
    · rw [hpc] at hpi
      have hq' : ∀ j (hj : j < s.length), j < i + 1 → p (s[j]'hj) = true := fun j hj hlt' => by
        rcases Nat.lt_or_ge j i with h | h
        · exact hq j hj h
        · obtain rfl : j = i := by omega
          exact hpc
      clear hq
      repeat' (first
        | apply w_seq
        | apply w_region
        | apply o_end
        | apply t_normal
        | (apply o_add; exact kc0; exact kc2; rfl; exact kc2; rfl; exact ke2)
        | (apply o_val; exact kc0; exact kc2)
        | (apply o_fn fine; exact kc0; exact kc1; exact hpi; exact kc3)
        | apply w_skip
        | apply w_block
        | apply b_normal
        | (apply w_true; exact kc3)
        | fail)
      exact ⟨s.length - (i + 1), by omega, i + 1, by omega, rfl, rfl, hq', by simp [*]⟩
  · have hr : runL p s = i := runL_here p s i hi hq (fun h => absurd h hlt)
    clear hp hq
    repeat' (first
      | apply w_seq
      | apply w_region
      | apply o_end
      | apply t_normal
      | (apply o_val; exact kc0; exact kc2)
      | apply w_ret
      | apply w_exit
      | apply t_exit
      | apply b_here
      | (apply w_false; exact kc3)
      | (apply o_no; exact ke7)
      | fail)
    · apply f_retf
      · simp [*]; rfl
      · simp
      · rw [hr]
end Go.Proofs.Ytknkkfdkcemolaa.Vm
end
section
/- Walks: gaps, words. -/
set_option linter.unusedSimpArgs false
set_option linter.unusedVariables false
set_option maxRecDepth 100000
set_option maxHeartbeats 4000000
namespace Go.Proofs.Ytknkkfdkcemolaa.Vm
open Go
variable {m : Int}
attribute [local irreducible] wpD opsD thenD blockD planD planA
attribute [local simp] List.take_of_length_le List.drop_of_length_le bne

theorem gap_ok (s : List UInt8) (hn : s.length < 1000000000000) : Ans (L m) 45 [.str s] (.int .i64 (gapN s)) := by
  refine fn_of_body L_ok (fn := Try.f45) rfl rfl rfl rfl (by kernel_rfl) ?_
  repeat' (first
    | apply w_seq
    | apply w_region
    | apply o_end
    | apply t_normal
    | (apply o_val; exact kc0; exact kc2)
    | apply w_block
    | fail)
  refine w_loop (fun n f H => ∃ (i : Nat), i ≤ s.length ∧ n = s.length - i ∧ H = [] ∧ gapN s = i + gapN (s.drop i) ∧ f 0 = .str s ∧ f 3 = .int .i64 i) s.length ⟨0, by simp⟩ ?_
  rintro n f H ⟨i, hi, rfl, rfl, hq, h0, h3⟩
  by_cases hlt : i < s.length
  · have hd : s.drop i = s[i] :: s.drop (i + 1) := List.drop_eq_getElem_cons hlt
    cases hw : isWs s[i]
    · cases hs : isB s[i] 35
      · have e : gapN s = i := by
          have := gapN_none hd hw hs
          omega
        simp only [isWs, Bool.or_eq_false_iff] at hw
        obtain ⟨⟨⟨w1, w2⟩, w3⟩, w4⟩ := hw
        repeat' (first
          | apply w_seq
          | apply w_region
          | apply o_end
          | apply t_normal
          | (apply o_val; exact kc0; exact kc2)
          | apply w_skip
          | apply w_block
          | apply w_ret
          | apply t_ret
          | apply b_ret
          | (apply w_true; exact kc3)
          | (apply w_false; exact kc3)
          | fail)
        · apply f_retf
          · simp [*]; rfl
          · simp
          · rw [e]
      · have e := gapN_sharp hd hw hs
        have hr := run_ok (m := m) (s.drop i) _ notNl (by simp; omega) notNl_ok
        have hpos : 0 < runL notNl (s.drop i) := by
          rw [hd]
          refine runL_pos ?_
          simp only [isWs, Bool.or_eq_false_iff] at hw
          simp [notNl, hw.1.2]
        have hle := runL_le notNl (s.drop i)
        rw [List.length_drop] at hle
        rw [List.drop_drop] at e
        simp only [isWs, Bool.or_eq_false_iff] at hw
        obtain ⟨⟨⟨w1, w2⟩, w3⟩, w4⟩ := hw
        clear hd
        repeat' (first
          | apply w_seq
          | apply w_region
          | apply o_end
          | apply t_normal
          | (apply o_add; exact kc0; exact kc2; rfl; exact kc2; rfl; exact ke2)
          | (apply o_val; exact kc0; exact kc2)
          | (apply o_fn fine; exact kc0; exact kc1; exact hr; exact kc3)
          | apply w_skip
          | apply w_block
          | apply b_normal
          | (apply w_true; exact kc3)
          | (apply w_false; exact kc3)
          | fail)
        exact ⟨s.length - (i + runL notNl (s.drop i)), by omega, i + runL notNl (s.drop i), by omega, rfl, rfl, by omega, by simp [*]⟩
    · have e := gapN_ws hd hw
      have q : gapN s = i + 1 + gapN (s.drop (i + 1)) := by omega
      clear hd e
      cases w1 : isB s[i] 32
      · cases w2 : isB s[i] 9
        · cases w3 : isB s[i] 10
          · cases w4 : isB s[i] 13
            · simp [isWs, w1, w2, w3, w4] at hw
            · skip
              repeat' (first
                | apply w_seq
                | apply w_region
                | apply o_end
                | apply t_normal
                | (apply o_add; exact kc0; exact kc2; rfl; exact kc2; rfl; exact ke2)
                | (apply o_val; exact kc0; exact kc2)
                | apply w_skip
                | apply w_block
                | apply b_normal
                | (apply w_true; exact kc3)
                | (apply w_false; exact kc3)
                | fail)
              exact ⟨s.length - (i + 1), by omega, i + 1, by omega, rfl, rfl, q, by simp [*]⟩
          · skip
            repeat' (first
              | apply w_seq
              | apply w_region
              | apply o_end
              | apply t_normal
              | (apply o_add; exact kc0; exact kc2; rfl; exact kc2; rfl; exact ke2)
              | (apply o_val; exact kc0; exact kc2)
              | apply w_skip
              | apply w_block
              | apply b_normal
              | (apply w_true; exact kc3)
              | (apply w_false; exact kc3)
              | fail)
            exact ⟨s.length - (i + 1), by omega, i + 1, by omega, rfl, rfl, q, by simp [*]⟩
        · skip
          repeat' (first
            | apply w_seq
            | apply w_region
            | apply o_end
            | apply t_normal
            | (apply o_add; exact kc0; exact kc2; rfl; exact kc2; rfl; exact ke2)
            | (apply o_val; exact kc0; exact kc2)
            | apply w_skip
            | apply w_block
            | apply b_normal
            | (apply w_true; exact kc3)
            | (apply w_false; exact kc3)
            | fail)
          exact ⟨s.length - (i + 1), by omega, i + 1, by omega, rfl, rfl, q, by simp [*]⟩
      · skip
        repeat' (first
          | apply w_seq
          | apply w_region
          | apply o_end
          | apply t_normal
          | (apply o_add; exact kc0; exact kc2; rfl; exact kc2; rfl; exact ke2)
          | (apply o_val; exact kc0; exact kc2)
          | apply w_skip
          | apply w_block
          | apply b_normal
          | (apply w_true; exact kc3)
          | fail)
        exact ⟨s.length - (i + 1), by omega, i + 1, by omega, rfl, rfl, q, by simp [*]⟩
  · have e : gapN s = i := by
      rw [List.drop_of_length_le (by omega)] at hq
      simpa [gapN, gapS] using hq
    repeat' (first
      | apply w_seq
      | apply w_region
      | apply o_end
      | apply t_normal
      | (apply o_val; exact kc0; exact kc2)
      | apply w_ret
      | apply w_exit
      | apply t_exit
      | apply b_here
      | (apply w_false; exact kc3)
      | fail)
    · apply f_retf
      · simp [*]; rfl
      · simp
      · rw [e]
theorem rgap_ok (s : List UInt8) (k : Nat) (hk : k ≤ s.length) (hn : s.length < 1000000000000) : Ans (L m) 36 [.str s, .int .i64 k] (.int .i64 (k + gapN (s.drop k) : Nat)) := by
  refine fn_of_body L_ok (fn := Try.f36) rfl rfl rfl rfl (by kernel_rfl) ?_
  repeat' (first
    | apply w_seq
    | apply w_region
    | apply o_end
    | apply t_normal
    | (apply o_val; exact kc0; exact kc2)
    | apply w_block
    | fail)
  refine w_loop (fun n f H => ∃ (i : Nat), i ≤ s.length ∧ n = s.length - i ∧ H = [] ∧ k + gapN (s.drop k) = i + gapN (s.drop i) ∧ f 0 = .str s ∧ f 1 = .int .i64 i) (s.length - k) ⟨k, by simp [hk]⟩ ?_
  rintro n f H ⟨i, hi, rfl, rfl, hq, h0, h1⟩
  by_cases hlt : i < s.length
  · have hd : s.drop i = s[i] :: s.drop (i + 1) := List.drop_eq_getElem_cons hlt
    cases hw : isWs s[i]
    · cases hs : isB s[i] 35
      · have e : k + gapN (s.drop k) = i := by
          have := gapN_none hd hw hs
          omega
        simp only [isWs, Bool.or_eq_false_iff] at hw
        obtain ⟨⟨⟨w1, w2⟩, w3⟩, w4⟩ := hw
        repeat' (first
          | apply w_seq
          | apply w_region
          | apply o_end
          | apply t_normal
          | (apply o_mpick; exact kc9; exact kd0; rfl; exact kd1; rfl; exact kd1; rfl)
          | (apply o_val; exact kc0; exact kc2)
          | apply w_skip
          | apply w_block
          | apply w_ret
          | apply t_ret
          | apply b_ret
          | (apply w_true; exact kc3)
          | (apply w_false; exact kc3)
          | fail)
        · apply f_retf
          · simp [*]; rfl
          · simp
          · rw [e]
      · have e := gapN_sharp hd hw hs
        have hle := runL_le notNl (s.drop i)
        rw [List.length_drop] at hle
        rw [List.drop_drop] at e
        have hpos : 0 < runL notNl (s.drop i) := by
          rw [hd]
          refine runL_pos ?_
          simp only [isWs, Bool.or_eq_false_iff] at hw
          simp [notNl, hw.1.2]
        have hrun : ∀ j, runL notNl (s.drop i) = j → gapN (s.drop i) = j + gapN (s.drop (i + j)) := fun j hj => by rw [← hj]; exact e
        simp only [isWs, Bool.or_eq_false_iff] at hw
        obtain ⟨⟨⟨w1, w2⟩, w3⟩, w4⟩ := hw
        clear hd e
        repeat' (first
          | apply w_seq
          | apply w_region
          | apply o_end
          | apply t_normal
          | (apply o_mpick; exact kc9; exact kd0; rfl; exact kd1; rfl; exact kd1; rfl)
          | (apply o_val; exact kc0; exact kc2)
          | apply w_skip
          | apply w_block
          | (apply w_true; exact kc3)
          | (apply w_false; exact kc3)
          | fail)
        refine w_loop (fun n f H => ∃ (m : Nat), i ≤ m ∧ m ≤ s.length ∧ n = s.length - m ∧ H = [] ∧ (∀ x (hx : x < s.length), i ≤ x → x < m → isB (s[x]'hx) 10 = false) ∧ f 0 = .str s ∧ f 1 = .int .i64 m) (s.length - i) ⟨i, by simp [*]; intro x hx h1 h2; omega⟩ ?_
        rintro n f H ⟨m, him, hm, rfl, rfl, hall, g0, g1⟩
        have hfin : (∀ hx : m < s.length, isB (s[m]'hx) 10 = true) → k + gapN (s.drop k) = m + gapN (s.drop m) := fun hx => by
          have hr : runL notNl (s.drop i) = m - i := runL_here _ _ _ (by simp; omega) (fun x hx hxm => by
            have := hall (i + x) (by simp at hx; omega) (by omega) (by omega)
            simp [notNl, List.getElem_drop, this]) (fun h => by
            have e : i + (m - i) = m := by omega
            have := hx (by simp at h; omega)
            simp [notNl, List.getElem_drop, e, this])
          have e2 := hrun _ hr
          rw [show i + (m - i) = m by omega] at e2
          omega
        by_cases hml : m < s.length
        · cases hnl : isB (s[m]'hml) 10
          · have hall' : ∀ x (hx : x < s.length), i ≤ x → x < m + 1 → isB (s[x]'hx) 10 = false := fun x hx hxi hxm => by
              rcases Nat.lt_or_ge x m with h | h
              · exact hall x hx hxi h
              · obtain rfl : x = m := by omega
                exact hnl
            clear hall hfin hrun
            repeat' (first
              | apply w_seq
              | apply w_region
              | apply o_end
              | apply t_normal
              | (apply o_add; exact kc0; exact kc2; rfl; exact kc2; rfl; exact ke2)
              | (apply o_mpick; exact kc9; exact kd0; rfl; exact kd1; rfl; exact kd1; rfl)
              | (apply o_val; exact kc0; exact kc2)
              | apply w_skip
              | apply w_block
              | apply b_normal
              | (apply w_true; exact kc3)
              | fail)
            exact ⟨s.length - (m + 1), by omega, m + 1, by omega, by omega, rfl, rfl, hall', by simp [*]⟩
          · have e2 := hfin fun _ => hnl
            have hmi : i < m := by
              rcases Nat.lt_or_eq_of_le him with h | h
              · exact h
              · subst h
                rw [w3] at hnl
                cases hnl
            clear hall hfin hrun
            repeat' (first
              | apply w_seq
              | apply w_region
              | apply o_end
              | apply t_normal
              | (apply o_mpick; exact kc9; exact kd0; rfl; exact kd1; rfl; exact kd1; rfl)
              | (apply o_val; exact kc0; exact kc2)
              | apply b_normal
              | apply w_exit
              | apply t_exit
              | apply b_here
              | (apply w_false; exact kc3)
              | fail)
            exact ⟨s.length - m, by omega, m, by omega, rfl, rfl, e2, by simp [*]⟩
        · have e2 := hfin fun h => absurd h hml
          clear hall hfin hrun
          repeat' (first
            | apply w_seq
            | apply w_region
            | apply o_end
            | apply t_normal
            | (apply o_val; exact kc0; exact kc2)
            | apply b_normal
            | apply w_exit
            | apply t_exit
            | apply b_here
            | (apply w_false; exact kc3)
            | (apply o_no; exact ke7)
            | fail)
          exact ⟨s.length - m, by omega, m, by omega, rfl, rfl, e2, by simp [*]⟩
    · have e := gapN_ws hd hw
      have q : k + gapN (s.drop k) = i + 1 + gapN (s.drop (i + 1)) := by omega
      clear hd e
      have hw' := hw
      simp only [isWs] at hw'
      repeat' (first
        | apply w_seq
        | apply w_region
        | apply o_end
        | apply t_normal
        | (apply o_add; exact kc0; exact kc2; rfl; exact kc2; rfl; exact ke2)
        | (apply o_mpick; exact kc9; exact kd0; rfl; exact kd1; rfl; exact kd1; rfl)
        | (apply o_val; exact kc0; exact kc2)
        | apply w_skip
        | apply w_block
        | apply b_normal
        | (apply w_true; exact kc3)
        | (apply o_maybe; exact kc9; exact kd0)
        | fail)
      all_goals first | exact ⟨s.length - (i + 1), by omega, i + 1, by omega, rfl, rfl, q, by simp [*]⟩ | (exfalso; simp_all)
  · have e : k + gapN (s.drop k) = i := by
      rw [hq, List.drop_of_length_le (by omega)]
      simp [gapN, gapS]
    repeat' (first
      | apply w_seq
      | apply w_region
      | apply o_end
      | apply t_normal
      | (apply o_val; exact kc0; exact kc2)
      | apply w_ret
      | apply w_exit
      | apply t_exit
      | apply b_here
      | (apply w_false; exact kc3)
      | fail)
    · apply f_retf
      · simp [*]; rfl
      · simp
      · rw [e]
end Go.Proofs.Ytknkkfdkcemolaa.Vm
end
section
/-
  DERIVED: THE SHELF's CONTRACTS AT THIS DUMP, IN PLAIN WORDS (tools/lay-plain.mjs out of 'TryShelf.lean', which tools/lay-shelf.mjs wrote): THE SAME DECLARATIONS UNDER THE SAME NAMES: 'import', 'namespace', 'open', 'def', 'theorem' AND NOTHING ELSE: no command of the shelf's: FOR A HAND-IN. Each laying: the table of numbers ('.._ren') and one theorem, a field a fact of the dump's own or the kernel's comparison; each contract: ONE APPLICATION.
-/
namespace Go.Proofs
open Go.Shelf
def Try.lays169_ren : Go.Shelf.Ren := ⟨fun | 169 => 23 | n => n, fun | 70 => 55 | 9 => 9 | 0 => 0 | 72 => 57 | 37 => 47 | 127 => 94 | 3 => 3 | 5 => 5 | n => n, fun | n => n⟩
theorem Try.lays169 : Go.Proofs.Lays.n169 Try.prog Try.lays169_ren := {
  mixed := by kernel_rfl
  f169 := Try.func23.trans (congrArg some (by kernel_rfl))
  t0 := Try.underlying0
  a0 := Try.isAgg0
  z0 := Try.sizeOf0
  v0 := Try.zeroValue0
  t3 := Try.underlying3
  a3 := Try.isAgg3
  z3 := Try.sizeOf3
  v3 := Try.zeroValue3
  t9 := Try.underlying9
  a9 := Try.isAgg9
  z9 := Try.sizeOf9
  v9 := Try.zeroValue9
  t37 := Try.underlying47
  a37 := Try.isAgg47
  z37 := Try.sizeOf47
  v37 := Try.zeroValue47
  t70 := Try.underlying55
  a70 := Try.isAgg55
  z70 := Try.sizeOf55
  v70 := Try.zeroValue55
  t72 := Try.underlying57
  a72 := Try.isAgg57
  z72 := Try.sizeOf57
  v72 := Try.zeroValue57
  t127 := Try.underlying94
  a127 := Try.isAgg94
  z127 := Try.sizeOf94
  v127 := Try.zeroValue94 }
theorem Try.Builder_Extra_169 : Builder.Extra Try.prog Try.lays169_ren := {
  sizeBuilder := by kernel_rfl
  liesBuilder := by kernel_rfl
  t5 := Try.underlying5
  a5 := Try.isAgg5
  z5 := Try.sizeOf5
  v5 := Try.zeroValue5
  infoByte := by kernel_rfl
  cellsByte := by kernel_rfl
  sizeByte := by kernel_rfl
  neB5 := by decide }
open Go.RowKit in
/-- (*strings.Builder).String: "String returns the accumulated string.": OF A BUILDER THAT HOLDS AT LEAST ONE BYTE. ✋ THE MODEL FREEZES THOSE BYTES IN THE BUFFER (unsafe.String): a later write INTO them ends the model's run without an answer; a later append BEHIND them goes on. The statement's order of evaluation is drawn: one draw. (LAID: no walk: one application.) -/
theorem Try.Builder_String (B b : Nat) (l : List UInt8) (w : World) (h : Lib.IsBuilder 57 5 B b (Lib.byteCells l) w) (h0 : l ≠ []) :
    Calls Try.prog 23 #[.pointer (some ⟨b, 0, none⟩)] w fun e w' => e = .returned (.string ⟨l.toArray⟩) ∧ Below B w w' := Any.Builder_String Try.lays169 Try.Builder_Extra_169 B b l w h h0
open Go.RowKit in
/-- (*strings.Builder).String OF A BUILDER THAT HOLDS NO BYTE: the empty string. (Its buffer is nil, or a row of which it has taken nothing yet; where that row has NO capacity the model lays one new block for unsafe.SliceData's 'some address'.) One draw. (LAID: no walk: one application.) -/
theorem Try.Builder_String_empty (B b : Nat) (w : World) (h : Lib.IsBuilder 57 5 B b [] w) (hBw : B ≤ w.heap.size) :
    Calls Try.prog 23 #[.pointer (some ⟨b, 0, none⟩)] w fun e w' => e = .returned (.string ⟨#[]⟩) ∧ Below B w w' := Any.Builder_String_empty Try.lays169 Try.Builder_Extra_169 B b w h hBw
open Go.RowKit in
/-- (*strings.Builder).String: "String returns the accumulated string.": WHATEVER THE BUILDER HOLDS. (LAID: no walk: one application.) -/
theorem Try.Builder_String_any (B b : Nat) (l : List UInt8) (w : World) (h : Lib.IsBuilder 57 5 B b (Lib.byteCells l) w) (hBw : B ≤ w.heap.size) :
    Calls Try.prog 23 #[.pointer (some ⟨b, 0, none⟩)] w fun e w' => e = .returned (.string ⟨l.toArray⟩) ∧ Below B w w' := Any.Builder_String_any Try.lays169 Try.Builder_Extra_169 B b l w h hBw
def Try.lays241_ren : Go.Shelf.Ren := ⟨fun | 241 => 50 | 277 => 70 | n => n, fun | 70 => 55 | 3 => 3 | 0 => 0 | 72 => 57 | 37 => 47 | 5 => 5 | n => n, fun | n => n⟩
theorem Try.lays241 : Go.Proofs.Lays.n241 Try.prog Try.lays241_ren := {
  mixed := by kernel_rfl
  f241 := Try.func50.trans (congrArg some (by kernel_rfl))
  f277 := Try.func70.trans (congrArg some (by kernel_rfl))
  t0 := Try.underlying0
  a0 := Try.isAgg0
  z0 := Try.sizeOf0
  v0 := Try.zeroValue0
  t3 := Try.underlying3
  a3 := Try.isAgg3
  z3 := Try.sizeOf3
  v3 := Try.zeroValue3
  t37 := Try.underlying47
  a37 := Try.isAgg47
  z37 := Try.sizeOf47
  v37 := Try.zeroValue47
  t70 := Try.underlying55
  a70 := Try.isAgg55
  z70 := Try.sizeOf55
  v70 := Try.zeroValue55
  t72 := Try.underlying57
  a72 := Try.isAgg57
  z72 := Try.sizeOf57
  v72 := Try.zeroValue57 }
theorem Try.Builder_Extra_241 : Builder.Extra Try.prog Try.lays241_ren := {
  sizeBuilder := by kernel_rfl
  liesBuilder := by kernel_rfl
  t5 := Try.underlying5
  a5 := Try.isAgg5
  z5 := Try.sizeOf5
  v5 := Try.zeroValue5
  infoByte := by kernel_rfl
  cellsByte := by kernel_rfl
  sizeByte := by kernel_rfl
  neB5 := by decide }
open Go.RowKit in
/-- (*strings.Builder).grow (no doc but "grow copies the buffer to a new, larger buffer so that there are at least n bytes of capacity beyond len(b.buf)."): AT A BUILDER WITHOUT A BUFFER: a new row of whatever bytes for its buffer, none of them its own yet. Three draws. (LAID: no walk: one application.) -/
theorem Try.Builder_grow_fresh (B b n : Nat) (w : World) (hB : B ≤ b) (hbk : w.heap[b]? = some (.cells #[.pointer (some ⟨b, 0, none⟩), .slice none 0 0] 57 (0, 0))) (hBw : B ≤ w.heap.size) (hn : n ≤ 281474976710656) :
    Calls Try.prog 50 #[.pointer (some ⟨b, 0, none⟩), .int .i64 n] w fun e w' => e = .returned (.tuple #[]) ∧ (Lib.BuilderAt 57 5 B b (.pointer (some ⟨b, 0, none⟩)) [] w' ∧ Below B w w') := Any.Builder_grow_fresh Try.lays241 Try.Builder_Extra_241 B b n w hB hbk hBw hn
def Try.lays165_ren : Go.Shelf.Ren := ⟨fun | 165 => 34 | 240 => 33 | 241 => 50 | 276 => 49 | 277 => 70 | n => n, fun | 70 => 55 | 3 => 3 | 0 => 0 | 4 => 4 | 9 => 9 | 20 => 20 | 72 => 57 | 37 => 47 | 164 => 110 | 5 => 5 | n => n, fun | n => n⟩
theorem Try.lays165 : Go.Proofs.Lays.n165 Try.prog Try.lays165_ren := {
  mixed := by kernel_rfl
  f165 := Try.func34.trans (congrArg some (by kernel_rfl))
  f240 := Try.func33.trans (congrArg some (by kernel_rfl))
  f241 := Try.func50.trans (congrArg some (by kernel_rfl))
  f276 := Try.func49.trans (congrArg some (by kernel_rfl))
  f277 := Try.func70.trans (congrArg some (by kernel_rfl))
  t0 := Try.underlying0
  a0 := Try.isAgg0
  z0 := Try.sizeOf0
  v0 := Try.zeroValue0
  t3 := Try.underlying3
  a3 := Try.isAgg3
  z3 := Try.sizeOf3
  v3 := Try.zeroValue3
  t4 := Try.underlying4
  a4 := Try.isAgg4
  z4 := Try.sizeOf4
  v4 := Try.zeroValue4
  t9 := Try.underlying9
  a9 := Try.isAgg9
  z9 := Try.sizeOf9
  v9 := Try.zeroValue9
  t20 := Try.underlying20
  a20 := Try.isAgg20
  z20 := Try.sizeOf20
  v20 := Try.zeroValue20
  t37 := Try.underlying47
  a37 := Try.isAgg47
  z37 := Try.sizeOf47
  v37 := Try.zeroValue47
  t70 := Try.underlying55
  a70 := Try.isAgg55
  z70 := Try.sizeOf55
  v70 := Try.zeroValue55
  t72 := Try.underlying57
  a72 := Try.isAgg57
  z72 := Try.sizeOf57
  v72 := Try.zeroValue57
  t164 := Try.underlying110
  a164 := Try.isAgg110
  z164 := Try.sizeOf110
  v164 := Try.zeroValue110 }
theorem Try.Builder_Extra_165 : Builder.Extra Try.prog Try.lays165_ren := {
  sizeBuilder := by kernel_rfl
  liesBuilder := by kernel_rfl
  t5 := Try.underlying5
  a5 := Try.isAgg5
  z5 := Try.sizeOf5
  v5 := Try.zeroValue5
  infoByte := by kernel_rfl
  cellsByte := by kernel_rfl
  sizeByte := by kernel_rfl
  neB5 := by decide }
open Go.RowKit in
/-- (*strings.Builder).Grow AT A BUILDER THAT HAS NOT BEEN WRITTEN ('var b strings.Builder; b.Grow(n)'): "Grow grows b's capacity, if necessary, to guarantee space for another n bytes.": it holds no byte behind it as before it. (LAID: no walk: one application.) -/
theorem Try.Builder_Grow_fresh (B b n : Nat) (w : World) (hB : B ≤ b) (hbk : w.heap[b]? = some (.cells #[.pointer none, .slice none 0 0] 57 (0, 0))) (hBw : B ≤ w.heap.size) (hn : n ≤ 281474976710656) :
    Calls Try.prog 34 #[.pointer (some ⟨b, 0, none⟩), .int .i64 n] w fun e w' => e = .returned (.tuple #[]) ∧ (Lib.BuilderAt 57 5 B b (.pointer (some ⟨b, 0, none⟩)) [] w' ∧ Below B w w') := Any.Builder_Grow_fresh Try.lays165 Try.Builder_Extra_165 B b n w hB hbk hBw hn
def Try.lays156_ren : Go.Shelf.Ren := ⟨fun | 156 => 19 | 165 => 34 | 166 => 18 | 169 => 23 | 240 => 33 | 241 => 50 | 276 => 49 | 277 => 70 | n => n, fun | 31 => 50 | 9 => 9 | 3 => 3 | 4 => 4 | 0 => 0 | 20 => 20 | 72 => 57 | 76 => 64 | 70 => 55 | 37 => 47 | 75 => 63 | 127 => 94 | 164 => 110 | 5 => 5 | 80 => 70 | n => n, fun | n => n⟩
theorem Try.lays156 : Go.Proofs.Lays.n156 Try.prog Try.lays156_ren := {
  mixed := by kernel_rfl
  f156 := Try.func19.trans (congrArg some (by kernel_rfl))
  f165 := Try.func34.trans (congrArg some (by kernel_rfl))
  f166 := Try.func18.trans (congrArg some (by kernel_rfl))
  f169 := Try.func23.trans (congrArg some (by kernel_rfl))
  f240 := Try.func33.trans (congrArg some (by kernel_rfl))
  f241 := Try.func50.trans (congrArg some (by kernel_rfl))
  f276 := Try.func49.trans (congrArg some (by kernel_rfl))
  f277 := Try.func70.trans (congrArg some (by kernel_rfl))
  t0 := Try.underlying0
  a0 := Try.isAgg0
  z0 := Try.sizeOf0
  v0 := Try.zeroValue0
  t3 := Try.underlying3
  a3 := Try.isAgg3
  z3 := Try.sizeOf3
  v3 := Try.zeroValue3
  t4 := Try.underlying4
  a4 := Try.isAgg4
  z4 := Try.sizeOf4
  v4 := Try.zeroValue4
  t9 := Try.underlying9
  a9 := Try.isAgg9
  z9 := Try.sizeOf9
  v9 := Try.zeroValue9
  t20 := Try.underlying20
  a20 := Try.isAgg20
  z20 := Try.sizeOf20
  v20 := Try.zeroValue20
  t31 := Try.underlying50
  a31 := Try.isAgg50
  z31 := Try.sizeOf50
  v31 := Try.zeroValue50
  t37 := Try.underlying47
  a37 := Try.isAgg47
  z37 := Try.sizeOf47
  v37 := Try.zeroValue47
  t70 := Try.underlying55
  a70 := Try.isAgg55
  z70 := Try.sizeOf55
  v70 := Try.zeroValue55
  t72 := Try.underlying57
  a72 := Try.isAgg57
  z72 := Try.sizeOf57
  v72 := Try.zeroValue57
  t75 := Try.underlying63
  a75 := Try.isAgg63
  z75 := Try.sizeOf63
  v75 := Try.zeroValue63
  t76 := Try.underlying64
  a76 := Try.isAgg64
  z76 := Try.sizeOf64
  v76 := Try.zeroValue64
  t127 := Try.underlying94
  a127 := Try.isAgg94
  z127 := Try.sizeOf94
  v127 := Try.zeroValue94
  t164 := Try.underlying110
  a164 := Try.isAgg110
  z164 := Try.sizeOf110
  v164 := Try.zeroValue110 }
theorem Try.Builder_Extra_156 : Builder.Extra Try.prog Try.lays156_ren := {
  sizeBuilder := by kernel_rfl
  liesBuilder := by kernel_rfl
  t5 := Try.underlying5
  a5 := Try.isAgg5
  z5 := Try.sizeOf5
  v5 := Try.zeroValue5
  infoByte := by kernel_rfl
  cellsByte := by kernel_rfl
  sizeByte := by kernel_rfl
  neB5 := by decide }
open Go.RowKit in
/-- No element: the empty string; the world is as it was. (Whatever the slice's address and capacity: a nil slice too.) (LAID: no walk: one application.) -/
theorem Try.strings_Join_none (a : Option Addr) (c : Nat) (sep : ByteArray) (w : World) :
    Calls Try.prog 19 #[.slice a 0 c, .string sep] w fun e w' => e = .returned (.string ⟨#[]⟩) ∧ w' = w := Any.strings_Join_none Try.lays156 Try.Builder_Extra_156 a c sep w
open Go.RowKit in
/-- strings.Join: "Join concatenates the elements of its first argument to create a single string. The separator string sep is placed between elements in the resulting string.": HOWEVER MANY ELEMENTS. Below the heap's end the world is as it was. (LAID: no walk: one application.) -/
theorem Try.strings_Join (bk o c : Nat) (xs : List ByteArray) (sep : ByteArray) (w : World) (hcells : ∀ (j : Nat) x, xs[j]? = some x → w.cell? ⟨bk, o + j, none⟩ = some (.string x)) (hbk : bk < w.heap.size) (hN : xs.length ≤ 140737488355328) (hcap : xs.length ≤ c) (hlen : (Lib.join (xs.map (·.data.toList)) sep.data.toList).length ≤ 140737488355328) :
    Calls Try.prog 19 #[.slice (some ⟨bk, o, none⟩) xs.length c, .string sep] w fun e w' => e = .returned (.string ⟨(Lib.join (xs.map (·.data.toList)) sep.data.toList).toArray⟩) ∧ Below w.heap.size w w' := Any.strings_Join Try.lays156 Try.Builder_Extra_156 bk o c xs sep w hcells hbk hN hcap hlen
def Try.lays137_ren : Go.Shelf.Ren := ⟨fun | 137 => 63 | 217 => 73 | 266 => 79 | n => n, fun | 9 => 9 | 5 => 5 | 3 => 3 | n => n, fun | n => n⟩
theorem Try.lays137 : Go.Proofs.Lays.n137 Try.prog Try.lays137_ren := {
  mixed := by kernel_rfl
  f137 := Try.func63.trans (congrArg some (by kernel_rfl))
  f217 := Try.func73.trans (congrArg some (by kernel_rfl))
  f266 := Try.func79.trans (congrArg some (by kernel_rfl))
  t3 := Try.underlying3
  a3 := Try.isAgg3
  z3 := Try.sizeOf3
  v3 := Try.zeroValue3
  t5 := Try.underlying5
  a5 := Try.isAgg5
  z5 := Try.sizeOf5
  v5 := Try.zeroValue5
  t9 := Try.underlying9
  a9 := Try.isAgg9
  z9 := Try.sizeOf9
  v9 := Try.zeroValue9 }
open Go.RowKit in
/-- strings.IndexByte: "IndexByte returns the index of the first instance of c in s, or -1 if c is not present in s.": IT RETURNS 'Lib.indexByte s c'; the world is as it was. (LAID: no walk: one application.) -/
theorem Try.strings_IndexByte (s : ByteArray) (c : Int) (w : World) :
    Calls Try.prog 63 #[.string s, .int .u8 c] w fun e w' => e = .returned (.int .i64 (Lib.indexByte s.data.toList c.toNat.toUInt8)) ∧ w' = w := Any.strings_IndexByte Try.lays137 s c w
open Go.RowKit in
/-- (*strings.Builder).String: "String returns the accumulated string.": OF A BUILDER THAT HOLDS AT LEAST ONE BYTE. ✋ THE MODEL FREEZES THOSE BYTES IN THE BUFFER (unsafe.String): a later write INTO them ends the model's run without an answer; a later append BEHIND them goes on. The statement's order of evaluation is drawn: one draw. THE FORM '_f': IT SAYS BESIDES THAT THE BUILDER IS A BUILDER STILL ('Lib.IsBuilderF', the same bytes): SO IT CAN BE WRITTEN ON: 'b.WriteString(b.String()[:k])'. (LAID: no walk: one application.) -/
theorem Try.Builder_String_f (B b : Nat) (l : List UInt8) (w : World) (h : Lib.IsBuilderF 57 5 B b (Lib.byteCells l) w) (h0 : l ≠ []) :
    Calls Try.prog 23 #[.pointer (some ⟨b, 0, none⟩)] w fun e w' => e = .returned (.string ⟨l.toArray⟩) ∧ (Lib.IsBuilderF 57 5 B b (Lib.byteCells l) w' ∧ Below B w w') := Any.Builder_String_f Try.lays169 Try.Builder_Extra_169 B b l w h h0
open Go.RowKit in
/-- (*strings.Builder).String OF A BUILDER THAT HOLDS NO BYTE: the empty string; THE FORM '_f': a builder still. (LAID: no walk: one application.) -/
theorem Try.Builder_String_empty_f (B b : Nat) (w : World) (h : Lib.IsBuilderF 57 5 B b [] w) (hBw : B ≤ w.heap.size) :
    Calls Try.prog 23 #[.pointer (some ⟨b, 0, none⟩)] w fun e w' => e = .returned (.string ⟨#[]⟩) ∧ (Lib.IsBuilderF 57 5 B b [] w' ∧ Below B w w') := Any.Builder_String_empty_f Try.lays169 Try.Builder_Extra_169 B b w h hBw
open Go.RowKit in
/-- (*strings.Builder).String: "String returns the accumulated string.": WHATEVER THE BUILDER HOLDS; THE FORM '_f': OF A BUILDER THAT MAY HAVE BEEN READ BEFORE; AND IT IS A BUILDER STILL, holding the same bytes: it can be written on. (LAID: no walk: one application.) -/
theorem Try.Builder_String_any_f (B b : Nat) (l : List UInt8) (w : World) (h : Lib.IsBuilderF 57 5 B b (Lib.byteCells l) w) (hBw : B ≤ w.heap.size) :
    Calls Try.prog 23 #[.pointer (some ⟨b, 0, none⟩)] w fun e w' => e = .returned (.string ⟨l.toArray⟩) ∧ (Lib.IsBuilderF 57 5 B b (Lib.byteCells l) w' ∧ Below B w w') := Any.Builder_String_any_f Try.lays169 Try.Builder_Extra_169 B b l w h hBw
def Try.lays217_ren : Go.Shelf.Ren := ⟨fun | 217 => 73 | 266 => 79 | n => n, fun | 9 => 9 | 5 => 5 | 3 => 3 | n => n, fun | n => n⟩
theorem Try.lays217 : Go.Proofs.Lays.n217 Try.prog Try.lays217_ren := {
  mixed := by kernel_rfl
  f217 := Try.func73.trans (congrArg some (by kernel_rfl))
  f266 := Try.func79.trans (congrArg some (by kernel_rfl))
  t3 := Try.underlying3
  a3 := Try.isAgg3
  z3 := Try.sizeOf3
  v3 := Try.zeroValue3
  t5 := Try.underlying5
  a5 := Try.isAgg5
  z5 := Try.sizeOf5
  v5 := Try.zeroValue5
  t9 := Try.underlying9
  a9 := Try.isAgg9
  z9 := Try.sizeOf9
  v9 := Try.zeroValue9 }
open Go.RowKit Go.Lib in
/-- internal/stringslite.IndexByte (what strings.IndexByte calls): IT RETURNS 'Lib.indexByte s c'; the world is as it was. (LAID: no walk: one application.) -/
theorem Try.stringslite_IndexByte (s : ByteArray) (c : Int) (w : World) :
    Calls Try.prog 73 #[.string s, .int .u8 c] w fun e w' => e = .returned (.int .i64 (Lib.indexByte s.data.toList c.toNat.toUInt8)) ∧ w' = w := Any.stringslite_IndexByte Try.lays217 s c w
def Try.lays224_ren : Go.Shelf.Ren := ⟨fun | 224 => 82 | n => n, fun | 3 => 3 | n => n, fun | n => n⟩
theorem Try.lays224 : Go.Proofs.Lays.n224 Try.prog Try.lays224_ren := {
  mixed := by kernel_rfl
  f224 := Try.func82.trans (congrArg some (by kernel_rfl))
  t3 := Try.underlying3
  a3 := Try.isAgg3
  z3 := Try.sizeOf3
  v3 := Try.zeroValue3 }
open Go.RowKit Go.Lib in
/-- internal/bytealg.Cutover: "Cutover reports the number of failures of IndexByte we should tolerate before switching over to Index. n is the number of bytes processed so far.": on amd64: (n + 16) / 8. (LAID: no walk: one application.) -/
theorem Try.bytealg_Cutover (n : Int) (h0 : 0 ≤ n) (h1 : n < 4611686018427387904) (w : World) :
    Calls Try.prog 82 #[.int .i64 n] w fun e w' => e = .returned (.int .i64 ((n + 16) / 8)) ∧ w' = w := Any.bytealg_Cutover Try.lays224 n h0 h1 w
def Try.lays314_ren : Go.Shelf.Ren := ⟨fun | 314 => 84 | n => n, fun | 9 => 9 | 51 => 126 | 3 => 3 | 4 => 4 | 5 => 5 | 46 => 84 | n => n, fun | n => n⟩
theorem Try.lays314 : Go.Proofs.Lays.n314 Try.prog Try.lays314_ren := {
  mixed := by kernel_rfl
  f314 := Try.func84.trans (congrArg some (by kernel_rfl))
  t3 := Try.underlying3
  a3 := Try.isAgg3
  z3 := Try.sizeOf3
  v3 := Try.zeroValue3
  t4 := Try.underlying4
  a4 := Try.isAgg4
  z4 := Try.sizeOf4
  v4 := Try.zeroValue4
  t5 := Try.underlying5
  a5 := Try.isAgg5
  z5 := Try.sizeOf5
  v5 := Try.zeroValue5
  t9 := Try.underlying9
  a9 := Try.isAgg9
  z9 := Try.sizeOf9
  v9 := Try.zeroValue9
  t46 := Try.underlying84
  a46 := Try.isAgg84
  z46 := Try.sizeOf84
  v46 := Try.zeroValue84
  t51 := Try.underlying126
  a51 := Try.isAgg126
  z51 := Try.sizeOf126
  v51 := Try.zeroValue126 }
open Go.RowKit Go.Lib in
/-- hashStr: "returns the hash and the appropriate multiplicative factor for use in Rabin-Karp algorithm": THE HASH OF ALL OF sep, AND 16777619 ^ len(sep), both in uint32. (LAID: no walk: one application.) -/
theorem Try.bytealg_hashStr (sep : ByteArray) (hs : sep.size < 4294967281) (w : World) :
    Calls Try.prog 84 #[.string sep] w fun e w' => e = .returned (.tuple #[.int .u32 (RK.H sep.data.toList % 4294967296), .int .u32 (16777619 ^ sep.size % 4294967296)]) ∧ w' = w := Any.bytealg_hashStr Try.lays314 sep hs w
def Try.lays267_ren : Go.Shelf.Ren := ⟨fun | 267 => 83 | 314 => 84 | n => n, fun | 9 => 9 | 3 => 3 | 146 => 127 | 51 => 126 | 4 => 4 | 5 => 5 | 46 => 84 | n => n, fun | n => n⟩
theorem Try.lays267 : Go.Proofs.Lays.n267 Try.prog Try.lays267_ren := {
  mixed := by kernel_rfl
  f267 := Try.func83.trans (congrArg some (by kernel_rfl))
  f314 := Try.func84.trans (congrArg some (by kernel_rfl))
  t3 := Try.underlying3
  a3 := Try.isAgg3
  z3 := Try.sizeOf3
  v3 := Try.zeroValue3
  t4 := Try.underlying4
  a4 := Try.isAgg4
  z4 := Try.sizeOf4
  v4 := Try.zeroValue4
  t5 := Try.underlying5
  a5 := Try.isAgg5
  z5 := Try.sizeOf5
  v5 := Try.zeroValue5
  t9 := Try.underlying9
  a9 := Try.isAgg9
  z9 := Try.sizeOf9
  v9 := Try.zeroValue9
  t46 := Try.underlying84
  a46 := Try.isAgg84
  z46 := Try.sizeOf84
  v46 := Try.zeroValue84
  t51 := Try.underlying126
  a51 := Try.isAgg126
  z51 := Try.sizeOf126
  v51 := Try.zeroValue126
  t146 := Try.underlying127
  a146 := Try.isAgg127
  z146 := Try.sizeOf127
  v146 := Try.zeroValue127 }
open Go.RowKit Go.Lib in
theorem Try.bytealg_IndexRabinKarp (s sep : ByteArray) (h1 : 1 ≤ sep.size) (h2 : sep.size ≤ s.size) (hs : s.size < 4294967281) (w : World) :
    Calls Try.prog 83 #[.string s, .string sep] w fun e w' => e = .returned (.int .i64 (Lib.index s.data.toList sep.data.toList)) ∧ w' = w := Any.bytealg_IndexRabinKarp Try.lays267 s sep h1 h2 hs w
def Try.lays219_ren : Go.Shelf.Ren := ⟨fun | 219 => 80 | 217 => 73 | 225 => 81 | 224 => 82 | 267 => 83 | 266 => 79 | 314 => 84 | n => n, fun | 9 => 9 | 3 => 3 | 4 => 4 | 5 => 5 | 46 => 84 | 146 => 127 | 51 => 126 | n => n, fun | 1 => 0 | n => n⟩
theorem Try.lays219 : Go.Proofs.Lays.n219 Try.prog Try.lays219_ren := {
  mixed := by kernel_rfl
  f217 := Try.func73.trans (congrArg some (by kernel_rfl))
  f219 := Try.func80.trans (congrArg some (by kernel_rfl))
  f224 := Try.func82.trans (congrArg some (by kernel_rfl))
  f225 := Try.func81.trans (congrArg some (by kernel_rfl))
  f266 := Try.func79.trans (congrArg some (by kernel_rfl))
  f267 := Try.func83.trans (congrArg some (by kernel_rfl))
  f314 := Try.func84.trans (congrArg some (by kernel_rfl))
  t3 := Try.underlying3
  a3 := Try.isAgg3
  z3 := Try.sizeOf3
  v3 := Try.zeroValue3
  t4 := Try.underlying4
  a4 := Try.isAgg4
  z4 := Try.sizeOf4
  v4 := Try.zeroValue4
  t5 := Try.underlying5
  a5 := Try.isAgg5
  z5 := Try.sizeOf5
  v5 := Try.zeroValue5
  t9 := Try.underlying9
  a9 := Try.isAgg9
  z9 := Try.sizeOf9
  v9 := Try.zeroValue9
  t46 := Try.underlying84
  a46 := Try.isAgg84
  z46 := Try.sizeOf84
  v46 := Try.zeroValue84
  t51 := Try.underlying126
  a51 := Try.isAgg126
  z51 := Try.sizeOf126
  v51 := Try.zeroValue126
  t146 := Try.underlying127
  a146 := Try.isAgg127
  z146 := Try.sizeOf127
  v146 := Try.zeroValue127
  g1 := by kernel_rfl }
open Go.RowKit Go.Lib in
/-- internal/stringslite.Index (what strings.Index calls) AT A substr OF ONE BYTE c: IT RETURNS 'Lib.indexByte s c'; the world is as it was. (LAID: no walk: one application.) -/
theorem Try.stringslite_Index_one (s : ByteArray) (c : UInt8) (w : World) :
    Calls Try.prog 80 #[.string s, .string ⟨#[c]⟩] w fun e w' => e = .returned (.int .i64 (Lib.indexByte s.data.toList c)) ∧ w' = w := Any.stringslite_Index_one Try.lays219 s c w
open Go.RowKit Go.Lib in
/-- internal/stringslite.Index (what strings.Index calls) AT A substr OF WHATEVER LENGTH: IT RETURNS 'Lib.index s substr'; the world is as it was. 'm': what internal/bytealg.MaxLen holds: whatever. (LAID: no walk: one application.) -/
theorem Try.stringslite_Index (s sub : ByteArray) (m : Int) (w : World) (hs : s.size < 4294967281) (hm : w.cell? ⟨0, 0, none⟩ = some (.int .i64 m)) :
    Calls Try.prog 80 #[.string s, .string sub] w fun e w' => e = .returned (.int .i64 (Lib.index s.data.toList sub.data.toList)) ∧ w' = w := Any.stringslite_Index Try.lays219 s sub m w hs hm
def Try.lays143_ren : Go.Shelf.Ren := ⟨fun | 143 => 78 | 219 => 80 | 217 => 73 | 225 => 81 | 224 => 82 | 267 => 83 | 266 => 79 | 314 => 84 | n => n, fun | 9 => 9 | 3 => 3 | 4 => 4 | 5 => 5 | 46 => 84 | 146 => 127 | 51 => 126 | n => n, fun | 1 => 0 | n => n⟩
theorem Try.lays143 : Go.Proofs.Lays.n143 Try.prog Try.lays143_ren := {
  mixed := by kernel_rfl
  f143 := Try.func78.trans (congrArg some (by kernel_rfl))
  f217 := Try.func73.trans (congrArg some (by kernel_rfl))
  f219 := Try.func80.trans (congrArg some (by kernel_rfl))
  f224 := Try.func82.trans (congrArg some (by kernel_rfl))
  f225 := Try.func81.trans (congrArg some (by kernel_rfl))
  f266 := Try.func79.trans (congrArg some (by kernel_rfl))
  f267 := Try.func83.trans (congrArg some (by kernel_rfl))
  f314 := Try.func84.trans (congrArg some (by kernel_rfl))
  t3 := Try.underlying3
  a3 := Try.isAgg3
  z3 := Try.sizeOf3
  v3 := Try.zeroValue3
  t4 := Try.underlying4
  a4 := Try.isAgg4
  z4 := Try.sizeOf4
  v4 := Try.zeroValue4
  t5 := Try.underlying5
  a5 := Try.isAgg5
  z5 := Try.sizeOf5
  v5 := Try.zeroValue5
  t9 := Try.underlying9
  a9 := Try.isAgg9
  z9 := Try.sizeOf9
  v9 := Try.zeroValue9
  t46 := Try.underlying84
  a46 := Try.isAgg84
  z46 := Try.sizeOf84
  v46 := Try.zeroValue84
  t51 := Try.underlying126
  a51 := Try.isAgg126
  z51 := Try.sizeOf126
  v51 := Try.zeroValue126
  t146 := Try.underlying127
  a146 := Try.isAgg127
  z146 := Try.sizeOf127
  v146 := Try.zeroValue127
  g1 := by kernel_rfl }
open Go.RowKit Go.Lib in
/-- strings.Index: "Index returns the index of the first instance of substr in s, or -1 if substr is not present in s.": AT A substr OF ONE BYTE c: IT RETURNS 'Lib.indexByte s c'; the world is as it was. (LAID: no walk: one application.) -/
theorem Try.strings_Index_one (s : ByteArray) (c : UInt8) (w : World) :
    Calls Try.prog 78 #[.string s, .string ⟨#[c]⟩] w fun e w' => e = .returned (.int .i64 (Lib.indexByte s.data.toList c)) ∧ w' = w := Any.strings_Index_one Try.lays143 s c w
open Go.RowKit Go.Lib in
/-- strings.Index: "Index returns the index of the first instance of substr in s, or -1 if substr is not present in s.": IT RETURNS 'Lib.index s substr'; the world is as it was. (LAID: no walk: one application.) -/
theorem Try.strings_Index (s sub : ByteArray) (m : Int) (w : World) (hs : s.size < 4294967281) (hm : w.cell? ⟨0, 0, none⟩ = some (.int .i64 m)) :
    Calls Try.prog 78 #[.string s, .string sub] w fun e w' => e = .returned (.int .i64 (Lib.index s.data.toList sub.data.toList)) ∧ w' = w := Any.strings_Index Try.lays143 s sub m w hs hm
def Try.lays144_ren : Go.Shelf.Ren := ⟨fun | 144 => 72 | 143 => 78 | 219 => 80 | 217 => 73 | 225 => 81 | 224 => 82 | 267 => 83 | 266 => 79 | 314 => 84 | n => n, fun | 9 => 9 | 4 => 4 | 3 => 3 | 5 => 5 | 46 => 84 | 146 => 127 | 51 => 126 | n => n, fun | 1 => 0 | n => n⟩
theorem Try.lays144 : Go.Proofs.Lays.n144 Try.prog Try.lays144_ren := {
  mixed := by kernel_rfl
  f143 := Try.func78.trans (congrArg some (by kernel_rfl))
  f144 := Try.func72.trans (congrArg some (by kernel_rfl))
  f217 := Try.func73.trans (congrArg some (by kernel_rfl))
  f219 := Try.func80.trans (congrArg some (by kernel_rfl))
  f224 := Try.func82.trans (congrArg some (by kernel_rfl))
  f225 := Try.func81.trans (congrArg some (by kernel_rfl))
  f266 := Try.func79.trans (congrArg some (by kernel_rfl))
  f267 := Try.func83.trans (congrArg some (by kernel_rfl))
  f314 := Try.func84.trans (congrArg some (by kernel_rfl))
  t3 := Try.underlying3
  a3 := Try.isAgg3
  z3 := Try.sizeOf3
  v3 := Try.zeroValue3
  t4 := Try.underlying4
  a4 := Try.isAgg4
  z4 := Try.sizeOf4
  v4 := Try.zeroValue4
  t5 := Try.underlying5
  a5 := Try.isAgg5
  z5 := Try.sizeOf5
  v5 := Try.zeroValue5
  t9 := Try.underlying9
  a9 := Try.isAgg9
  z9 := Try.sizeOf9
  v9 := Try.zeroValue9
  t46 := Try.underlying84
  a46 := Try.isAgg84
  z46 := Try.sizeOf84
  v46 := Try.zeroValue84
  t51 := Try.underlying126
  a51 := Try.isAgg126
  z51 := Try.sizeOf126
  v51 := Try.zeroValue126
  t146 := Try.underlying127
  a146 := Try.isAgg127
  z146 := Try.sizeOf127
  v146 := Try.zeroValue127
  g1 := by kernel_rfl }
open Go.RowKit Go.Lib in
/-- strings.Contains: "Contains reports whether substr is within s.": AT A substr OF ONE BYTE c: IT RETURNS 'decide (0 ≤ Lib.indexByte s c)'; the world is as it was. (LAID: no walk: one application.) -/
theorem Try.strings_Contains_one (s : ByteArray) (c : UInt8) (w : World) :
    Calls Try.prog 72 #[.string s, .string ⟨#[c]⟩] w fun e w' => e = .returned (.bool (decide (0 ≤ Lib.indexByte s.data.toList c))) ∧ w' = w := Any.strings_Contains_one Try.lays144 s c w
open Go.RowKit Go.Lib in
/-- strings.Contains: "Contains reports whether substr is within s.": IT RETURNS 'Lib.contains s substr'; the world is as it was. (LAID: no walk: one application.) -/
theorem Try.strings_Contains (s sub : ByteArray) (m : Int) (w : World) (hs : s.size < 4294967281) (hm : w.cell? ⟨0, 0, none⟩ = some (.int .i64 m)) :
    Calls Try.prog 72 #[.string s, .string sub] w fun e w' => e = .returned (.bool (Lib.contains s.data.toList sub.data.toList)) ∧ w' = w := Any.strings_Contains Try.lays144 s sub m w hs hm
def Try.laysM219_ren : Go.Shelf.Ren := ⟨fun | 219 => 80 | 217 => 73 | 225 => 81 | 224 => 82 | 267 => 83 | 266 => 79 | 314 => 84 | n => n, fun | 9 => 9 | 3 => 3 | 4 => 4 | 5 => 5 | 46 => 84 | 146 => 127 | 51 => 126 | n => n, fun | 1 => 0 | n => n⟩
theorem Try.laysM219 : Go.Proofs.LaysM.n219 Try.prog Try.laysM219_ren := {
  mixed := by kernel_rfl
  f217 := Try.func73.trans (congrArg some (by kernel_rfl))
  f219 := Try.func80.trans (congrArg some (by kernel_rfl))
  f224 := Try.func82.trans (congrArg some (by kernel_rfl))
  f225 := Try.func81.trans (congrArg some (by kernel_rfl))
  f266 := Try.func79.trans (congrArg some (by kernel_rfl))
  f267 := Try.func83.trans (congrArg some (by kernel_rfl))
  f314 := Try.func84.trans (congrArg some (by kernel_rfl))
  t3 := Try.underlying3
  a3 := Try.isAgg3
  z3 := Try.sizeOf3
  v3 := Try.zeroValue3
  t4 := Try.underlying4
  a4 := Try.isAgg4
  z4 := Try.sizeOf4
  v4 := Try.zeroValue4
  t5 := Try.underlying5
  a5 := Try.isAgg5
  z5 := Try.sizeOf5
  v5 := Try.zeroValue5
  t9 := Try.underlying9
  a9 := Try.isAgg9
  z9 := Try.sizeOf9
  v9 := Try.zeroValue9
  t46 := Try.underlying84
  a46 := Try.isAgg84
  z46 := Try.sizeOf84
  v46 := Try.zeroValue84
  t51 := Try.underlying126
  a51 := Try.isAgg126
  z51 := Try.sizeOf126
  v51 := Try.zeroValue126
  t146 := Try.underlying127
  a146 := Try.isAgg127
  z146 := Try.sizeOf127
  v146 := Try.zeroValue127
  g1 := by kernel_rfl
  i3 := by kernel_rfl
  i4 := by kernel_rfl
  i5 := by kernel_rfl
  i9 := by kernel_rfl
  i46 := by kernel_rfl
  i51 := by kernel_rfl
  i146 := by kernel_rfl
  m1 := by kernel_rfl
  s1_3 := fun w h => Go.Proofs.cell_of_shapedOpen_int (zero := #[.int .i64 0]) (t := 3) h (of_decide_eq_true (by kernel_rfl)) (by kernel_rfl) rfl (by kernel_rfl) (by kernel_rfl) Try.underlying3 }
open Go.RowKit Go.Lib in
theorem Try.stringslite_Index_shaped (s sub : ByteArray) (w : World) (h : w.ShapedOpen Try.prog) (hs : s.size < 4294967281) :
    Calls Try.prog 80 #[.string s, .string sub] w fun e w' => e = .returned (.int .i64 (Lib.index s.data.toList sub.data.toList)) ∧ w' = w := Any.stringslite_Index_shaped Try.laysM219 s sub w h hs
def Try.laysM143_ren : Go.Shelf.Ren := ⟨fun | 143 => 78 | 219 => 80 | 217 => 73 | 225 => 81 | 224 => 82 | 267 => 83 | 266 => 79 | 314 => 84 | n => n, fun | 9 => 9 | 3 => 3 | 4 => 4 | 5 => 5 | 46 => 84 | 146 => 127 | 51 => 126 | n => n, fun | 1 => 0 | n => n⟩
theorem Try.laysM143 : Go.Proofs.LaysM.n143 Try.prog Try.laysM143_ren := {
  mixed := by kernel_rfl
  f143 := Try.func78.trans (congrArg some (by kernel_rfl))
  f217 := Try.func73.trans (congrArg some (by kernel_rfl))
  f219 := Try.func80.trans (congrArg some (by kernel_rfl))
  f224 := Try.func82.trans (congrArg some (by kernel_rfl))
  f225 := Try.func81.trans (congrArg some (by kernel_rfl))
  f266 := Try.func79.trans (congrArg some (by kernel_rfl))
  f267 := Try.func83.trans (congrArg some (by kernel_rfl))
  f314 := Try.func84.trans (congrArg some (by kernel_rfl))
  t3 := Try.underlying3
  a3 := Try.isAgg3
  z3 := Try.sizeOf3
  v3 := Try.zeroValue3
  t4 := Try.underlying4
  a4 := Try.isAgg4
  z4 := Try.sizeOf4
  v4 := Try.zeroValue4
  t5 := Try.underlying5
  a5 := Try.isAgg5
  z5 := Try.sizeOf5
  v5 := Try.zeroValue5
  t9 := Try.underlying9
  a9 := Try.isAgg9
  z9 := Try.sizeOf9
  v9 := Try.zeroValue9
  t46 := Try.underlying84
  a46 := Try.isAgg84
  z46 := Try.sizeOf84
  v46 := Try.zeroValue84
  t51 := Try.underlying126
  a51 := Try.isAgg126
  z51 := Try.sizeOf126
  v51 := Try.zeroValue126
  t146 := Try.underlying127
  a146 := Try.isAgg127
  z146 := Try.sizeOf127
  v146 := Try.zeroValue127
  g1 := by kernel_rfl
  i3 := by kernel_rfl
  i4 := by kernel_rfl
  i5 := by kernel_rfl
  i9 := by kernel_rfl
  i46 := by kernel_rfl
  i51 := by kernel_rfl
  i146 := by kernel_rfl
  m1 := by kernel_rfl
  s1_3 := fun w h => Go.Proofs.cell_of_shapedOpen_int (zero := #[.int .i64 0]) (t := 3) h (of_decide_eq_true (by kernel_rfl)) (by kernel_rfl) rfl (by kernel_rfl) (by kernel_rfl) Try.underlying3 }
open Go.RowKit Go.Lib in
theorem Try.strings_Index_shaped (s sub : ByteArray) (w : World) (h : w.ShapedOpen Try.prog) (hs : s.size < 4294967281) :
    Calls Try.prog 78 #[.string s, .string sub] w fun e w' => e = .returned (.int .i64 (Lib.index s.data.toList sub.data.toList)) ∧ w' = w := Any.strings_Index_shaped Try.laysM143 s sub w h hs
def Try.laysM144_ren : Go.Shelf.Ren := ⟨fun | 144 => 72 | 143 => 78 | 219 => 80 | 217 => 73 | 225 => 81 | 224 => 82 | 267 => 83 | 266 => 79 | 314 => 84 | n => n, fun | 9 => 9 | 4 => 4 | 3 => 3 | 5 => 5 | 46 => 84 | 146 => 127 | 51 => 126 | n => n, fun | 1 => 0 | n => n⟩
theorem Try.laysM144 : Go.Proofs.LaysM.n144 Try.prog Try.laysM144_ren := {
  mixed := by kernel_rfl
  f143 := Try.func78.trans (congrArg some (by kernel_rfl))
  f144 := Try.func72.trans (congrArg some (by kernel_rfl))
  f217 := Try.func73.trans (congrArg some (by kernel_rfl))
  f219 := Try.func80.trans (congrArg some (by kernel_rfl))
  f224 := Try.func82.trans (congrArg some (by kernel_rfl))
  f225 := Try.func81.trans (congrArg some (by kernel_rfl))
  f266 := Try.func79.trans (congrArg some (by kernel_rfl))
  f267 := Try.func83.trans (congrArg some (by kernel_rfl))
  f314 := Try.func84.trans (congrArg some (by kernel_rfl))
  t3 := Try.underlying3
  a3 := Try.isAgg3
  z3 := Try.sizeOf3
  v3 := Try.zeroValue3
  t4 := Try.underlying4
  a4 := Try.isAgg4
  z4 := Try.sizeOf4
  v4 := Try.zeroValue4
  t5 := Try.underlying5
  a5 := Try.isAgg5
  z5 := Try.sizeOf5
  v5 := Try.zeroValue5
  t9 := Try.underlying9
  a9 := Try.isAgg9
  z9 := Try.sizeOf9
  v9 := Try.zeroValue9
  t46 := Try.underlying84
  a46 := Try.isAgg84
  z46 := Try.sizeOf84
  v46 := Try.zeroValue84
  t51 := Try.underlying126
  a51 := Try.isAgg126
  z51 := Try.sizeOf126
  v51 := Try.zeroValue126
  t146 := Try.underlying127
  a146 := Try.isAgg127
  z146 := Try.sizeOf127
  v146 := Try.zeroValue127
  g1 := by kernel_rfl
  i3 := by kernel_rfl
  i4 := by kernel_rfl
  i5 := by kernel_rfl
  i9 := by kernel_rfl
  i46 := by kernel_rfl
  i51 := by kernel_rfl
  i146 := by kernel_rfl
  m1 := by kernel_rfl
  s1_3 := fun w h => Go.Proofs.cell_of_shapedOpen_int (zero := #[.int .i64 0]) (t := 3) h (of_decide_eq_true (by kernel_rfl)) (by kernel_rfl) rfl (by kernel_rfl) (by kernel_rfl) Try.underlying3 }
open Go.RowKit Go.Lib in
theorem Try.strings_Contains_shaped (s sub : ByteArray) (w : World) (h : w.ShapedOpen Try.prog) (hs : s.size < 4294967281) :
    Calls Try.prog 72 #[.string s, .string sub] w fun e w' => e = .returned (.bool (Lib.contains s.data.toList sub.data.toList)) ∧ w' = w := Any.strings_Contains_shaped Try.laysM144 s sub w h hs
end Go.Proofs
end
section
/- Walks: words. -/
set_option linter.unusedSimpArgs false
set_option linter.unusedVariables false
set_option maxRecDepth 100000
set_option maxHeartbeats 4000000
namespace Go.Proofs.Ytknkkfdkcemolaa.Vm
open Go
variable {m : Int}
attribute [local irreducible] wpD opsD thenD blockD planD planA
attribute [local simp] List.take_of_length_le List.drop_of_length_le bne

theorem contains_ok (a b : List UInt8) (ha : a.length < 4294967281) : Ans (L m) 72 [.str a, .str b] (.bool (Lib.contains a b)) := by
  refine ext_ans ⟨_, Try.func72, rfl, by kernel_rfl⟩ fun c vs inv hg hsz hargs => ⟨.bool (Lib.contains a b), fun _ => .bool _, ?_⟩
  obtain ⟨s, hs, rfl⟩ := rep_str (hargs 0 _ rfl)
  obtain ⟨t, ht, rfl⟩ := rep_str (hargs 1 _ rfl)
  rw [args_two hsz, hs, ht]
  exact Try.strings_Contains s t m c.w (by simpa using ha) (gl_int hg rfl)
theorem indexByte_ok (a : List UInt8) (b : UInt8) : Ans (L m) 63 [.str a, .int .u8 b.toNat] (.int .i64 (Lib.indexByte a b)) := by
  refine ext_ans ⟨_, Try.func63, rfl, by kernel_rfl⟩ fun c vs inv hg hsz hargs => ⟨.int .i64 (Lib.indexByte a b), fun _ => .int _ _, ?_⟩
  obtain ⟨s, hs, rfl⟩ := rep_str (hargs 0 _ rfl)
  have ht := rep_int (hargs 1 _ rfl)
  rw [args_two hsz, hs, ht]
  have := Try.strings_IndexByte s b.toNat c.w
  rw [show (b.toNat : Int).toNat.toUInt8 = b from by simp] at this
  exact this

def flds : List UInt8 → List UInt8 → List (List UInt8)
  | cur, [] => [cur]
  | cur, b :: r => if b = 32 then cur :: flds [] r else flds (cur ++ [b]) r
theorem flds_app (s post : List UInt8) (hs : (32 : UInt8) ∉ s) : ∀ cur, flds cur (s ++ 32 :: post) = (cur ++ s) :: flds [] post := by
  induction s with
  | nil => intro cur; simp [flds]
  | cons b s ih =>
    intro cur
    simp only [List.mem_cons, not_or] at hs
    rw [List.cons_append, flds, if_neg (Ne.symm hs.1), ih hs.2]
    simp
theorem flds_mem (s : List UInt8) (hs : (32 : UInt8) ∉ s) : ∀ (t cur : List UInt8) (i : Nat), (32 :: s ++ [32]).isPrefixOf (t.drop i) = true → s ∈ flds cur t := by
  intro t
  induction t with
  | nil =>
    intro cur i h
    simp at h
  | cons b r ih =>
    intro cur i h
    cases i with
    | zero =>
      rw [List.isPrefixOf_iff_prefix] at h
      obtain ⟨post, hp⟩ := h
      simp only [List.drop_zero, List.cons_append, List.append_assoc, List.nil_append] at hp
      rw [← hp, flds, if_pos rfl, flds_app s post hs]
      simp
    | succ i =>
      rw [List.drop_succ_cons] at h
      unfold flds
      split
      · exact List.mem_cons_of_mem _ (ih _ i h)
      · exact ih _ i h
def allW : List UInt8 := [32, 111, 114, 105, 103, 105, 110, 32, 99, 111, 111, 107, 105, 101, 32, 115, 101, 99, 114, 101, 116, 32, 101, 110, 100, 112, 111, 105, 110, 116, 32, 112, 114, 111, 112, 101, 114, 116, 121, 32, 110, 101, 116, 119, 111, 114, 107, 32, 97, 116, 32, 112, 97, 103, 101, 32, 105, 110, 106, 101, 99, 116, 32, 115, 99, 114, 105, 112, 116, 32, 110, 101, 101, 100, 115, 32, 104, 101, 97, 100, 101, 114, 32, 111, 119, 110, 32, 115, 101, 116, 115, 32, 103, 105, 118, 101, 115, 32, 99, 104, 97, 110, 103, 101, 115, 32, 114, 101, 100, 105, 114, 101, 99, 116, 32, 111, 112, 101, 110, 32, 99, 111, 114, 115, 32, 97, 110, 121, 32, 99, 114, 101, 100, 101, 110, 116, 105, 97, 108, 115, 32, 97, 108, 108, 111, 119, 32, 109, 101, 116, 104, 111, 100, 115, 32, 99, 115, 112, 32, 97, 110, 100, 32, 111, 114, 32, 110, 111, 116, 32, 99, 104, 97, 110, 103, 101, 100, 32, 102, 111, 114, 103, 101, 100, 32, 107, 110, 111, 119, 115, 32, 115, 116, 111, 108, 101, 110, 32, 114, 97, 110, 32]
theorem allW_flds : flds [] allW = [] :: (wordsL ++ [[]]) := by decide
theorem word_in : ∀ w, w ∈ wordsL → Lib.contains allW (32 :: w ++ [32]) = true ∧ w ≠ [] ∧ (32 : UInt8) ∉ w := by decide +kernel
theorem contains_iff (s sub : List UInt8) : Lib.contains s sub = true ↔ ∃ i, i ≤ s.length ∧ sub.isPrefixOf (s.drop i) = true := by
  unfold Lib.contains
  rw [decide_eq_true_eq]
  constructor
  · intro h
    rcases Lib.index_spec s sub with ⟨h1, _⟩ | ⟨i, h1, h2, h3, _⟩
    · omega
    · exact ⟨i, h2, h3⟩
  · rintro ⟨i, h2, h3⟩
    rcases Lib.index_spec s sub with ⟨h1, h4⟩ | ⟨j, h1, _⟩
    · have := h4 i h2
      unfold Lib.occAt at this
      rw [h3] at this
      cases this
    · omega
theorem contains_space (s : List UInt8) : Lib.contains s [32] = s.any (fun c => c == 32) := by
  rw [Bool.eq_iff_iff, contains_iff, List.any_eq_true]
  constructor
  · rintro ⟨i, hi, h⟩
    rw [List.isPrefixOf_iff_prefix] at h
    obtain ⟨post, hp⟩ := h
    refine ⟨32, ?_, rfl⟩
    have : (32 : UInt8) ∈ s.drop i := by rw [← hp]; simp
    exact List.mem_of_mem_drop this
  · rintro ⟨x, hx, he⟩
    obtain rfl : x = 32 := by simpa using he
    obtain ⟨i, hi, hx⟩ := List.getElem_of_mem hx
    refine ⟨i, by omega, ?_⟩
    rw [List.drop_eq_getElem_cons hi, hx]
    simp
theorem word_same (s : List UInt8) : (!(s == []) && !Lib.contains s [32] && Lib.contains allW (32 :: s ++ [32])) = isWord s := by
  rw [Bool.eq_iff_iff]
  simp only [Bool.and_eq_true, Bool.not_eq_true', beq_eq_false_iff_ne, isWord, List.any_eq_true, beq_iff_eq]
  constructor
  · rintro ⟨⟨h1, h2⟩, h3⟩
    rw [contains_space] at h2
    have hn : (32 : UInt8) ∉ s := fun h => by
      rw [List.any_eq_false] at h2
      exact absurd (h2 32 h) (by simp)
    obtain ⟨i, _, h⟩ := (contains_iff _ _).1 h3
    have := flds_mem s hn allW [] i h
    rw [allW_flds] at this
    simp only [List.mem_cons, List.mem_append, List.not_mem_nil, or_false] at this
    rcases this with h | h | h
    · exact absurd h h1
    · exact ⟨s, h, rfl⟩
    · exact absurd h h1
  · rintro ⟨w, hw, rfl⟩
    obtain ⟨h1, h2, h3⟩ := word_in w hw
    refine ⟨⟨h2, ?_⟩, h1⟩
    rw [contains_space, List.any_eq_false]
    intro x hx
    simp only [beq_iff_eq]
    rintro rfl
    exact h3 hx

theorem Word_ok (s : List UInt8) (hn : s.length < 1000000000) : Ans (L m) 59 [.str s] (.bool (isWord s)) := by
  refine fn_of_body L_ok (fn := Try.f59) rfl rfl rfl rfl (by kernel_rfl) ?_
  have h1 := contains_ok (m := m) s [32] (by omega)
  have h2 := contains_ok (m := m) allW (32 :: s ++ [32]) (by decide)
  have h3 := word_same s
  rw [show (s == []) = s.isEmpty by cases s <;> rfl] at h3
  simp only [allW, List.cons_append] at h2 h3
  have b1 : s.length ≤ 9223372036854775806 := by omega
  have b2 : s.length ≤ 9223372036854775805 := by omega
  have b3 : 1 + s.length ≤ 9223372036854775807 := by omega
  have b4 : s.length + 1 ≤ 9223372036854775806 := by omega
  repeat' (first
    | apply w_seq
    | apply w_region
    | apply o_end
    | apply t_normal
    | (apply o_mpick; exact kc9; exact kd0; rfl; exact kd1; rfl; exact kd1; rfl)
    | (apply o_val; exact kc0; exact kc2)
    | apply w_ret
    | (apply o_maybe; exact kc9; exact kd0)
    | (apply o_mfn fine; exact kc9; exact kd2; (focus (intro _; exact h1)); (focus (intro _; simp [*]; done)))
    | (apply o_mfn fine; exact kc9; exact kd2; (focus (intro _; exact h2)); (focus (intro _; simp [*]; done)))
    | fail)
  apply f_retf
  · simp [*]; rfl
  · simp
  · rw [← h3]
theorem rWord_ok (s : List UInt8) : Ans (L m) 52 [.str s] (.bool (isWord s)) := by
  refine fn_of_body L_ok (fn := Try.f52) rfl rfl rfl rfl (by kernel_rfl) ?_
  repeat' (first
    | apply w_seq
    | apply w_region
    | apply o_end
    | apply t_normal
    | (apply o_val; exact kc0; exact kc2)
    | (apply o_lit; exact kc0; exact kc1; (focus (simp; done)); exact kd7)
    | apply w_block
    | fail)
  refine w_loop (fun n f H => ∃ (i : Nat), i ≤ wordsL.length ∧ n = wordsL.length - i ∧ H = [] ∧ (wordsL.take i).any (fun w => w == s) = false ∧ f 0 = .str s ∧ f 3 = textsL wordsL ∧ f 4 = .int .i64 i) wordsL.length ⟨0, by simp [wordsL]⟩ ?_
  rintro n f H ⟨i, hi, rfl, rfl, hq, h0, h3, h4⟩
  have hn : wordsL.length < 1000 := by decide
  by_cases hlt : i < wordsL.length
  · cases hp : wordsL[i] == s
    · have hq' := any_more (P := fun w => w == s) hlt hq hp
      repeat' (first
        | apply w_seq
        | apply w_region
        | apply o_end
        | apply t_normal
        | (apply o_add; exact kc0; exact kc2; rfl; exact kc2; rfl; exact ke2)
        | (apply o_val; exact kc0; exact kc2)
        | apply w_skip
        | apply w_block
        | apply b_normal
        | (apply w_true; exact kc3)
        | (apply w_false; exact kc3)
        | fail)
      exact ⟨wordsL.length - (i + 1), by omega, i + 1, by omega, rfl, rfl, hq', by simp [*]⟩
    · have e : isWord s = true := any_yes (P := fun w => w == s) hlt hp
      repeat' (first
        | apply w_seq
        | apply w_region
        | apply o_end
        | apply t_normal
        | (apply o_val; exact kc0; exact kc2)
        | apply w_skip
        | apply w_block
        | apply w_ret
        | apply t_ret
        | apply b_ret
        | (apply w_true; exact kc3)
        | fail)
      · apply f_retf
        · simp [*]; rfl
        · simp
        · rw [e]
  · have e : isWord s = false := any_no (P := fun w => w == s) (by omega) hq
    repeat' (first
      | apply w_seq
      | apply w_region
      | apply o_end
      | apply t_normal
      | (apply o_val; exact kc0; exact kc2)
      | apply w_ret
      | apply w_exit
      | apply t_exit
      | apply b_here
      | (apply w_false; exact kc3)
      | fail)
    · apply f_retf
      · simp [*]; rfl
      · simp
      · rw [e]
end Go.Proofs.Ytknkkfdkcemolaa.Vm
end
section
/- Walks: tokens, as lex reads them. -/
set_option linter.unusedSimpArgs false
set_option linter.unusedVariables false
set_option maxRecDepth 100000
set_option maxHeartbeats 4000000
namespace Go.Proofs.Ytknkkfdkcemolaa.Vm
open Go
variable {m : Int}
attribute [local irreducible] wpD opsD thenD blockD planD planA
attribute [local simp] List.take_of_length_le List.drop_of_length_le bne

abbrev tokC (k : Nat) (a : Int) (t : List UInt8) : List D := [.int .i64 k, .int .i64 a, .str t]
theorem ite_cast (p : Prop) [Decidable p] (a b : Nat) : ((if p then a else b : Nat) : Int) = if p then (a : Int) else b := by split <;> rfl
theorem long_if (n k : Nat) : (if (k : Int) < (n : Int) then (6 : Int) else 0) = ((if k < n then 6 else 0 : Nat) : Int) := by
  by_cases h : k < n
  · rw [if_pos h, if_pos (by omega)]; rfl
  · rw [if_neg h, if_neg (by omega)]; rfl
theorem long_nat (n k : Nat) : Ans (L m) 60 [.int .i64 n, .int .i64 k] (.int .i64 ((if k < n then 6 else 0 : Nat) : Int)) := by
  have := long_ok (m := m) n k
  rw [long_if] at this
  exact this
def signsL : List UInt8 := [123, 125, 40, 41, 59, 61]
theorem sign_all : ∀ n : Fin 256, decide (0 ≤ Lib.indexByte signsL (UInt8.ofNat n.val)) = isSign (UInt8.ofNat n.val) := by decide +kernel
theorem sign_same (c : UInt8) : decide (0 ≤ Lib.indexByte signsL c) = isSign c := by
  have := sign_all ⟨c.toNat, c.toNat_lt⟩
  simpa using this
theorem sign_idx (c : UInt8) : ∃ x, Lib.indexByte signsL c = x ∧ (isSign c = true → 0 ≤ x) ∧ (isSign c = false → ¬ 0 ≤ x) :=
  ⟨_, rfl, fun h => of_decide_eq_true ((sign_same c).trans h), fun h => of_decide_eq_false ((sign_same c).trans h)⟩
theorem getD_succ (c : UInt8) (r : List UInt8) (n : Nat) : (c :: r).getD (n + 1) 0 = r.getD n 0 := rfl
theorem token_ok (c : UInt8) (r : List UInt8) (hn : r.length < 1000000) :
    Ans (L m) 46 [.str (c :: r)] (.tuple [.agg (tokC (tok (c :: r)).1 0 (tok (c :: r)).2.1), .int .i64 (tok (c :: r)).2.2.1, .int .i64 (tok (c :: r)).2.2.2]) := by
  refine fn_of_body L_ok (fn := Try.f46) rfl rfl rfl rfl (by kernel_rfl) ?_
  have hlen : (c :: r).length < 1000000000 := by simp; omega
  have hl1 : (0 : Int) ≤ r.length := by omega
  have hl0 : (1 : Int) ≤ (r.length : Int) + 1 := by omega
  have c1 := small_ok (m := m) c
  have c2 := capital_ok (m := m) c
  cases h1 : isSmall c
  · rw [h1] at c1
    cases h2 : isCap c
    · rw [h2] at c2
      cases h3 : isB c 34
      · have i1 := indexByte_ok (m := m) signsL c
        obtain ⟨x, hx, p1, p2⟩ := sign_idx c
        rw [hx] at i1
        simp only [signsL] at i1
        clear hx
        cases h4 : isSign c
        · have ht : tok (c :: r) = (0, [], 0, 3) := by
            simp only [tok, h1, h2, h3, h4, if_false, Bool.false_eq_true]
          rw [ht]
          have i3 := p2 h4
          clear p1 p2
          repeat' (first
            | apply w_seq
            | apply w_region
            | apply o_end
            | apply t_normal
            | (apply o_val; exact kc0; exact kc2)
            | (apply o_fn fine; exact kc0; exact kc1; exact c1; exact kc3)
            | (apply o_fn fine; exact kc0; exact kc1; exact c2; exact kc3)
            | (apply o_fn fine; exact kc0; exact kc1; exact i1; exact kc3)
            | (apply o_mem; exact kc0; rfl; exact kc1)
            | apply w_skip
            | apply w_block
            | apply b_normal
            | apply w_ret
            | (apply w_false; exact kc3)
            | fail)
          · apply f_retf
            · simp [*]; rfl
            · simp
            · rfl
        · have ht : tok (c :: r) = (4, (c :: r).take 1, 1, 0) := by
            simp only [tok, h1, h2, h3, h4, if_true, if_false, Bool.false_eq_true]
          rw [ht]
          have i3 := p1 h4
          clear p1 p2
          repeat' (first
            | apply w_seq
            | apply w_region
            | apply o_end
            | apply t_normal
            | (apply o_val; exact kc0; exact kc2)
            | (apply o_fn fine; exact kc0; exact kc1; exact c1; exact kc3)
            | (apply o_fn fine; exact kc0; exact kc1; exact c2; exact kc3)
            | (apply o_fn fine; exact kc0; exact kc1; exact i1; exact kc3)
            | (apply o_mem; exact kc0; rfl; exact kc1)
            | apply w_block
            | apply w_ret
            | apply t_ret
            | apply b_ret
            | (apply w_true; exact kc3)
            | (apply w_false; exact kc3)
            | fail)
          · apply f_retf
            · simp [*]; rfl
            · simp
            · rfl
      · have r3 := run_ok (m := m) r _ isQuoted (by omega) quoted_ok
        have l3 := runL_le isQuoted r
        have hl := long_nat (m := m) (runL isQuoted r) 200
        have ht : tok (c :: r) = if runL isQuoted r + 1 == r.length + 1 || !isB (r.getD (runL isQuoted r) 0) 34 then (0, [], 0, 3) else (3, r.take (runL isQuoted r), runL isQuoted r + 2, if 200 < runL isQuoted r then 6 else 0) := by
          simp only [tok, h1, h2, h3, if_true, if_false, Bool.false_eq_true, List.drop_succ_cons, List.drop_zero, getD_succ, List.length_cons, List.take_succ_cons]
        generalize runL isQuoted r = n at *
        have b1 : (n : Int) + 1 < 9223372036854775808 := by omega
        by_cases he : n = r.length
        · have ht' : tok (c :: r) = (0, [], 0, 3) := by rw [ht, he]; simp
          rw [ht']
          clear ht ht'
          subst he
          repeat' (first
            | apply w_seq
            | apply w_region
            | apply o_end
            | apply t_normal
            | (apply o_add; exact kc0; exact kc2; rfl; exact kc2; rfl; exact ke2)
            | (apply o_val; exact kc0; exact kc2)
            | (apply o_fn fine; exact kc0; exact kc1; exact c1; exact kc3)
            | (apply o_fn fine; exact kc0; exact kc1; exact c2; exact kc3)
            | (apply o_fn fine; exact kc0; exact kc1; exact r3; exact kc3)
            | (apply o_mem; exact kc0; rfl; exact kc1)
            | apply w_block
            | apply w_ret
            | apply t_ret
            | apply b_ret
            | (apply w_true; exact kc3)
            | (apply w_false; exact kc3)
            | (apply o_no; exact ke7)
            | fail)
          · apply f_retf
            · simp [*]; rfl
            · simp
            · rfl
        · have hlt : n < r.length := by omega
          have hg : r.getD n 0 = r[n] := by simp [List.getD_eq_getElem?_getD, hlt]
          have hne : ((n : Int) + 1 == (r.length : Int) + 1) = false := by simp; omega
          have hx1 : (0 : Int) ≤ (n : Int) + 1 := by omega
          have hw1 : IntKind.i64.wrap ((n : Int) + 1) = (n : Int) + 1 := wrap_i64 (by omega) (by omega)
          have hw2 : IntKind.i64.wrap ((n : Int) + 2) = (n : Int) + 2 := wrap_i64 (by omega) (by omega)
          have hx5 : (1 : Int) ≤ (n : Int) + 1 := by omega
          have hx2 : ((n : Int) + 1).toNat = n + 1 := by omega
          have hx3 : (n : Int) < r.length := by omega
          have hx4 : ((n : Int) + 2).toNat = n + 2 := by omega
          have hne' : (n + 1 == r.length + 1) = false := by simp; omega
          cases hq : isB r[n] 34
          · have ht' : tok (c :: r) = (0, [], 0, 3) := by rw [ht, hg, hq]; simp
            rw [ht']
            clear ht ht'
            repeat' (first
              | apply w_seq
              | apply w_region
              | apply o_end
              | apply t_normal
              | (apply o_add; exact kc0; exact kc2; rfl; exact kc2; rfl; exact ke2)
              | (apply o_mpick; exact kc9; exact kd0; rfl; exact kd1; rfl; exact kd1; rfl)
              | (apply o_val; exact kc0; exact kc2)
              | (apply o_fn fine; exact kc0; exact kc1; exact c1; exact kc3)
              | (apply o_fn fine; exact kc0; exact kc1; exact c2; exact kc3)
              | (apply o_fn fine; exact kc0; exact kc1; exact r3; exact kc3)
              | (apply o_mem; exact kc0; rfl; exact kc1)
              | apply w_block
              | apply w_ret
              | apply t_ret
              | apply b_ret
              | (apply w_true; exact kc3)
              | (apply w_false; exact kc3)
              | fail)
            · apply f_retf
              · simp [*]; rfl
              · simp
              · rfl
          · have ht' : tok (c :: r) = (3, r.take n, n + 2, if 200 < n then 6 else 0) := by rw [ht, hg, hq, hne']; simp
            rw [ht']
            clear ht ht'
            repeat' (first
              | apply w_seq
              | apply w_region
              | apply o_end
              | apply t_normal
              | (apply o_add; exact kc0; exact kc2; rfl; exact kc2; rfl; exact ke2)
              | (apply o_mpick; exact kc9; exact kd0; rfl; exact kd1; rfl; exact kd1; rfl)
              | (apply o_val; exact kc0; exact kc2)
              | (apply o_fn fine; exact kc0; exact kc1; exact c1; exact kc3)
              | (apply o_fn fine; exact kc0; exact kc1; exact c2; exact kc3)
              | (apply o_fn fine; exact kc0; exact kc1; exact r3; exact kc3)
              | (apply o_mem; exact kc0; rfl; exact kc1)
              | apply w_skip
              | apply w_block
              | apply w_ret
              | apply t_ret
              | apply b_ret
              | (apply w_true; exact kc3)
              | (apply w_false; exact kc3)
              | (apply w_drawN; rfl; exact ke3; exact kc4)
              | (apply a_end; exact kc4)
              | (apply a_val; exact kc4; exact kc5; exact kd9; exact kc6)
              | (apply a_fn fine; exact kc4; exact kc5; exact kd8; exact hl; exact kc3; exact kc6)
              | (apply a_mem; exact kc4; exact kc5; exact ke1; exact kd8; exact kc7; exact kc6; exact kc4)
              | fail)
            · apply f_retf
              · simp [*]; rfl
              · simp
              · rfl
    · rw [h2] at c2
      have r2 := run_ok (m := m) (c :: r) _ isCap (by omega) capital_ok
      have l2 := runL_le isCap (c :: r)
      have ht : tok (c :: r) = (5, (c :: r).take (runL isCap (c :: r)), runL isCap (c :: r), if 20 < runL isCap (c :: r) then 6 else 0) := by
        simp only [tok, h1, h2, if_true, if_false, Bool.false_eq_true]
      rw [ht]
      have hl := long_nat (m := m) (runL isCap (c :: r)) 20
      clear ht
      generalize runL isCap (c :: r) = n at *
      have hl2 : (n : Int) ≤ (r.length : Int) + 1 := by simp at l2; omega
      repeat' (first
        | apply w_seq
        | apply w_region
        | apply o_end
        | apply t_normal
        | (apply o_val; exact kc0; exact kc2)
        | (apply o_fn fine; exact kc0; exact kc1; exact c1; exact kc3)
        | (apply o_fn fine; exact kc0; exact kc1; exact c2; exact kc3)
        | (apply o_fn fine; exact kc0; exact kc1; exact r2; exact kc3)
        | (apply o_mem; exact kc0; rfl; exact kc1)
        | apply w_block
        | apply w_ret
        | apply t_ret
        | apply b_ret
        | (apply w_true; exact kc3)
        | (apply w_false; exact kc3)
        | (apply w_drawN; rfl; exact ke3; exact kc4)
        | (apply a_end; exact kc4)
        | (apply a_val; exact kc4; exact kc5; exact kd9; exact kc6)
        | (apply a_fn fine; exact kc4; exact kc5; exact kd8; exact hl; exact kc3; exact kc6)
        | (apply a_mem; exact kc4; exact kc5; exact ke1; exact kd8; exact kc7; exact kc6; exact kc4)
        | fail)
      · apply f_retf
        · simp [*]; rfl
        · simp
        · rfl
  · rw [h1] at c1
    have r1 := run_ok (m := m) (c :: r) _ isInner (by omega) inner_ok
    have l1 := runL_le isInner (c :: r)
    have hw := Word_ok (m := m) ((c :: r).take (runL isInner (c :: r))) (by rw [List.length_take]; omega)
    have hl := long_nat (m := m) (runL isInner (c :: r)) 20
    have ht : tok (c :: r) = (if isWord ((c :: r).take (runL isInner (c :: r))) then 2 else 1, (c :: r).take (runL isInner (c :: r)), runL isInner (c :: r), if 20 < runL isInner (c :: r) then 6 else 0) := by
      simp only [tok, h1, if_true]
    rw [ht]
    clear ht
    generalize runL isInner (c :: r) = n at *
    have hl2 : (n : Int) ≤ (r.length : Int) + 1 := by simp at l1; omega
    cases hww : isWord ((c :: r).take n)
    · rw [hww] at hw
      repeat' (first
        | apply w_seq
        | apply w_region
        | apply o_end
        | apply t_normal
        | (apply o_val; exact kc0; exact kc2)
        | (apply o_fn fine; exact kc0; exact kc1; exact c1; exact kc3)
        | (apply o_fn fine; exact kc0; exact kc1; exact r1; exact kc3)
        | (apply o_fn fine; exact kc0; exact kc1; exact hw; exact kc3)
        | (apply o_mem; exact kc0; rfl; exact kc1)
        | apply w_skip
        | apply w_block
        | apply w_ret
        | apply t_ret
        | apply b_ret
        | (apply w_true; exact kc3)
        | (apply w_false; exact kc3)
        | (apply w_drawN; rfl; exact ke3; exact kc4)
        | (apply a_end; exact kc4)
        | (apply a_val; exact kc4; exact kc5; exact kd9; exact kc6)
        | (apply a_fn fine; exact kc4; exact kc5; exact kd8; exact hl; exact kc3; exact kc6)
        | (apply a_tie; exact kc4; exact kc5; exact ke0; exact kc7; exact kc6; exact kc4)
        | (apply a_mem; exact kc4; exact kc5; exact ke1; exact kd8; exact kc7; exact kc6; exact kc4)
        | fail)
      · apply f_retf
        · simp [*]; rfl
        · simp
        · rfl
    · rw [hww] at hw
      repeat' (first
        | apply w_seq
        | apply w_region
        | apply o_end
        | apply t_normal
        | (apply o_val; exact kc0; exact kc2)
        | (apply o_fn fine; exact kc0; exact kc1; exact c1; exact kc3)
        | (apply o_fn fine; exact kc0; exact kc1; exact r1; exact kc3)
        | (apply o_fn fine; exact kc0; exact kc1; exact hw; exact kc3)
        | (apply o_mem; exact kc0; rfl; exact kc1)
        | apply w_block
        | apply w_ret
        | apply t_ret
        | apply b_ret
        | (apply w_true; exact kc3)
        | (apply w_drawN; rfl; exact ke3; exact kc4)
        | (apply a_end; exact kc4)
        | (apply a_val; exact kc4; exact kc5; exact kd9; exact kc6)
        | (apply a_fn fine; exact kc4; exact kc5; exact kd8; exact hl; exact kc3; exact kc6)
        | (apply a_tie; exact kc4; exact kc5; exact ke0; exact kc7; exact kc6; exact kc4)
        | (apply a_mem; exact kc4; exact kc5; exact ke1; exact kd8; exact kc7; exact kc6; exact kc4)
        | fail)
      · apply f_retf
        · simp [*]; rfl
        · simp
        · rfl
end Go.Proofs.Ytknkkfdkcemolaa.Vm
end
section
/- Walks: Tokens of lex. -/
set_option linter.unusedSimpArgs false
set_option linter.unusedVariables false
set_option maxRecDepth 100000
set_option maxHeartbeats 4000000
namespace Go.Proofs.Ytknkkfdkcemolaa.Vm
open Go
variable {m : Int}
attribute [local irreducible] wpD opsD thenD blockD planD planA
attribute [local simp] List.take_of_length_le List.drop_of_length_le bne mvD

abbrev encT (t : Tok) : List D := tokC t.kind t.at_ t.text
abbrev tokL (l : List Tok) : D := .isl 3 (l.map encT)
abbrev wrD (c a : Nat) : D := .agg [.int .i64 c, .int .i64 a]
abbrev toksD (x : List Tok × Nat × Nat) : D := .tuple [tokL x.1, wrD x.2.1 x.2.2]
theorem Snap.tupleL {S : Nat → Prop} {H : Heap} {x y : List D} (h : SnapL S H x y) : Snap S H (.tuple x) (.tuple y) := by
  refine .tuple h.len.symm fun k d e hd he => ?_
  obtain ⟨d', h1, h2⟩ := h.get k e he
  rw [hd] at h1
  obtain rfl := Option.some.inj h1
  exact h2
theorem flat_toks {l : List Tok} : ∀ y, y ∈ l.map encT → ∀ d, d ∈ y → Flat d := fun y hy d hd => by
  obtain ⟨a, _, rfl⟩ := List.mem_map.1 hy
  simp only [List.mem_cons, List.not_mem_nil, or_false] at hd
  rcases hd with rfl | rfl | rfl
  · exact .int _ _
  · exact .int _ _
  · exact .str _
theorem drops_mid {A B C : Blk} : Drops [A, B, C] [A, .gone B.next, C] := ⟨rfl, fun r k hr => by
  match r, hr with
  | 0, hr => exact .inl hr
  | 1, hr => obtain rfl := Option.some.inj hr; exact .inr rfl
  | 2, hr => exact .inl hr⟩
theorem Tokens_ok (s : List UInt8) (hs : s.length < 1000000) : Ans (L m) 30 [.str s] (toksD (toks s)) := by
  refine fn_of_body L_ok (fn := Try.f30) rfl rfl rfl rfl (by kernel_rfl) ?_
  by_cases hbig : 8000 < s.length
  · have ht : toks s = ([], 6, 0) := by rw [toks, if_pos hbig]
    have hbig' : (8000 : Int) < s.length := by omega
    rw [ht]
    repeat' (first
      | apply w_seq
      | apply w_region
      | apply o_end
      | apply t_normal
      | (apply o_val; exact kc0; exact kc2)
      | (apply o_mem; exact kc0; rfl; exact kc1)
      | apply w_ret
      | apply t_ret
      | (apply w_true; exact kc3)
      | fail)
    apply f_ret
    · simp [*]; rfl
    · exact .tupleL ⟨.nil, .flat (by simp), trivial⟩
  · have ht : toks s = toksF s.length (s.drop (gapN s)) (gapN s) [] := by rw [toks, if_neg hbig]
    have hg0 := gap_ok (m := m) s (by omega)
    have hgl := gapN_le s
    have hbig' : ¬ ((8000 : Int) < s.length) := by omega
    repeat' (first
      | apply w_seq
      | apply w_region
      | apply o_end
      | apply t_normal
      | (apply o_val; exact kc0; exact kc2)
      | (apply o_fn fine; exact kc0; exact kc1; exact hg0; exact kc3)
      | (apply o_mem; exact kc0; rfl; exact kc1)
      | apply w_skip
      | apply w_block
      | (apply w_false; exact kc3)
      | fail)
    refine w_loopD (fun n f H => ∃ (k a : Nat) (out : List Tok), a ≤ s.length ∧ n = s.length - a ∧ (s.drop a).length ≤ k ∧ out.length ≤ 2000 ∧ toks s = toksF k (s.drop a) a out ∧
        ((out = [] ∧ H = [.cells 0 2 false [[.int .i64 0, .int .i64 0]]] ∧ f 4 = .nilsl) ∨ (out ≠ [] ∧ ∃ g1 g, H = [.cells 0 2 false [[.int .i64 0, .int .i64 0]], .gone g1, .cells g 3 false (out.map encT)] ∧ f 4 = .slice 2 0 out.length g)) ∧
        f 0 = .str s ∧ f 3 = .ref 0 0 0 0 ∧ f 5 = .int .i64 a) (s.length - gapN s) ⟨s.length, gapN s, [], by omega, rfl, by simp, by simp, ht, .inl ⟨rfl, by simp, by simp⟩, by simp, by simp, by simp⟩ ?_
    clear hg0 hgl ht
    rintro n f H ⟨k, a, out, ha, rfl, hk, ho, ht, hS, h0, h3, h5⟩
    by_cases hlt : a < s.length
    · obtain ⟨c, r, hd⟩ : ∃ c r, s.drop a = c :: r := ⟨_, _, List.drop_eq_getElem_cons hlt⟩
      have hrl : r.length + 1 = s.length - a := by
        have := congrArg List.length hd
        rw [List.length_drop] at this
        simp at this
        omega
      have htk := token_ok (m := m) c r (by omega)
      rw [hd] at ht hk
      obtain ⟨k, rfl⟩ : ∃ k', k = k' + 1 := ⟨k - 1, by simp at hk; omega⟩
      have hal : (a : Int) < s.length := by omega
      have hal2 : (a : Int) ≤ s.length := by omega
      by_cases he : (tok (c :: r)).2.2.2 = 0
      · by_cases h2000 : out.length = 2000
        · rw [toksF_many he h2000] at ht
          rw [ht]
          clear ht
          generalize tok (c :: r) = T at *
          obtain ⟨kd, tx, nn, e⟩ := T
          obtain rfl : e = 0 := he
          rcases hS with ⟨rfl, rfl, h4⟩ | ⟨hne, g1, g, rfl, h4⟩
          · simp at h2000
          · skip
            repeat' (first
              | apply w_seq
              | apply w_region
              | apply o_end
              | apply t_normal
              | (apply o_mpick; exact kc9; exact kd0; rfl; exact kd1; rfl; exact kd1; rfl)
              | (apply o_val; exact kc0; exact kc2)
              | (apply o_into (dst := some 6) (p := 1); exact kc0; rfl; exact kc1; rfl; rfl; (focus (intro x hx e he; apply Under.flat; revert he; revert e; revert hx; revert x; simp; done)); (focus (exact .inl ⟨_, _, _, rfl⟩)))
              | (apply o_fn fine; exact kc0; exact kc1; exact htk; exact kc3)
              | (apply o_mem; exact kc0; rfl; exact kc1)
              | apply w_skip
              | apply w_block
              | apply w_ret
              | apply t_ret
              | apply b_ret
              | (apply w_true; exact kc3)
              | fail)
            apply f_ret
            · simp [*]; rfl
            · exact .tupleL ⟨.nil, .flat (by simp), trivial⟩
        · rw [toksF_more he h2000] at ht
          have hpos := tok_len (s := c :: r) (by simp) he
          generalize tok (c :: r) = T at *
          obtain ⟨kd, tx, nn, e⟩ := T
          obtain rfl : e = 0 := he
          simp only at ht htk hpos
          have e1 : (c :: r).drop nn = s.drop (a + nn) := by rw [← hd, List.drop_drop]
          rw [e1, List.drop_drop] at ht
          clear e1
          have hln : (c :: r).length = s.length - a := by simp; omega
          rw [hln] at hpos
          have hgp := gap_ok (m := m) (s.drop (a + nn)) (by simp; omega)
          have hgl := gapN_le (s.drop (a + nn))
          rw [List.length_drop] at hgl
          generalize gapN (s.drop (a + nn)) = q at *
          have hn2 : ¬ ((out.length : Int) = 2000) := by omega
          have hn3 : ((out.length : Int) == 2000) = false := by simpa using hn2
          have hb : (a : Int) + nn ≤ s.length := by omega
          have hb0 : (0 : Int) ≤ (a : Int) + nn := by omega
          have hbt : ((a : Int) + nn).toNat = a + nn := by omega
          have b1 : (out.length + 1) * 32 ≤ 140737488355328 := by omega
          have b2 : out.length + 1 ≤ 140737488355328 := by omega
          have hkk : (s.drop (a + nn + q)).length ≤ k := by
            rw [hln] at hk
            rw [List.length_drop]
            omega
          have haa : a + nn + q ≤ s.length := by omega
          have hm : s.length - (a + nn + q) < s.length - a := by omega
          clear hk hln hgl
          rcases hS with ⟨rfl, rfl, h4⟩ | ⟨hne, g1, g, rfl, h4⟩
          · clear b1 b2 hn2 hn3 h2000
            repeat' (first
              | apply w_seq
              | apply w_region
              | apply o_end
              | apply t_normal
              | (apply o_add; exact kc0; exact kc2; rfl; exact kc2; rfl; exact ke2)
              | (apply o_mpick; exact kc9; exact kd0; rfl; exact kd1; rfl; exact kd1; rfl)
              | (apply o_val; exact kc0; exact kc2)
              | (apply o_mem (dst := some 50); exact kc0; rfl; exact kc1)
              | (apply o_fn fine; exact kc0; exact kc1; exact htk; exact kc3)
              | (apply o_fn fine; exact kc0; exact kc1; exact hgp; exact kc3)
              | (apply o_lit; exact kc0; exact kc1; (focus (simp; done)); exact kd7)
              | (apply o_mem; exact kc0; rfl; exact kc1)
              | apply w_skip
              | apply w_block
              | apply b_normal
              | (apply w_true; exact kc3)
              | (apply w_false; exact kc3)
              | fail)
            exact ⟨s.length - (a + nn + q), hm, _, drops_mid, k, a + nn + q, [] ++ [⟨kd, a, tx⟩], haa, rfl, hkk, by simp, ht, .inr ⟨by simp, _, 1, rfl, by simp⟩, by simp [*], by simp [*], by simp [*]⟩
          · skip
            repeat' (first
              | apply w_seq
              | apply w_region
              | apply o_end
              | apply t_normal
              | (apply o_add; exact kc0; exact kc2; rfl; exact kc2; rfl; exact ke2)
              | (apply o_mpick; exact kc9; exact kd0; rfl; exact kd1; rfl; exact kd1; rfl)
              | (apply o_val; exact kc0; exact kc2)
              | (apply o_into (dst := some 6) (p := 1); exact kc0; rfl; exact kc1; rfl; rfl; (focus (intro x hx e he; apply Under.flat; revert he; revert e; revert hx; revert x; simp; done)); (focus (exact .inl ⟨_, _, _, rfl⟩)))
              | (apply o_mem (dst := some 50); exact kc0; rfl; exact kc1)
              | (apply o_fn fine; exact kc0; exact kc1; exact htk; exact kc3)
              | (apply o_fn fine; exact kc0; exact kc1; exact hgp; exact kc3)
              | (apply o_lit; exact kc0; exact kc1; (focus (simp; done)); exact kd7)
              | (apply o_mem; exact kc0; rfl; exact kc1)
              | apply w_skip
              | apply w_block
              | apply b_normal
              | (apply w_true; exact kc3)
              | (apply w_false; exact kc3)
              | fail)
            exact ⟨s.length - (a + nn + q), hm, _, drops_mid, k, a + nn + q, out ++ [⟨kd, a, tx⟩], haa, rfl, hkk, by simp; omega, ht, .inr ⟨by simp, _, g + 1, by simp; rfl, by simp⟩, by simp [*], by simp [*], by simp [*]⟩
      · rw [toksF_wrong he] at ht
        rw [ht]
        clear ht
        generalize tok (c :: r) = T at *
        obtain ⟨kd, tx, nn, e⟩ := T
        have he' : ((e : Int) == 0) = false := by simp; simpa using he
        rcases hS with ⟨rfl, rfl, h4⟩ | ⟨hne, g1, g, rfl, h4⟩
        · skip
          repeat' (first
            | apply w_seq
            | apply w_region
            | apply o_end
            | apply t_normal
            | (apply o_val; exact kc0; exact kc2)
            | (apply o_fn fine; exact kc0; exact kc1; exact htk; exact kc3)
            | (apply o_mem; exact kc0; rfl; exact kc1)
            | apply w_skip
            | apply w_block
            | apply w_ret
            | apply t_ret
            | apply b_ret
            | (apply w_true; exact kc3)
            | (apply w_false; exact kc3)
            | (apply o_no; exact ke7)
            | fail)
          apply f_ret
          · simp [*]; rfl
          · exact .tupleL ⟨.nil, .flat (by simp), trivial⟩
        · skip
          repeat' (first
            | apply w_seq
            | apply w_region
            | apply o_end
            | apply t_normal
            | (apply o_val; exact kc0; exact kc2)
            | (apply o_into (dst := some 6) (p := 1); exact kc0; rfl; exact kc1; rfl; rfl; (focus (intro x hx e he; apply Under.flat; revert he; revert e; revert hx; revert x; simp; done)); (focus (exact .inl ⟨_, _, _, rfl⟩)))
            | (apply o_fn fine; exact kc0; exact kc1; exact htk; exact kc3)
            | (apply o_mem; exact kc0; rfl; exact kc1)
            | apply w_skip
            | apply w_block
            | apply w_ret
            | apply t_ret
            | apply b_ret
            | (apply w_true; exact kc3)
            | (apply w_false; exact kc3)
            | (apply o_no; exact ke7)
            | fail)
          apply f_ret
          · simp [*]; rfl
          · exact .tupleL ⟨.nil, .flat (by simp), trivial⟩
    · have hd : s.drop a = [] := List.drop_of_length_le (by omega)
      rw [hd, toksF_nil] at ht
      rw [ht]
      clear ht hk hd
      have hal : ¬ ((a : Int) < s.length) := by omega
      rcases hS with ⟨rfl, rfl, h4⟩ | ⟨hne, g1, g, rfl, h4⟩
      · skip
        repeat' (first
          | apply w_seq
          | apply w_region
          | apply o_end
          | apply t_normal
          | (apply o_val; exact kc0; exact kc2)
          | (apply o_mem; exact kc0; rfl; exact kc1)
          | apply w_ret
          | apply w_exit
          | apply t_exit
          | apply b_here
          | (apply w_false; exact kc3)
          | fail)
        apply f_ret
        · simp [*]; rfl
        · exact .tupleL ⟨.nil, .flat (by simp), trivial⟩
      · skip
        repeat' (first
          | apply w_seq
          | apply w_region
          | apply o_end
          | apply t_normal
          | (apply o_val; exact kc0; exact kc2)
          | (apply o_mem; exact kc0; rfl; exact kc1)
          | apply w_ret
          | apply w_exit
          | apply t_exit
          | apply b_here
          | (apply w_false; exact kc3)
          | fail)
        apply f_ret
        · simp [*]; rfl
        · exact .tupleL ⟨.slice_flat trivial rfl (by simp) (by simp) flat_toks, .flat (by simp), trivial⟩
end Go.Proofs.Ytknkkfdkcemolaa.Vm
end
section
/- Plain: what a reader of descriptions takes. -/
set_option linter.unusedSimpArgs false
set_option linter.unusedVariables false
namespace Go.Proofs.Ytknkkfdkcemolaa.Vm
open Go
variable {m : Int}

/-- A reading: what it answers and the tokens that are left, or where it is wrong. -/
abbrev PR (α : Type) := Except Nat (α × List Tok)
def endAt (e : Nat) : List Tok → Nat
  | [] => e
  | t :: _ => t.at_
def takeP (e k : Nat) : List Tok → PR Tok
  | [] => .error e
  | t :: r => if t.kind = k then .ok (t, r) else .error t.at_
def isP (k : Nat) (x : List UInt8) : List Tok → Bool
  | [] => false
  | t :: _ => (t.kind : Int) == k && t.text == x
def wantP (e k : Nat) (x : List UInt8) (ts : List Tok) : PR Tok := if isP k x ts then takeP e k ts else .error (endAt e ts)
theorem isP_take {e k : Nat} {x : List UInt8} {ts : List Tok} (h : isP k x ts = true) : ∃ t r, ts = t :: r ∧ t.kind = k ∧ t.text = x ∧ takeP e k ts = .ok (t, r) := by
  cases ts with
  | nil => cases h
  | cons t r =>
    simp only [isP, Bool.and_eq_true, beq_iff_eq] at h
    have h1 : t.kind = k := by have := h.1; omega
    exact ⟨t, r, rfl, h1, h.2, by rw [takeP, if_pos h1]⟩
theorem wantP_ok {e k : Nat} {x : List UInt8} {ts r : List Tok} {t : Tok} (h : wantP e k x ts = .ok (t, r)) : takeP e k ts = .ok (t, r) ∧ isP k x ts = true := by
  unfold wantP at h
  split at h
  · rename_i hb; exact ⟨h, hb⟩
  · cases h
/-! ### attributes -/
def zeroTok : Tok := ⟨0, 0, []⟩
def noArg : List (List UInt8) := [[112, 97, 103, 101], [105, 110, 106, 101, 99, 116], [111, 119, 110], [99, 104, 97, 110, 103, 101, 115], [111, 112, 101, 110], [99, 114, 101, 100, 101, 110, 116, 105, 97, 108, 115]]
def nameArg : List (List UInt8) := [[115, 99, 114, 105, 112, 116], [110, 101, 101, 100, 115], [115, 101, 116, 115], [103, 105, 118, 101, 115], [114, 101, 100, 105, 114, 101, 99, 116]]
def textArg : List (List UInt8) := [[104, 101, 97, 100, 101, 114], [97, 108, 108, 111, 119], [109, 101, 116, 104, 111, 100, 115], [99, 115, 112]]
def argP (e : Nat) (t : Tok) (r : List Tok) : PR Tok :=
  if t.text ∈ noArg then .ok (zeroTok, r)
  else if t.text ∈ nameArg then takeP e 1 r
  else if t.text = [99, 111, 114, 115] then (if isP 2 [97, 110, 121] r then takeP e 2 r else takeP e 1 r)
  else if t.text ∈ textArg then takeP e 3 r
  else .error t.at_
structure AttrT where
  word : Tok
  arg : Tok
def attrP (e : Nat) (ts : List Tok) : PR AttrT := match takeP e 2 ts with
  | .error a => .error a
  | .ok (t, r) => match argP e t r with
    | .error a => .error a
    | .ok (x, r2) => match wantP e 4 [59] r2 with
      | .error a => .error a
      | .ok (_, r3) => .ok (⟨t, x⟩, r3)
/-- A name, and where it is. -/
def placedP (e : Nat) (ts : List Tok) : PR (Tok × Tok) := match takeP e 1 ts with
  | .error a => .error a
  | .ok (n, r) => match wantP e 2 [97, 116] r with
    | .error a => .error a
    | .ok (_, r2) => match takeP e 1 r2 with
      | .error a => .error a
      | .ok (o, r3) => .ok ((n, o), r3)
end Go.Proofs.Ytknkkfdkcemolaa.Vm
end
section
/- Walks: what a reader of descriptions takes. -/
set_option linter.unusedSimpArgs false
set_option linter.unusedVariables false
set_option maxRecDepth 100000
set_option maxHeartbeats 4000000
namespace Go.Proofs.Ytknkkfdkcemolaa.Vm
open Go
variable {m : Int}
attribute [local irreducible] wpD opsD thenD blockD planD planA
attribute [local simp] List.take_of_length_le List.drop_of_length_le bne mvD endAt

abbrev rdH (e : Nat) (ts : List Tok) : Heap := [.cells 0 2 false [[tokL ts, .int .i64 e]]]
abbrev rdR : D := .ref 0 0 0 0
abbrev stopD (a : Nat) : D := .iface 107 (.agg [.int .i64 4, .int .i64 a])
theorem fail_ok (e : Nat) (ts : List Tok) : CallsV (L m) 74 [rdR] (rdH e ts) (Ends 1 (rdH e ts) (.error (stopD (endAt e ts)))) := by
  refine ends_of_body L_ok (H := rdH e ts) (fun d Hn h => by cases h) (fn := Try.f74) rfl rfl rfl rfl (by kernel_rfl) ?_
  cases ts with
  | nil =>
    repeat' (first
      | apply w_seq
      | apply w_region
      | apply o_end
      | apply t_normal
      | (apply o_val; exact kc0; exact kc2)
      | apply w_skip
      | (apply w_false; exact kc3)
      | (apply s_panic; exact ke4)
      | (apply o_panic; exact kc0; (focus (simp [*]; first | rfl | exact ⟨rfl, rfl⟩)))
      | fail)
  | cons t r =>
    repeat' (first
      | apply w_seq
      | apply w_region
      | apply o_end
      | apply t_normal
      | (apply o_val; exact kc0; exact kc2)
      | (apply w_true; exact kc3)
      | (apply s_panic; exact ke4)
      | (apply o_panic; exact kc0; (focus (simp [*]; first | rfl | exact ⟨rfl, rfl⟩)))
      | fail)
theorem take_up (e k : Nat) (ts : List Tok) (a : Nat) (h : takeP e k ts = .error a) : CallsV (L m) 64 [rdR, .int .i64 k] (rdH e ts) (Ends 1 (rdH e ts) (.error (stopD a))) := by
  refine ends_of_body L_ok (H := rdH e ts) (fun d Hn h => by cases h) (fn := Try.f64) rfl rfl rfl rfl (by kernel_rfl) ?_
  cases ts with
  | nil =>
    have hf := fail_ok (m := m) e []
    obtain rfl : e = a := by simpa [takeP] using h
    clear h
    repeat' (first
      | apply w_seq
      | apply w_region
      | apply o_end
      | apply t_normal
      | (apply o_val; exact kc0; exact kc2)
      | (apply o_up fine; exact kc0; exact kc1; exact hf; rfl; exact kd6; (intro H1 hH1))
      | (apply o_mem; exact kc0; rfl; exact kc1)
      | (apply w_true; exact kc3)
      | (apply o_no; exact ke7)
      | apply t_panic
      | (apply s_panic; exact ke4)
      | fail)
  | cons t r =>
    have hf := fail_ok (m := m) e (t :: r)
    by_cases hk : t.kind = k
    · rw [takeP, if_pos hk] at h; cases h
    · rw [takeP, if_neg hk] at h
      have hk' : ((t.kind : Int) == k) = false := by simp; omega
      obtain rfl : t.at_ = a := by simpa using h
      clear h
      repeat' (first
        | apply w_seq
        | apply w_region
        | apply o_end
        | apply t_normal
        | (apply o_val; exact kc0; exact kc2)
        | (apply o_up fine; exact kc0; exact kc1; exact hf; rfl; exact kd6; (intro H1 hH1))
        | (apply o_mem; exact kc0; rfl; exact kc1)
        | (apply w_true; exact kc3)
        | apply t_panic
        | (apply s_panic; exact ke4)
        | fail)
theorem take_ok (e k : Nat) (ts : List Tok) (t : Tok) (r : List Tok) (h : takeP e k ts = .ok (t, r)) : CallsV (L m) 64 [rdR, .int .i64 k] (rdH e ts) (Ends 1 (rdH e ts) (.ok (.agg (encT t), rdH e r))) := by
  cases ts with
  | nil => cases h
  | cons u us =>
    rw [takeP] at h
    split at h
    case isFalse => cases h
    rename_i hk
    simp only [Except.ok.injEq, Prod.mk.injEq] at h
    obtain ⟨rfl, rfl⟩ := h
    refine ends_of_body L_ok (H := rdH e (u :: us)) (fun d Hn h => by cases h; exact ⟨rfl, by simp⟩) (fn := Try.f64) rfl rfl rfl rfl (by kernel_rfl) ?_
    have hk' : ((u.kind : Int) == k) = true := by simp; omega
    have hp : ((us.length : Int) + 1 == 0) = false := by simp; omega
    have hq : (1 : Int) ≤ (us.length : Int) + 1 := by omega
    have hq2 : (0 : Int) ≤ (us.length : Int) := by omega
    repeat' (first
      | apply w_seq
      | apply w_region
      | apply o_end
      | apply t_normal
      | (apply o_val; exact kc0; exact kc2)
      | (apply o_mem; exact kc0; rfl; exact kc1)
      | apply w_skip
      | apply w_ret
      | (apply w_false; exact kc3)
      | fail)
    apply s_ret rfl
    · simp [*]; rfl
    · rfl
    · exact Snap.flat (by simp)
theorem is_ok (e k : Nat) (x : List UInt8) (ts : List Tok) : CallsV (L m) 75 [rdR, .int .i64 k, .str x] (rdH e ts) (Ends 1 (rdH e ts) (.ok (.bool (isP k x ts), rdH e ts))) := by
  refine ends_of_body L_ok (H := rdH e ts) (fun d Hn h => by cases h; exact ⟨rfl, by simp⟩) (fn := Try.f75) rfl rfl rfl rfl (by kernel_rfl) ?_
  cases ts with
  | nil =>
    repeat' (first
      | apply w_seq
      | apply w_region
      | apply o_end
      | apply t_normal
      | (apply o_val; exact kc0; exact kc2)
      | apply w_ret
      | (apply o_no; exact ke7)
      | fail)
    apply s_ret rfl
    · simp [*]; rfl
    · rfl
    · exact Snap.flat (by simp)
  | cons t r =>
    have hp : (0 : Int) < (r.length : Int) + 1 := by omega
    repeat' (first
      | apply w_seq
      | apply w_region
      | apply o_end
      | apply t_normal
      | (apply o_mpick; exact kc9; exact kd0; rfl; exact kd1; rfl; exact kd1; rfl)
      | (apply o_val; exact kc0; exact kc2)
      | apply w_ret
      | (apply o_maybe; exact kc9; exact kd0)
      | fail)
    apply s_ret rfl
    · simp [*, isP]; rfl
    · rfl
    · exact Snap.flat (by simp)
theorem want_up (e k : Nat) (x : List UInt8) (ts : List Tok) (a : Nat) (h : wantP e k x ts = .error a) : CallsV (L m) 66 [rdR, .int .i64 k, .str x] (rdH e ts) (Ends 1 (rdH e ts) (.error (stopD a))) := by
  refine ends_of_body L_ok (H := rdH e ts) (fun d Hn h => by cases h) (fn := Try.f66) rfl rfl rfl rfl (by kernel_rfl) ?_
  have hi := is_ok (m := m) e k x ts
  cases hb : isP k x ts
  · rw [hb] at hi
    have hf := fail_ok (m := m) e ts
    simp only [wantP, hb, Bool.false_eq_true, if_false, Except.error.injEq] at h
    rw [h] at hf
    clear h hb
    repeat' (first
      | apply w_seq
      | apply w_region
      | apply o_end
      | apply t_normal
      | (apply o_val; exact kc0; exact kc2)
      | (apply o_beside fine; exact kc0; exact kc1; exact hi; rfl; rfl; exact kd4; exact kd3)
      | (apply o_up fine; exact kc0; exact kc1; exact hf; rfl; exact kd6; (intro H1 hH1))
      | (apply o_mem; exact kc0; rfl; exact kc1)
      | (apply w_true; exact kc3)
      | apply t_panic
      | (apply s_panic; exact ke4)
      | fail)
  · obtain ⟨t, r, _, _, _, h4⟩ := isP_take (e := e) hb
    simp only [wantP, hb, if_true, h4] at h
    cases h
theorem want_ok (e k : Nat) (x : List UInt8) (ts : List Tok) (t : Tok) (r : List Tok) (h : wantP e k x ts = .ok (t, r)) : CallsV (L m) 66 [rdR, .int .i64 k, .str x] (rdH e ts) (Ends 1 (rdH e ts) (.ok (.agg (encT t), rdH e r))) := by
  refine ends_of_body L_ok (H := rdH e ts) (fun d Hn h => by cases h; exact ⟨rfl, by simp⟩) (fn := Try.f66) rfl rfl rfl rfl (by kernel_rfl) ?_
  have hi := is_ok (m := m) e k x ts
  cases hb : isP k x ts
  · simp only [wantP, hb, Bool.false_eq_true, if_false] at h
    cases h
  · rw [hb] at hi
    simp only [wantP, hb, if_true] at h
    have hk := take_ok (m := m) e k ts t r h
    clear h hb
    repeat' (first
      | apply w_seq
      | apply w_region
      | apply o_end
      | apply t_normal
      | (apply o_val; exact kc0; exact kc2)
      | (apply o_beside fine; exact kc0; exact kc1; exact hi; rfl; rfl; exact kd4; exact kd3)
      | (apply o_beside fine; exact kc0; exact kc1; exact hk; rfl; rfl; exact kd4; exact kd3)
      | (apply o_mem; exact kc0; rfl; exact kc1)
      | apply w_skip
      | apply w_ret
      | (apply w_false; exact kc3)
      | fail)
    apply s_ret rfl
    · simp [*]; rfl
    · rfl
    · exact Snap.flat (by simp)
theorem skip_yes (e k : Nat) (x : List UInt8) (ts : List Tok) (t : Tok) (r : List Tok) (h : wantP e k x ts = .ok (t, r)) : CallsV (L m) 68 [rdR, .int .i64 k, .str x] (rdH e ts) (Ends 1 (rdH e ts) (.ok (.bool true, rdH e r))) := by
  refine ends_of_body L_ok (H := rdH e ts) (fun d Hn h => by cases h; exact ⟨rfl, by simp⟩) (fn := Try.f68) rfl rfl rfl rfl (by kernel_rfl) ?_
  have hi := is_ok (m := m) e k x ts
  cases hb : isP k x ts
  · simp only [wantP, hb, Bool.false_eq_true, if_false] at h
    cases h
  · rw [hb] at hi
    simp only [wantP, hb, if_true] at h
    have hk := take_ok (m := m) e k ts t r h
    clear h hb
    repeat' (first
      | apply w_seq
      | apply w_region
      | apply o_end
      | apply t_normal
      | (apply o_val; exact kc0; exact kc2)
      | (apply o_beside fine; exact kc0; exact kc1; exact hi; rfl; rfl; exact kd4; exact kd3)
      | (apply o_beside fine; exact kc0; exact kc1; exact hk; rfl; rfl; exact kd4; exact kd3)
      | apply w_ret
      | (apply w_true; exact kc3)
      | fail)
    apply s_ret rfl
    · simp [*]; rfl
    · rfl
    · exact Snap.flat (by simp)
theorem skip_no (e k : Nat) (x : List UInt8) (ts : List Tok) (h : isP k x ts = false) : CallsV (L m) 68 [rdR, .int .i64 k, .str x] (rdH e ts) (Ends 1 (rdH e ts) (.ok (.bool false, rdH e ts))) := by
  refine ends_of_body L_ok (H := rdH e ts) (fun d Hn h => by cases h; exact ⟨rfl, by simp⟩) (fn := Try.f68) rfl rfl rfl rfl (by kernel_rfl) ?_
  have hi := is_ok (m := m) e k x ts
  rw [h] at hi
  clear h
  repeat' (first
    | apply w_seq
    | apply w_region
    | apply o_end
    | apply t_normal
    | (apply o_val; exact kc0; exact kc2)
    | (apply o_beside fine; exact kc0; exact kc1; exact hi; rfl; rfl; exact kd4; exact kd3)
    | apply w_skip
    | apply w_ret
    | (apply w_false; exact kc3)
    | fail)
  apply s_ret rfl
  · simp [*]; rfl
  · rfl
  · exact Snap.flat (by simp)
end Go.Proofs.Ytknkkfdkcemolaa.Vm
end
section
/- Walks: places and attributes of a description. -/
set_option linter.unusedSimpArgs false
set_option linter.unusedVariables false
set_option maxRecDepth 100000
set_option maxHeartbeats 4000000
namespace Go.Proofs.Ytknkkfdkcemolaa.Vm
open Go
variable {m : Int}
attribute [local irreducible] wpD opsD thenD blockD planD planA
attribute [local simp] List.take_of_length_le List.drop_of_length_le bne mvD endAt

theorem placed_ok (e : Nat) (ts : List Tok) (n o : Tok) (r : List Tok) (h : placedP e ts = .ok ((n, o), r)) : CallsV (L m) 65 [rdR] (rdH e ts) (Ends 1 (rdH e ts) (.ok (.tuple [.agg (encT n), .agg (encT o)], rdH e r))) := by
  refine ends_of_body L_ok (H := rdH e ts) (fun d Hn h => by cases h; exact ⟨rfl, by simp⟩) (fn := Try.f65) rfl rfl rfl rfl (by kernel_rfl) ?_
  unfold placedP at h
  split at h
  · cases h
  rename_i n' r1 h1
  split at h
  · cases h
  rename_i y r2 h2
  split at h
  · cases h
  rename_i o' r3 h3
  obtain ⟨⟨rfl, rfl⟩, rfl⟩ : (n' = n ∧ o' = o) ∧ r3 = r := by simpa using h
  have a1 := take_ok (m := m) e 1 ts _ _ h1
  have a2 := want_ok (m := m) e 2 _ r1 _ _ h2
  have a3 := take_ok (m := m) e 1 r2 _ _ h3
  clear h h1 h2 h3
  repeat' (first
    | apply w_seq
    | apply w_region
    | apply o_end
    | apply t_normal
    | (apply o_val; exact kc0; exact kc2)
    | (apply o_beside fine; exact kc0; exact kc1; exact a1; rfl; rfl; exact kd4; exact kd3)
    | (apply o_beside fine; exact kc0; exact kc1; exact a2; rfl; rfl; exact kd4; exact kd3)
    | (apply o_mem; exact kc0; rfl; exact kc1)
    | apply w_ret
    | (apply w_drawA; rfl; exact ke3; exact kc4; exact kc4)
    | (apply a_end; exact kc4)
    | (apply a_val; exact kc4; exact kc5; exact kd9; exact kc6)
    | (apply a_besideG fine; exact kc4; exact kc5; exact kd8; exact a3; rfl; rfl; exact kd4; exact kd3; exact kc7; exact kc8; exact kc6; exact kc4)
    | (apply a_tie; exact kc4; exact kc5; exact ke0; exact kc7; exact kc6; exact kc4)
    | (apply a_mem; exact kc4; exact kc5; exact ke1; exact kd8; exact kc7; exact kc6; exact kc4)
    | fail)
  apply s_ret rfl
  · simp [*]; rfl
  · rfl
  · exact Snap.flat (by simp)
theorem placed_up (e : Nat) (ts : List Tok) (a : Nat) (h : placedP e ts = .error a) : CallsV (L m) 65 [rdR] (rdH e ts) (Ends 1 (rdH e ts) (.error (stopD a))) := by
  refine ends_of_body L_ok (H := rdH e ts) (fun d Hn h => by cases h) (fn := Try.f65) rfl rfl rfl rfl (by kernel_rfl) ?_
  unfold placedP at h
  split at h
  · rename_i h1
    obtain rfl : _ = a := by simpa using h
    have a1 := take_up (m := m) e 1 ts _ h1
    clear h h1
    repeat' (first
      | apply w_seq
      | apply w_region
      | apply o_end
      | apply t_normal
      | (apply o_val; exact kc0; exact kc2)
      | (apply o_up fine; exact kc0; exact kc1; exact a1; rfl; exact kd6; (intro H1 hH1))
      | (apply o_mem; exact kc0; rfl; exact kc1)
      | apply t_panic
      | (apply s_panic; exact ke4)
      | fail)
  rename_i n' r1 h1
  have a1 := take_ok (m := m) e 1 ts _ _ h1
  split at h
  · rename_i h2
    obtain rfl : _ = a := by simpa using h
    have a2 := want_up (m := m) e 2 _ r1 _ h2
    clear h h1 h2
    repeat' (first
      | apply w_seq
      | apply w_region
      | apply o_end
      | apply t_normal
      | (apply o_val; exact kc0; exact kc2)
      | (apply o_beside fine; exact kc0; exact kc1; exact a1; rfl; rfl; exact kd4; exact kd3)
      | (apply o_up fine; exact kc0; exact kc1; exact a2; rfl; exact kd6; (intro H1 hH1))
      | (apply o_mem; exact kc0; rfl; exact kc1)
      | apply t_panic
      | (apply s_panic; exact ke4)
      | fail)
  rename_i y r2 h2
  have a2 := want_ok (m := m) e 2 _ r1 _ _ h2
  split at h
  · rename_i h3
    obtain rfl : _ = a := by simpa using h
    have a3 := take_up (m := m) e 1 r2 _ h3
    clear h h1 h2 h3
    repeat' (first
      | apply w_seq
      | apply w_region
      | apply o_end
      | apply t_normal
      | (apply o_val; exact kc0; exact kc2)
      | (apply o_beside fine; exact kc0; exact kc1; exact a1; rfl; rfl; exact kd4; exact kd3)
      | (apply o_beside fine; exact kc0; exact kc1; exact a2; rfl; rfl; exact kd4; exact kd3)
      | (apply o_mem; exact kc0; rfl; exact kc1)
      | apply t_panic
      | (apply s_panic; exact ke4)
      | (apply w_drawA; rfl; exact ke3; exact kc4; exact kc4)
      | (apply a_val; exact kc4; exact kc5; exact kd9; exact kc6)
      | (apply a_upB fine; exact kc4; exact kc5; exact kd8; exact a3; rfl; exact kd6; exact kc7; exact kc7; (intro f1 H1 hH1 hf1))
      | (apply a_tie; exact kc4; exact kc5; exact ke0; exact kc7; exact kc6; exact kc4)
      | fail)
  · cases h
end Go.Proofs.Ytknkkfdkcemolaa.Vm
end
section
/- Walks: attributes of a description. -/
set_option linter.unusedSimpArgs false
set_option linter.unusedVariables false
set_option maxRecDepth 100000
set_option maxHeartbeats 4000000
namespace Go.Proofs.Ytknkkfdkcemolaa.Vm
open Go
variable {m : Int}
attribute [local irreducible] wpD opsD thenD blockD planD planA
attribute [local simp] List.take_of_length_le List.drop_of_length_le bne mvD endAt

theorem attr0_ok {e : Nat} {ts r r3 : List Tok} {t y : Tok} (h1 : takeP e 2 ts = .ok (t, r)) (h2 : t.text ∈ noArg) (h3 : wantP e 4 [59] r = .ok (y, r3)) : CallsV (L m) 69 [rdR] (rdH e ts) (Ends 1 (rdH e ts) (.ok (.agg (encT t ++ encT zeroTok), rdH e r3))) := by
  refine ends_of_body L_ok (H := rdH e ts) (fun d Hn h => by cases h; exact ⟨rfl, by simp⟩) (fn := Try.f69) rfl rfl rfl rfl (by kernel_rfl) ?_
  obtain ⟨kd, pa, tx⟩ := t
  simp only at h2
  have a1 := take_ok (m := m) e 2 ts _ _ h1
  have a3 := want_ok (m := m) e 4 _ r _ _ h3
  clear h1 h3
  simp only [noArg, List.mem_cons, List.not_mem_nil, or_false] at h2
  rcases h2 with rfl | rfl | rfl | rfl | rfl | rfl
  all_goals repeat' (first
    | apply w_seq
    | apply w_region
    | apply o_end
    | apply t_normal
    | (apply o_val; exact kc0; exact kc2)
    | (apply o_beside fine; exact kc0; exact kc1; exact a1; rfl; rfl; exact kd4; exact kd3)
    | (apply o_beside fine; exact kc0; exact kc1; exact a3; rfl; rfl; exact kd4; exact kd3)
    | (apply o_mem; exact kc0; rfl; exact kc1)
    | apply w_skip
    | apply w_block
    | apply b_normal
    | apply w_ret
    | (apply w_true; exact kc3)
    | (apply w_false; exact kc3)
    | fail)
  all_goals apply s_ret rfl
  all_goals first | rfl | (exact Snap.flat (by simp)) | (simp [*]; rfl)
theorem attr0_up {e a : Nat} {ts r : List Tok} {t : Tok} (h1 : takeP e 2 ts = .ok (t, r)) (h2 : t.text ∈ noArg) (h3 : wantP e 4 [59] r = .error a) : CallsV (L m) 69 [rdR] (rdH e ts) (Ends 1 (rdH e ts) (.error (stopD a))) := by
  refine ends_of_body L_ok (H := rdH e ts) (fun d Hn h => by cases h) (fn := Try.f69) rfl rfl rfl rfl (by kernel_rfl) ?_
  obtain ⟨kd, pa, tx⟩ := t
  simp only at h2
  have a1 := take_ok (m := m) e 2 ts _ _ h1
  have a3 := want_up (m := m) e 4 _ r _ h3
  clear h1 h3
  simp only [noArg, List.mem_cons, List.not_mem_nil, or_false] at h2
  rcases h2 with rfl | rfl | rfl | rfl | rfl | rfl
  all_goals repeat' (first
    | apply w_seq
    | apply w_region
    | apply o_end
    | apply t_normal
    | (apply o_val; exact kc0; exact kc2)
    | (apply o_beside fine; exact kc0; exact kc1; exact a1; rfl; rfl; exact kd4; exact kd3)
    | (apply o_up fine; exact kc0; exact kc1; exact a3; rfl; exact kd6; (intro H1 hH1))
    | (apply o_mem; exact kc0; rfl; exact kc1)
    | apply w_skip
    | apply w_block
    | apply b_normal
    | (apply w_true; exact kc3)
    | (apply w_false; exact kc3)
    | apply t_panic
    | (apply s_panic; exact ke4)
    | fail)
theorem attr1_ok {e : Nat} {ts r r2 r3 : List Tok} {t x y : Tok} (h1 : takeP e 2 ts = .ok (t, r)) (h2 : t.text ∈ nameArg) (hx : takeP e 1 r = .ok (x, r2)) (h3 : wantP e 4 [59] r2 = .ok (y, r3)) : CallsV (L m) 69 [rdR] (rdH e ts) (Ends 1 (rdH e ts) (.ok (.agg (encT t ++ encT x), rdH e r3))) := by
  refine ends_of_body L_ok (H := rdH e ts) (fun d Hn h => by cases h; exact ⟨rfl, by simp⟩) (fn := Try.f69) rfl rfl rfl rfl (by kernel_rfl) ?_
  obtain ⟨kd, pa, tx⟩ := t
  simp only at h2
  have a1 := take_ok (m := m) e 2 ts _ _ h1
  have a2 := take_ok (m := m) e 1 r _ _ hx
  have a3 := want_ok (m := m) e 4 _ r2 _ _ h3
  clear h1 h3 hx
  simp only [nameArg, List.mem_cons, List.not_mem_nil, or_false] at h2
  rcases h2 with rfl | rfl | rfl | rfl | rfl
  all_goals repeat' (first
    | apply w_seq
    | apply w_region
    | apply o_end
    | apply t_normal
    | (apply o_val; exact kc0; exact kc2)
    | (apply o_beside fine; exact kc0; exact kc1; exact a1; rfl; rfl; exact kd4; exact kd3)
    | (apply o_beside fine; exact kc0; exact kc1; exact a2; rfl; rfl; exact kd4; exact kd3)
    | (apply o_beside fine; exact kc0; exact kc1; exact a3; rfl; rfl; exact kd4; exact kd3)
    | (apply o_mem; exact kc0; rfl; exact kc1)
    | apply w_skip
    | apply w_block
    | apply b_normal
    | apply w_ret
    | (apply w_true; exact kc3)
    | (apply w_false; exact kc3)
    | fail)
  all_goals apply s_ret rfl
  all_goals first | rfl | (exact Snap.flat (by simp)) | (simp [*]; rfl)
theorem attr1_up {e a : Nat} {ts r r2 : List Tok} {t x : Tok} (h1 : takeP e 2 ts = .ok (t, r)) (h2 : t.text ∈ nameArg) (hx : takeP e 1 r = .ok (x, r2)) (h3 : wantP e 4 [59] r2 = .error a) : CallsV (L m) 69 [rdR] (rdH e ts) (Ends 1 (rdH e ts) (.error (stopD a))) := by
  refine ends_of_body L_ok (H := rdH e ts) (fun d Hn h => by cases h) (fn := Try.f69) rfl rfl rfl rfl (by kernel_rfl) ?_
  obtain ⟨kd, pa, tx⟩ := t
  simp only at h2
  have a1 := take_ok (m := m) e 2 ts _ _ h1
  have a2 := take_ok (m := m) e 1 r _ _ hx
  have a3 := want_up (m := m) e 4 _ r2 _ h3
  clear h1 h3 hx
  simp only [nameArg, List.mem_cons, List.not_mem_nil, or_false] at h2
  rcases h2 with rfl | rfl | rfl | rfl | rfl
  all_goals repeat' (first
    | apply w_seq
    | apply w_region
    | apply o_end
    | apply t_normal
    | (apply o_val; exact kc0; exact kc2)
    | (apply o_beside fine; exact kc0; exact kc1; exact a1; rfl; rfl; exact kd4; exact kd3)
    | (apply o_beside fine; exact kc0; exact kc1; exact a2; rfl; rfl; exact kd4; exact kd3)
    | (apply o_up fine; exact kc0; exact kc1; exact a3; rfl; exact kd6; (intro H1 hH1))
    | (apply o_mem; exact kc0; rfl; exact kc1)
    | apply w_skip
    | apply w_block
    | apply b_normal
    | (apply w_true; exact kc3)
    | (apply w_false; exact kc3)
    | apply t_panic
    | (apply s_panic; exact ke4)
    | fail)
theorem attr1_no {e a : Nat} {ts r : List Tok} {t : Tok} (h1 : takeP e 2 ts = .ok (t, r)) (h2 : t.text ∈ nameArg) (hx : takeP e 1 r = .error a) : CallsV (L m) 69 [rdR] (rdH e ts) (Ends 1 (rdH e ts) (.error (stopD a))) := by
  refine ends_of_body L_ok (H := rdH e ts) (fun d Hn h => by cases h) (fn := Try.f69) rfl rfl rfl rfl (by kernel_rfl) ?_
  obtain ⟨kd, pa, tx⟩ := t
  simp only at h2
  have a1 := take_ok (m := m) e 2 ts _ _ h1
  have a2 := take_up (m := m) e 1 r _ hx
  clear h1 hx
  simp only [nameArg, List.mem_cons, List.not_mem_nil, or_false] at h2
  rcases h2 with rfl | rfl | rfl | rfl | rfl
  all_goals repeat' (first
    | apply w_seq
    | apply w_region
    | apply o_end
    | apply t_normal
    | (apply o_val; exact kc0; exact kc2)
    | (apply o_beside fine; exact kc0; exact kc1; exact a1; rfl; rfl; exact kd4; exact kd3)
    | (apply o_up fine; exact kc0; exact kc1; exact a2; rfl; exact kd6; (intro H1 hH1))
    | (apply o_mem; exact kc0; rfl; exact kc1)
    | apply w_skip
    | apply w_block
    | (apply w_true; exact kc3)
    | (apply w_false; exact kc3)
    | apply t_panic
    | apply b_panic
    | (apply s_panic; exact ke4)
    | fail)
theorem attr3_ok {e : Nat} {ts r r2 r3 : List Tok} {t x y : Tok} (h1 : takeP e 2 ts = .ok (t, r)) (h2 : t.text ∈ textArg) (hx : takeP e 3 r = .ok (x, r2)) (h3 : wantP e 4 [59] r2 = .ok (y, r3)) : CallsV (L m) 69 [rdR] (rdH e ts) (Ends 1 (rdH e ts) (.ok (.agg (encT t ++ encT x), rdH e r3))) := by
  refine ends_of_body L_ok (H := rdH e ts) (fun d Hn h => by cases h; exact ⟨rfl, by simp⟩) (fn := Try.f69) rfl rfl rfl rfl (by kernel_rfl) ?_
  obtain ⟨kd, pa, tx⟩ := t
  simp only at h2
  have a1 := take_ok (m := m) e 2 ts _ _ h1
  have a2 := take_ok (m := m) e 3 r _ _ hx
  have a3 := want_ok (m := m) e 4 _ r2 _ _ h3
  clear h1 h3 hx
  simp only [textArg, List.mem_cons, List.not_mem_nil, or_false] at h2
  rcases h2 with rfl | rfl | rfl | rfl
  all_goals repeat' (first
    | apply w_seq
    | apply w_region
    | apply o_end
    | apply t_normal
    | (apply o_val; exact kc0; exact kc2)
    | (apply o_beside fine; exact kc0; exact kc1; exact a1; rfl; rfl; exact kd4; exact kd3)
    | (apply o_beside fine; exact kc0; exact kc1; exact a2; rfl; rfl; exact kd4; exact kd3)
    | (apply o_beside fine; exact kc0; exact kc1; exact a3; rfl; rfl; exact kd4; exact kd3)
    | (apply o_mem; exact kc0; rfl; exact kc1)
    | apply w_skip
    | apply w_block
    | apply b_normal
    | apply w_ret
    | (apply w_true; exact kc3)
    | (apply w_false; exact kc3)
    | fail)
  all_goals apply s_ret rfl
  all_goals first | rfl | (exact Snap.flat (by simp)) | (simp [*]; rfl)
theorem attr3_up {e a : Nat} {ts r r2 : List Tok} {t x : Tok} (h1 : takeP e 2 ts = .ok (t, r)) (h2 : t.text ∈ textArg) (hx : takeP e 3 r = .ok (x, r2)) (h3 : wantP e 4 [59] r2 = .error a) : CallsV (L m) 69 [rdR] (rdH e ts) (Ends 1 (rdH e ts) (.error (stopD a))) := by
  refine ends_of_body L_ok (H := rdH e ts) (fun d Hn h => by cases h) (fn := Try.f69) rfl rfl rfl rfl (by kernel_rfl) ?_
  obtain ⟨kd, pa, tx⟩ := t
  simp only at h2
  have a1 := take_ok (m := m) e 2 ts _ _ h1
  have a2 := take_ok (m := m) e 3 r _ _ hx
  have a3 := want_up (m := m) e 4 _ r2 _ h3
  clear h1 h3 hx
  simp only [textArg, List.mem_cons, List.not_mem_nil, or_false] at h2
  rcases h2 with rfl | rfl | rfl | rfl
  all_goals repeat' (first
    | apply w_seq
    | apply w_region
    | apply o_end
    | apply t_normal
    | (apply o_val; exact kc0; exact kc2)
    | (apply o_beside fine; exact kc0; exact kc1; exact a1; rfl; rfl; exact kd4; exact kd3)
    | (apply o_beside fine; exact kc0; exact kc1; exact a2; rfl; rfl; exact kd4; exact kd3)
    | (apply o_up fine; exact kc0; exact kc1; exact a3; rfl; exact kd6; (intro H1 hH1))
    | (apply o_mem; exact kc0; rfl; exact kc1)
    | apply w_skip
    | apply w_block
    | apply b_normal
    | (apply w_true; exact kc3)
    | (apply w_false; exact kc3)
    | apply t_panic
    | (apply s_panic; exact ke4)
    | fail)
theorem attr3_no {e a : Nat} {ts r : List Tok} {t : Tok} (h1 : takeP e 2 ts = .ok (t, r)) (h2 : t.text ∈ textArg) (hx : takeP e 3 r = .error a) : CallsV (L m) 69 [rdR] (rdH e ts) (Ends 1 (rdH e ts) (.error (stopD a))) := by
  refine ends_of_body L_ok (H := rdH e ts) (fun d Hn h => by cases h) (fn := Try.f69) rfl rfl rfl rfl (by kernel_rfl) ?_
  obtain ⟨kd, pa, tx⟩ := t
  simp only at h2
  have a1 := take_ok (m := m) e 2 ts _ _ h1
  have a2 := take_up (m := m) e 3 r _ hx
  clear h1 hx
  simp only [textArg, List.mem_cons, List.not_mem_nil, or_false] at h2
  rcases h2 with rfl | rfl | rfl | rfl
  all_goals repeat' (first
    | apply w_seq
    | apply w_region
    | apply o_end
    | apply t_normal
    | (apply o_val; exact kc0; exact kc2)
    | (apply o_beside fine; exact kc0; exact kc1; exact a1; rfl; rfl; exact kd4; exact kd3)
    | (apply o_up fine; exact kc0; exact kc1; exact a2; rfl; exact kd6; (intro H1 hH1))
    | (apply o_mem; exact kc0; rfl; exact kc1)
    | apply w_skip
    | apply w_block
    | (apply w_true; exact kc3)
    | (apply w_false; exact kc3)
    | apply t_panic
    | apply b_panic
    | (apply s_panic; exact ke4)
    | fail)
theorem attrA_ok {e : Nat} {ts r r2 r3 : List Tok} {t x y : Tok} (h1 : takeP e 2 ts = .ok (t, r)) (h2 : t.text = [99, 111, 114, 115]) (hb : isP 2 [97, 110, 121] r = true) (hx : takeP e 2 r = .ok (x, r2)) (h3 : wantP e 4 [59] r2 = .ok (y, r3)) : CallsV (L m) 69 [rdR] (rdH e ts) (Ends 1 (rdH e ts) (.ok (.agg (encT t ++ encT x), rdH e r3))) := by
  refine ends_of_body L_ok (H := rdH e ts) (fun d Hn h => by cases h; exact ⟨rfl, by simp⟩) (fn := Try.f69) rfl rfl rfl rfl (by kernel_rfl) ?_
  obtain ⟨kd, pa, tx⟩ := t
  simp only at h2
  subst h2
  have a1 := take_ok (m := m) e 2 ts _ _ h1
  have a0 := is_ok (m := m) e 2 [97, 110, 121] r
  rw [hb] at a0
  have a2 := take_ok (m := m) e 2 r _ _ hx
  have a3 := want_ok (m := m) e 4 _ r2 _ _ h3
  clear h1 h3 hx hb
  repeat' (first
    | apply w_seq
    | apply w_region
    | apply o_end
    | apply t_normal
    | (apply o_val; exact kc0; exact kc2)
    | (apply o_beside fine; exact kc0; exact kc1; exact a0; rfl; rfl; exact kd4; exact kd3)
    | (apply o_beside fine; exact kc0; exact kc1; exact a1; rfl; rfl; exact kd4; exact kd3)
    | (apply o_beside fine; exact kc0; exact kc1; exact a2; rfl; rfl; exact kd4; exact kd3)
    | (apply o_beside fine; exact kc0; exact kc1; exact a3; rfl; rfl; exact kd4; exact kd3)
    | (apply o_mem; exact kc0; rfl; exact kc1)
    | apply w_block
    | apply b_normal
    | apply w_ret
    | (apply w_true; exact kc3)
    | (apply w_false; exact kc3)
    | fail)
  all_goals apply s_ret rfl
  all_goals first | rfl | (exact Snap.flat (by simp)) | (simp [*]; rfl)
theorem attrA_up {e a : Nat} {ts r r2 : List Tok} {t x : Tok} (h1 : takeP e 2 ts = .ok (t, r)) (h2 : t.text = [99, 111, 114, 115]) (hb : isP 2 [97, 110, 121] r = true) (hx : takeP e 2 r = .ok (x, r2)) (h3 : wantP e 4 [59] r2 = .error a) : CallsV (L m) 69 [rdR] (rdH e ts) (Ends 1 (rdH e ts) (.error (stopD a))) := by
  refine ends_of_body L_ok (H := rdH e ts) (fun d Hn h => by cases h) (fn := Try.f69) rfl rfl rfl rfl (by kernel_rfl) ?_
  obtain ⟨kd, pa, tx⟩ := t
  simp only at h2
  subst h2
  have a1 := take_ok (m := m) e 2 ts _ _ h1
  have a0 := is_ok (m := m) e 2 [97, 110, 121] r
  rw [hb] at a0
  have a2 := take_ok (m := m) e 2 r _ _ hx
  have a3 := want_up (m := m) e 4 _ r2 _ h3
  clear h1 h3 hx hb
  repeat' (first
    | apply w_seq
    | apply w_region
    | apply o_end
    | apply t_normal
    | (apply o_val; exact kc0; exact kc2)
    | (apply o_beside fine; exact kc0; exact kc1; exact a0; rfl; rfl; exact kd4; exact kd3)
    | (apply o_beside fine; exact kc0; exact kc1; exact a1; rfl; rfl; exact kd4; exact kd3)
    | (apply o_beside fine; exact kc0; exact kc1; exact a2; rfl; rfl; exact kd4; exact kd3)
    | (apply o_up fine; exact kc0; exact kc1; exact a3; rfl; exact kd6; (intro H1 hH1))
    | (apply o_mem; exact kc0; rfl; exact kc1)
    | apply w_block
    | apply b_normal
    | (apply w_true; exact kc3)
    | (apply w_false; exact kc3)
    | apply t_panic
    | (apply s_panic; exact ke4)
    | fail)
theorem attrA_no {e a : Nat} {ts r : List Tok} {t : Tok} (h1 : takeP e 2 ts = .ok (t, r)) (h2 : t.text = [99, 111, 114, 115]) (hb : isP 2 [97, 110, 121] r = true) (hx : takeP e 2 r = .error a) : CallsV (L m) 69 [rdR] (rdH e ts) (Ends 1 (rdH e ts) (.error (stopD a))) := by
  refine ends_of_body L_ok (H := rdH e ts) (fun d Hn h => by cases h) (fn := Try.f69) rfl rfl rfl rfl (by kernel_rfl) ?_
  obtain ⟨kd, pa, tx⟩ := t
  simp only at h2
  subst h2
  have a1 := take_ok (m := m) e 2 ts _ _ h1
  have a0 := is_ok (m := m) e 2 [97, 110, 121] r
  rw [hb] at a0
  have a2 := take_up (m := m) e 2 r _ hx
  clear h1 hx hb
  repeat' (first
    | apply w_seq
    | apply w_region
    | apply o_end
    | apply t_normal
    | (apply o_val; exact kc0; exact kc2)
    | (apply o_beside fine; exact kc0; exact kc1; exact a0; rfl; rfl; exact kd4; exact kd3)
    | (apply o_beside fine; exact kc0; exact kc1; exact a1; rfl; rfl; exact kd4; exact kd3)
    | (apply o_up fine; exact kc0; exact kc1; exact a2; rfl; exact kd6; (intro H1 hH1))
    | (apply o_mem; exact kc0; rfl; exact kc1)
    | apply w_block
    | (apply w_true; exact kc3)
    | (apply w_false; exact kc3)
    | apply t_panic
    | apply b_panic
    | (apply s_panic; exact ke4)
    | fail)
theorem attrN_ok {e : Nat} {ts r r2 r3 : List Tok} {t x y : Tok} (h1 : takeP e 2 ts = .ok (t, r)) (h2 : t.text = [99, 111, 114, 115]) (hb : isP 2 [97, 110, 121] r = false) (hx : takeP e 1 r = .ok (x, r2)) (h3 : wantP e 4 [59] r2 = .ok (y, r3)) : CallsV (L m) 69 [rdR] (rdH e ts) (Ends 1 (rdH e ts) (.ok (.agg (encT t ++ encT x), rdH e r3))) := by
  refine ends_of_body L_ok (H := rdH e ts) (fun d Hn h => by cases h; exact ⟨rfl, by simp⟩) (fn := Try.f69) rfl rfl rfl rfl (by kernel_rfl) ?_
  obtain ⟨kd, pa, tx⟩ := t
  simp only at h2
  subst h2
  have a1 := take_ok (m := m) e 2 ts _ _ h1
  have a0 := is_ok (m := m) e 2 [97, 110, 121] r
  rw [hb] at a0
  have a2 := take_ok (m := m) e 1 r _ _ hx
  have a3 := want_ok (m := m) e 4 _ r2 _ _ h3
  clear h1 h3 hx hb
  repeat' (first
    | apply w_seq
    | apply w_region
    | apply o_end
    | apply t_normal
    | (apply o_val; exact kc0; exact kc2)
    | (apply o_beside fine; exact kc0; exact kc1; exact a0; rfl; rfl; exact kd4; exact kd3)
    | (apply o_beside fine; exact kc0; exact kc1; exact a1; rfl; rfl; exact kd4; exact kd3)
    | (apply o_beside fine; exact kc0; exact kc1; exact a2; rfl; rfl; exact kd4; exact kd3)
    | (apply o_beside fine; exact kc0; exact kc1; exact a3; rfl; rfl; exact kd4; exact kd3)
    | (apply o_mem; exact kc0; rfl; exact kc1)
    | apply w_block
    | apply b_normal
    | apply w_ret
    | (apply w_true; exact kc3)
    | (apply w_false; exact kc3)
    | fail)
  all_goals apply s_ret rfl
  all_goals first | rfl | (exact Snap.flat (by simp)) | (simp [*]; rfl)
theorem attrN_up {e a : Nat} {ts r r2 : List Tok} {t x : Tok} (h1 : takeP e 2 ts = .ok (t, r)) (h2 : t.text = [99, 111, 114, 115]) (hb : isP 2 [97, 110, 121] r = false) (hx : takeP e 1 r = .ok (x, r2)) (h3 : wantP e 4 [59] r2 = .error a) : CallsV (L m) 69 [rdR] (rdH e ts) (Ends 1 (rdH e ts) (.error (stopD a))) := by
  refine ends_of_body L_ok (H := rdH e ts) (fun d Hn h => by cases h) (fn := Try.f69) rfl rfl rfl rfl (by kernel_rfl) ?_
  obtain ⟨kd, pa, tx⟩ := t
  simp only at h2
  subst h2
  have a1 := take_ok (m := m) e 2 ts _ _ h1
  have a0 := is_ok (m := m) e 2 [97, 110, 121] r
  rw [hb] at a0
  have a2 := take_ok (m := m) e 1 r _ _ hx
  have a3 := want_up (m := m) e 4 _ r2 _ h3
  clear h1 h3 hx hb
  repeat' (first
    | apply w_seq
    | apply w_region
    | apply o_end
    | apply t_normal
    | (apply o_val; exact kc0; exact kc2)
    | (apply o_beside fine; exact kc0; exact kc1; exact a0; rfl; rfl; exact kd4; exact kd3)
    | (apply o_beside fine; exact kc0; exact kc1; exact a1; rfl; rfl; exact kd4; exact kd3)
    | (apply o_beside fine; exact kc0; exact kc1; exact a2; rfl; rfl; exact kd4; exact kd3)
    | (apply o_up fine; exact kc0; exact kc1; exact a3; rfl; exact kd6; (intro H1 hH1))
    | (apply o_mem; exact kc0; rfl; exact kc1)
    | apply w_block
    | apply b_normal
    | (apply w_true; exact kc3)
    | (apply w_false; exact kc3)
    | apply t_panic
    | (apply s_panic; exact ke4)
    | fail)
theorem attrN_no {e a : Nat} {ts r : List Tok} {t : Tok} (h1 : takeP e 2 ts = .ok (t, r)) (h2 : t.text = [99, 111, 114, 115]) (hb : isP 2 [97, 110, 121] r = false) (hx : takeP e 1 r = .error a) : CallsV (L m) 69 [rdR] (rdH e ts) (Ends 1 (rdH e ts) (.error (stopD a))) := by
  refine ends_of_body L_ok (H := rdH e ts) (fun d Hn h => by cases h) (fn := Try.f69) rfl rfl rfl rfl (by kernel_rfl) ?_
  obtain ⟨kd, pa, tx⟩ := t
  simp only at h2
  subst h2
  have a1 := take_ok (m := m) e 2 ts _ _ h1
  have a0 := is_ok (m := m) e 2 [97, 110, 121] r
  rw [hb] at a0
  have a2 := take_up (m := m) e 1 r _ hx
  clear h1 hx hb
  repeat' (first
    | apply w_seq
    | apply w_region
    | apply o_end
    | apply t_normal
    | (apply o_val; exact kc0; exact kc2)
    | (apply o_beside fine; exact kc0; exact kc1; exact a0; rfl; rfl; exact kd4; exact kd3)
    | (apply o_beside fine; exact kc0; exact kc1; exact a1; rfl; rfl; exact kd4; exact kd3)
    | (apply o_up fine; exact kc0; exact kc1; exact a2; rfl; exact kd6; (intro H1 hH1))
    | (apply o_mem; exact kc0; rfl; exact kc1)
    | apply w_block
    | (apply w_true; exact kc3)
    | (apply w_false; exact kc3)
    | apply t_panic
    | apply b_panic
    | (apply s_panic; exact ke4)
    | fail)
theorem attr4_up {e : Nat} {ts r : List Tok} {t : Tok} (h1 : takeP e 2 ts = .ok (t, r)) (h0 : t.text ∉ noArg) (h2 : t.text ∉ nameArg) (h3 : t.text ≠ [99, 111, 114, 115]) (h4 : t.text ∉ textArg) : CallsV (L m) 69 [rdR] (rdH e ts) (Ends 1 (rdH e ts) (.error (stopD t.at_))) := by
  refine ends_of_body L_ok (H := rdH e ts) (fun d Hn h => by cases h) (fn := Try.f69) rfl rfl rfl rfl (by kernel_rfl) ?_
  obtain ⟨kd, pa, tx⟩ := t
  have a1 := take_ok (m := m) e 2 ts _ _ h1
  clear h1
  simp only [noArg, nameArg, textArg, List.mem_cons, List.not_mem_nil, or_false, not_or] at h0 h2 h3 h4
  have b0 : (tx == [112, 97, 103, 101]) = false := by simpa using h0.1
  have b1 : (tx == [105, 110, 106, 101, 99, 116]) = false := by simpa using h0.2.1
  have b2 : (tx == [111, 119, 110]) = false := by simpa using h0.2.2.1
  have b3 : (tx == [99, 104, 97, 110, 103, 101, 115]) = false := by simpa using h0.2.2.2.1
  have b4 : (tx == [111, 112, 101, 110]) = false := by simpa using h0.2.2.2.2.1
  have b5 : (tx == [99, 114, 101, 100, 101, 110, 116, 105, 97, 108, 115]) = false := by simpa using h0.2.2.2.2.2
  have b6 : (tx == [115, 99, 114, 105, 112, 116]) = false := by simpa using h2.1
  have b7 : (tx == [110, 101, 101, 100, 115]) = false := by simpa using h2.2.1
  have b8 : (tx == [115, 101, 116, 115]) = false := by simpa using h2.2.2.1
  have b9 : (tx == [103, 105, 118, 101, 115]) = false := by simpa using h2.2.2.2.1
  have b10 : (tx == [114, 101, 100, 105, 114, 101, 99, 116]) = false := by simpa using h2.2.2.2.2
  have b11 : (tx == [99, 111, 114, 115]) = false := by simpa using h3
  have b12 : (tx == [104, 101, 97, 100, 101, 114]) = false := by simpa using h4.1
  have b13 : (tx == [97, 108, 108, 111, 119]) = false := by simpa using h4.2.1
  have b14 : (tx == [109, 101, 116, 104, 111, 100, 115]) = false := by simpa using h4.2.2.1
  have b15 : (tx == [99, 115, 112]) = false := by simpa using h4.2.2.2
  clear h0 h2 h3 h4
  repeat' (first
    | apply w_seq
    | apply w_region
    | apply o_end
    | apply t_normal
    | (apply o_val; exact kc0; exact kc2)
    | (apply o_beside fine; exact kc0; exact kc1; exact a1; rfl; rfl; exact kd4; exact kd3)
    | (apply o_mem; exact kc0; rfl; exact kc1)
    | apply w_block
    | (apply w_false; exact kc3)
    | apply t_panic
    | apply b_panic
    | (apply s_panic; exact ke4)
    | (apply o_panic; exact kc0; (focus (simp [*]; first | rfl | exact ⟨rfl, rfl⟩)))
    | fail)
theorem attr_head {e a : Nat} {ts : List Tok} (h1 : takeP e 2 ts = .error a) : CallsV (L m) 69 [rdR] (rdH e ts) (Ends 1 (rdH e ts) (.error (stopD a))) := by
  refine ends_of_body L_ok (H := rdH e ts) (fun d Hn h => by cases h) (fn := Try.f69) rfl rfl rfl rfl (by kernel_rfl) ?_
  have a1 := take_up (m := m) e 2 ts _ h1
  clear h1
  repeat' (first
    | apply w_seq
    | apply w_region
    | apply o_end
    | apply t_normal
    | (apply o_val; exact kc0; exact kc2)
    | (apply o_up fine; exact kc0; exact kc1; exact a1; rfl; exact kd6; (intro H1 hH1))
    | (apply o_mem; exact kc0; rfl; exact kc1)
    | apply t_panic
    | (apply s_panic; exact ke4)
    | fail)
theorem attr_ok {e : Nat} {ts r : List Tok} {a : AttrT} (h : attrP e ts = .ok (a, r)) : CallsV (L m) 69 [rdR] (rdH e ts) (Ends 1 (rdH e ts) (.ok (.agg (encT a.word ++ encT a.arg), rdH e r))) := by
  unfold attrP at h
  split at h
  · cases h
  rename_i t r1 h1
  split at h
  · cases h
  rename_i x r2 hx
  split at h
  · cases h
  rename_i y r3 h3
  simp only [Except.ok.injEq, Prod.mk.injEq] at h
  obtain ⟨rfl, rfl⟩ := h
  unfold argP at hx
  split at hx
  · rename_i h2
    simp only [Except.ok.injEq, Prod.mk.injEq] at hx
    obtain ⟨rfl, rfl⟩ := hx
    exact attr0_ok h1 h2 h3
  split at hx
  · rename_i h2; exact attr1_ok h1 h2 hx h3
  split at hx
  · rename_i h2
    split at hx
    · rename_i hb; exact attrA_ok h1 h2 hb hx h3
    · rename_i hb; exact attrN_ok h1 h2 (by simpa using hb) hx h3
  split at hx
  · rename_i h2; exact attr3_ok h1 h2 hx h3
  · cases hx
theorem attr_up {e a : Nat} {ts : List Tok} (h : attrP e ts = .error a) : CallsV (L m) 69 [rdR] (rdH e ts) (Ends 1 (rdH e ts) (.error (stopD a))) := by
  unfold attrP at h
  split at h
  · rename_i h1
    obtain rfl : _ = a := by simpa using h
    exact attr_head h1
  rename_i t r1 h1
  split at h
  · rename_i b hx
    obtain rfl : b = a := by simpa using h
    unfold argP at hx
    split at hx
    · cases hx
    split at hx
    · rename_i h2; exact attr1_no h1 h2 hx
    split at hx
    · rename_i h2
      split at hx
      · rename_i hb; exact attrA_no h1 h2 hb hx
      · rename_i hb; exact attrN_no h1 h2 (by simpa using hb) hx
    split at hx
    · rename_i h2; exact attr3_no h1 h2 hx
    · rename_i i0 i1 i2 i3
      obtain rfl : t.at_ = b := by simpa using hx
      exact attr4_up h1 i0 i1 i2 i3
  rename_i x r2 hx
  split at h
  · rename_i b h3
    obtain rfl : b = a := by simpa using h
    unfold argP at hx
    split at hx
    · rename_i h2
      simp only [Except.ok.injEq, Prod.mk.injEq] at hx
      obtain ⟨rfl, rfl⟩ := hx
      exact attr0_up h1 h2 h3
    split at hx
    · rename_i h2; exact attr1_up h1 h2 hx h3
    split at hx
    · rename_i h2
      split at hx
      · rename_i hb; exact attrA_up h1 h2 hb hx h3
      · rename_i hb; exact attrN_up h1 h2 (by simpa using hb) hx h3
    split at hx
    · rename_i h2; exact attr3_up h1 h2 hx h3
    · cases hx
  · cases h
end Go.Proofs.Ytknkkfdkcemolaa.Vm
end
section
/- Plain: formulas as they are read. -/
set_option linter.unusedSimpArgs false
set_option linter.unusedVariables false
namespace Go.Proofs.Ytknkkfdkcemolaa.Vm
open Go
variable {m : Int}

inductive Tree where
  | leaf (w n : Tok)
  | un (w : Tok) (k : Tree)
  | bin (w : Tok) (a b : Tree)
def factW : List (List UInt8) := [[99, 104, 97, 110, 103, 101, 100], [102, 111, 114, 103, 101, 100], [107, 110, 111, 119, 115], [115, 116, 111, 108, 101, 110], [114, 97, 110]]
/-- What stands between ors, or ands, from the second on; k: rounds at most. -/
def moreP (next : List Tok → PR Tree) (e : Nat) (word : List UInt8) : Nat → Tree → List Tok → PR Tree
  | 0, _, _ => .error 0
  | k + 1, t, ts => if isP 2 word ts then (match takeP e 2 ts with
      | .error a => .error a
      | .ok (w, r) => match next r with
        | .error a => .error a
        | .ok (b, r2) => moreP next e word k (.bin w t b) r2) else .ok (t, ts)
def chainOf (next : List Tok → PR Tree) (e : Nat) (word : List UInt8) (ts : List Tok) : PR Tree := match next ts with
  | .error a => .error a
  | .ok (t, r) => moreP next e word (r.length + 1) t r
/-- l: 0 a factor, 1 between ands, 2 between ors; n: more than 3 times the tokens, and l. -/
def formP (e : Nat) : Nat → Nat → List Tok → PR Tree
  | 0, _, _ => .error 0
  | n + 1, 2, ts => chainOf (formP e n 1) e [111, 114] ts
  | n + 1, 1, ts => chainOf (formP e n 0) e [97, 110, 100] ts
  | n + 1, _, ts => if isP 4 [40] ts then (match formP e n 2 ts.tail with
      | .error a => .error a
      | .ok (t, r) => match wantP e 4 [41] r with
        | .error a => .error a
        | .ok (_, r2) => .ok (t, r2))
    else match takeP e 2 ts with
      | .error a => .error a
      | .ok (w, r) => if w.text = [110, 111, 116] then (match formP e n 0 r with
          | .error a => .error a
          | .ok (k, r2) => .ok (.un w k, r2))
        else if w.text ∈ factW then (match takeP e 1 r with
          | .error a => .error a
          | .ok (x, r2) => .ok (.leaf w x, r2))
        else .error w.at_
theorem takeP_len {e k : Nat} {ts r : List Tok} {t : Tok} (h : takeP e k ts = .ok (t, r)) : ts = t :: r ∧ t.kind = k := by
  cases ts with
  | nil => cases h
  | cons u us =>
    rw [takeP] at h
    split at h
    · rename_i hk
      simp only [Except.ok.injEq, Prod.mk.injEq] at h
      obtain ⟨rfl, rfl⟩ := h
      exact ⟨rfl, hk⟩
    · cases h
theorem moreP_len {next : List Tok → PR Tree} {e : Nat} {word : List UInt8} (hn : ∀ ts t r, next ts = .ok (t, r) → r.length < ts.length) : ∀ (k : Nat) (t : Tree) (ts : List Tok) (t' : Tree) (r : List Tok), moreP next e word k t ts = .ok (t', r) → r.length ≤ ts.length := by
  intro k
  induction k with
  | zero => intro t ts t' r h; cases h
  | succ k ih =>
    intro t ts t' r h
    rw [moreP] at h
    split at h
    · split at h
      · cases h
      rename_i w r1 h1
      split at h
      · cases h
      rename_i b r2 h2
      have := ih _ _ _ _ h
      have := hn _ _ _ h2
      have := (takeP_len h1).1
      subst this
      simp only [List.length_cons]
      omega
    · simp only [Except.ok.injEq, Prod.mk.injEq] at h
      rw [h.2]
      exact Nat.le_refl _
theorem formP_len (e : Nat) : ∀ (n l : Nat) (ts : List Tok) (t : Tree) (r : List Tok), formP e n l ts = .ok (t, r) → r.length < ts.length := by
  intro n
  induction n with
  | zero => intro l ts t r h; cases l <;> cases h
  | succ n ih =>
    intro l ts t r
    have chain : ∀ l word, chainOf (formP e n l) e word ts = .ok (t, r) → r.length < ts.length := by
      intro l word h
      unfold chainOf at h
      split at h
      · cases h
      rename_i t1 r1 h1
      have h2 := moreP_len (ih l) _ _ _ _ _ h
      have h3 := ih l _ _ _ h1
      omega
    have fac : formP e (n + 1) 0 ts = .ok (t, r) → r.length < ts.length := by
      intro h
      rw [formP] at h
      case x_4 => decide
      case x_5 => decide
      split at h
      · rename_i hb
        obtain ⟨u, us, rfl, _⟩ := isP_take (e := e) hb
        split at h
        · cases h
        rename_i t1 r1 h1
        split at h
        · cases h
        rename_i y r2 h2
        simp only [Except.ok.injEq, Prod.mk.injEq] at h
        obtain ⟨rfl, rfl⟩ := h
        have h3 := ih _ _ _ _ h1
        have h4 := (takeP_len (wantP_ok h2).1).1
        subst h4
        simp only [List.tail_cons, List.length_cons] at h3 ⊢
        omega
      · split at h
        · cases h
        rename_i w r1 h1
        have h0 := (takeP_len h1).1
        subst h0
        split at h
        · split at h
          · cases h
          rename_i k r2 h2
          simp only [Except.ok.injEq, Prod.mk.injEq] at h
          obtain ⟨rfl, rfl⟩ := h
          have h3 := ih _ _ _ _ h2
          simp only [List.length_cons]
          omega
        · split at h
          · split at h
            · cases h
            rename_i x r2 h2
            simp only [Except.ok.injEq, Prod.mk.injEq] at h
            obtain ⟨rfl, rfl⟩ := h
            have h3 := (takeP_len h2).1
            subst h3
            simp only [List.length_cons]
            omega
          · cases h
    intro h
    match l with
    | 0 => exact fac h
    | 1 => exact chain 0 _ h
    | 2 => exact chain 1 _ h
    | l + 3 => exact fac h
end Go.Proofs.Ytknkkfdkcemolaa.Vm
end
section
/- Walks: formulas. -/
set_option linter.unusedSimpArgs false
set_option linter.unusedVariables false
set_option maxRecDepth 100000
set_option maxHeartbeats 4000000
namespace Go.Proofs.Ytknkkfdkcemolaa.Vm
open Go
variable {m : Int}
attribute [local irreducible] wpD opsD thenD blockD planD planA
attribute [local simp] List.take_of_length_le List.drop_of_length_le bne mvD endAt

def treeD : Tree → D
  | .leaf w n => .box (encT w ++ encT n ++ [.nilsl])
  | .un w k => .box (encT w ++ encT zeroTok ++ [.isl 1 [[treeD k]]])
  | .bin w a b => .box (encT w ++ encT zeroTok ++ [.isl 1 [[treeD a], [treeD b]]])
@[simp] theorem treeD_flat (t : Tree) : Flat (treeD t) := by
  induction t with
  | leaf w n => unfold treeD; simp
  | un w k ih => unfold treeD; simp [ih]
  | bin w a b iha ihb => unfold treeD; simp [iha, ihb]
def isTree (t : Tree) (cs : List D) : Prop := treeD t = .box cs
theorem isTree_ex (t : Tree) : ∃ cs, isTree t cs := by cases t <;> exact ⟨_, rfl⟩
abbrev formD (e : Nat) : PR Tree → Except D (D × Heap)
  | .ok (t, r) => .ok (treeD t, rdH e r)
  | .error a => .error (stopD a)
theorem formD_len (e : Nat) (x : PR Tree) : ∀ d Hn, formD e x = .ok (d, Hn) → Hn.length = 1 ∧ ∀ k, k ∈ Hn → k.under 1 := by
  intro d Hn h
  match x, h with
  | .ok (t, r), h =>
    simp only [formD, Except.ok.injEq, Prod.mk.injEq] at h
    rw [← h.2]
    exact ⟨rfl, by simp⟩
  | .error a, h => cases h
abbrev nextF (word : List UInt8) : List D := [.box [.str word], .box [rdR]]
theorem snap_at {S : Nat → Prop} {H : Heap} {d0 d d' : D} (h : d0 = d) (hs : Snap S H d d') : Snap S H d0 d' := h ▸ hs
theorem snap_node {S : Nat → Prop} {H : Heap} {r g : Nat} {w x : Tok} {k k' : D} (hs : S r) (hx : H[r]? = some (.cells g 7 false [encT w ++ encT x ++ [k]])) (hk : Snap S H k k') : Snap S H (.ref r 0 0 g) (.box (encT w ++ encT x ++ [k'])) := by
  refine Snap.ref hs hx rfl (by simp) (fun i d e hd he => ?_)
  rw [Nat.zero_add] at hd
  match i, hd, he with
  | 0, hd, he => cases hd; cases he; exact Snap.flat (by simp)
  | 1, hd, he => cases hd; cases he; exact Snap.flat (by simp)
  | 2, hd, he => cases hd; cases he; exact Snap.flat (by simp)
  | 3, hd, he => cases hd; cases he; exact Snap.flat (by simp)
  | 4, hd, he => cases hd; cases he; exact Snap.flat (by simp)
  | 5, hd, he => cases hd; cases he; exact Snap.flat (by simp)
  | 6, hd, he => cases hd; cases he; exact hk
  | i + 7, hd, he => simp at hd
theorem chain_walk {e : Nat} {word : List UInt8} {next : List Tok → PR Tree} {ts : List Tok} (hl : ∀ ts t r, next ts = .ok (t, r) → r.length < ts.length)
    (hn : ∀ ts', ts'.length ≤ ts.length → CallsV (L m) 76 (nextF word) (rdH e ts') (Ends 1 (rdH e ts') (formD e (next ts')))) :
    CallsV (L m) 67 [rdR, .str word] (rdH e ts) (Ends 1 (rdH e ts) (formD e (chainOf next e word ts))) := by
  refine ends_of_body L_ok (H := rdH e ts) (formD_len _ _) (fn := Try.f67) rfl rfl rfl rfl (by kernel_rfl) ?_
  have h0 := hn ts (Nat.le_refl _)
  unfold chainOf
  cases hx : next ts with
  | error a =>
    rw [hx] at h0
    simp only [formD] at h0
    clear hn hl hx
    repeat' (first
      | apply w_seq
      | apply w_region
      | apply o_end
      | apply t_normal
      | (apply o_val; exact kc0; exact kc2)
      | (apply o_boxv; exact kc0; rfl; exact kc1; (focus (intro d hd; revert hd; revert d; simp; done)))
      | (apply o_up fine; exact kc0; exact kc1; exact h0; rfl; exact kd6; (intro H1 hH1))
      | apply t_panic
      | (apply s_panic; exact ke4)
      | fail)
  | ok p =>
    obtain ⟨t, r⟩ := p
    rw [hx] at h0
    have hlen := hl _ _ _ hx
    clear hx
    simp only [formD] at h0
    generalize hE : moreP next e word (r.length + 1) t r = E
    simp only [hE]
    repeat' (first
      | apply w_seq
      | apply w_region
      | apply o_end
      | apply t_normal
      | (apply o_val; exact kc0; exact kc2)
      | (apply o_boxv; exact kc0; rfl; exact kc1; (focus (intro d hd; revert hd; revert d; simp; done)))
      | (apply o_beside fine; exact kc0; exact kc1; exact h0; rfl; rfl; exact kd5; exact kd3)
      | apply w_block
      | fail)
    refine w_loopT (fun n f H => ∃ t1 r1, H = rdH e r1 ∧ r1.length < ts.length ∧ r1.length < n ∧ moreP next e word n t1 r1 = E ∧ f 2 = .box [rdR] ∧ f 3 = .box [.str word] ∧ f 5 = .func (.func 76) [] (nextF word) ∧ f 6 = treeD t1) (r.length + 1) ⟨t, r, rfl, hlen, by omega, hE, by simp⟩ ?_
    clear hE h0 hlen
    rintro n f H ⟨t1, r1, rfl, hlt, hk, hE, g2, g3, g5, g6⟩
    obtain ⟨k, rfl⟩ : ∃ k, n = k + 1 := ⟨n - 1, by omega⟩
    obtain ⟨c1, hc1⟩ := isTree_ex t1
    have hf1 := treeD_flat t1
    rw [show treeD t1 = .box c1 from hc1] at g6 hf1
    rw [moreP] at hE
    have hi := is_ok (m := m) e 2 word r1
    cases hb : isP 2 word r1
    · rw [hb] at hi hE
      simp only [Bool.false_eq_true, if_false] at hE
      subst hE
      clear hn hl hb
      repeat' (first
        | apply w_seq
        | apply w_region
        | apply o_end
        | apply t_normal
        | (apply o_val; exact kc0; exact kc2)
        | (apply o_beside fine; exact kc0; exact kc1; exact hi; rfl; rfl; exact kd5; exact kd3)
        | apply w_ret
        | apply w_exit
        | apply t_exit
        | apply b_here
        | (apply w_false; exact kc3)
        | fail)
      apply s_ret (d := .box c1) (Hn := rdH e r1) (by simp only [formD]; rw [show treeD t1 = .box c1 from hc1])
      · simp [*]; rfl
      · rfl
      · exact Snap.flat hf1
    · obtain ⟨w, r2, rfl, hwk, hwt, h4⟩ := isP_take (e := e) hb
      clear hwk hwt
      have a1 := take_ok (m := m) e 2 _ _ _ h4
      rw [hb] at hi hE
      simp only [if_true, h4] at hE
      simp only [List.length_cons] at hlt hk
      have h2 := hn r2 (by omega)
      cases hx : next r2 with
      | error a =>
        rw [hx] at h2
        simp only [hx] at hE
        subst hE
        simp only [formD] at h2
        clear hn hl hx hb h4
        repeat' (first
          | apply w_seq
          | apply w_region
          | apply o_end
          | apply t_normal
          | (apply o_val; exact kc0; exact kc2)
          | (apply o_beside fine; exact kc0; exact kc1; exact hi; rfl; rfl; exact kd5; exact kd3)
          | (apply o_beside fine; exact kc0; exact kc1; exact a1; rfl; rfl; exact kd5; exact kd3)
          | (apply o_mem; exact kc0; rfl; exact kc1)
          | apply w_skip
          | apply w_block
          | (apply w_true; exact kc3)
          | apply t_panic
          | apply b_panic
          | (apply s_panic; exact ke4)
          | (apply w_drawA; rfl; exact ke3; exact kc4; exact kc4)
          | (apply a_val; exact kc4; exact kc5; exact kd9; exact kc6)
          | (apply a_upB fine; exact kc4; exact kc5; exact kd8; exact h2; rfl; exact kd6; exact kc7; exact kc7; (intro f1 H1 hH1 hf1))
          | (apply a_tie; exact kc4; exact kc5; exact ke0; exact kc7; exact kc6; exact kc4)
          | fail)
      | ok p =>
        obtain ⟨b, r3⟩ := p
        rw [hx] at h2
        have hlen := hl _ _ _ hx
        simp only [hx] at hE
        simp only [formD] at h2
        obtain ⟨c2, hc2⟩ := isTree_ex b
        have hf2 := treeD_flat b
        rw [show treeD b = .box c2 from hc2] at h2 hf2
        have hu2 : ∀ d, d ∈ c2 → Under 1 d := fun d hd => .flat ((flat_box c2).1 hf2 d hd)
        have hv2 := (flat_box c2).1 hf2
        clear hn hl hx hb h4
        repeat' (first
          | apply w_seq
          | apply w_region
          | apply o_end
          | apply t_normal
          | (apply o_val; exact kc0; exact kc2)
          | (apply o_beside fine; exact kc0; exact kc1; exact hi; rfl; rfl; exact kd5; exact kd3)
          | (apply o_beside fine; exact kc0; exact kc1; exact a1; rfl; rfl; exact kd5; exact kd3)
          | (apply o_mem; exact kc0; rfl; exact kc1)
          | apply w_skip
          | apply w_block
          | apply b_normal
          | (apply w_true; exact kc3)
          | (apply w_drawA; rfl; exact ke3; exact kc4; exact kc4)
          | (apply a_end; exact kc4)
          | (apply a_val; exact kc4; exact kc5; exact kd9; exact kc6)
          | (apply a_besideG fine; exact kc4; exact kc5; exact kd8; exact h2; rfl; rfl; exact kd5; exact kd3; exact kc7; exact kc8; exact kc6; exact kc4)
          | (apply a_tie; exact kc4; exact kc5; exact ke0; exact kc7; exact kc6; exact kc4)
          | (apply a_frz; exact kc4; exact kc5; exact ke1; exact ke9; exact kc6)
          | (apply a_mem; exact kc4; exact kc5; exact ke1; exact kd8; exact kc7; exact kc6; exact kc4)
          | fail)
        refine ⟨k, by omega, rdH e r3, 1, [(2, .box [rdR]), (3, .box [.str word]), (5, .func (.func 76) [] (nextF word)), (6, treeD (.bin w t1 b))], by simp, rfl, by simp, by simp, ?_, .bin w t1 b, r3, rfl, by omega, by omega, hE, by simp [lookF]⟩
        intro p hp
        simp only [List.mem_cons, List.not_mem_nil, or_false] at hp
        rcases hp with rfl | rfl | rfl | rfl
        · exact .inl ⟨by simp [*], by simp [under_box]⟩
        · exact .inl ⟨by simp [*], by simp [under_box]⟩
        · exact .inl ⟨by simp [*], by simp [under_func, under_box]⟩
        · refine .inr (snap_at (d := .ref 2 0 0 0) (by simp [*]) ?_)
          have hn := snap_node (S := fun r => 1 ≤ r) (r := 2) (g := 0) (w := w) (x := zeroTok) (k := .slice 1 0 2 1) (k' := .isl 1 [[.box c1], [.box c2]]) (H := [Blk.cells 0 2 false [[tokL r3, D.int IntKind.i64 ↑e]], Blk.cells 1 1 false [[D.box c1], [D.box c2]], Blk.cells 0 7 false [encT w ++ encT zeroTok ++ [D.slice 1 0 2 1]]]) (by omega) rfl (Snap.slice_flat (by omega) rfl rfl rfl (by
            intro y hy d hd
            simp only [List.mem_cons, List.not_mem_nil, or_false] at hy
            rcases hy with rfl | rfl
            · obtain rfl := List.mem_singleton.1 hd; exact hf1
            · obtain rfl := List.mem_singleton.1 hd; exact hf2))
          rw [treeD, show treeD t1 = .box c1 from hc1, show treeD b = .box c2 from hc2]
          exact hn
end Go.Proofs.Ytknkkfdkcemolaa.Vm
end
section
/- Walks: factors, formulas. -/
set_option linter.unusedSimpArgs false
set_option linter.unusedVariables false
set_option maxRecDepth 100000
set_option maxHeartbeats 4000000
namespace Go.Proofs.Ytknkkfdkcemolaa.Vm
open Go
variable {m : Int}
attribute [local irreducible] wpD opsD thenD blockD planD planA
attribute [local simp] List.take_of_length_le List.drop_of_length_le bne mvD endAt

theorem next_or {e : Nat} {ts : List Tok} {p : PR Tree} (h : CallsV (L m) 67 [rdR, .str [97, 110, 100]] (rdH e ts) (Ends 1 (rdH e ts) (formD e p))) :
    CallsV (L m) 76 (nextF [111, 114]) (rdH e ts) (Ends 1 (rdH e ts) (formD e p)) := by
  refine ends_of_body L_ok (H := rdH e ts) (formD_len _ _) (fn := Try.f76) rfl rfl rfl rfl (by kernel_rfl) ?_
  cases p with
  | error a =>
    simp only [formD] at h
    repeat' (first
      | apply w_seq
      | apply w_region
      | apply o_end
      | apply t_normal
      | (apply o_val; exact kc0; exact kc2)
      | (apply o_up fine; exact kc0; exact kc1; exact h; rfl; exact kd6; (intro H1 hH1))
      | (apply w_true; exact kc3)
      | apply t_panic
      | (apply s_panic; exact ke4)
      | fail)
  | ok q =>
    obtain ⟨t, r⟩ := q
    simp only [formD] at h
    repeat' (first
      | apply w_seq
      | apply w_region
      | apply o_end
      | apply t_normal
      | (apply o_val; exact kc0; exact kc2)
      | (apply o_beside fine; exact kc0; exact kc1; exact h; rfl; rfl; exact kd5; exact kd3)
      | apply w_ret
      | apply t_ret
      | (apply w_true; exact kc3)
      | fail)
    apply s_ret rfl
    · simp [*]; rfl
    · rfl
    · exact Snap.flat (by simp)
theorem next_and {e : Nat} {ts : List Tok} {p : PR Tree} (h : CallsV (L m) 77 [rdR] (rdH e ts) (Ends 1 (rdH e ts) (formD e p))) :
    CallsV (L m) 76 (nextF [97, 110, 100]) (rdH e ts) (Ends 1 (rdH e ts) (formD e p)) := by
  refine ends_of_body L_ok (H := rdH e ts) (formD_len _ _) (fn := Try.f76) rfl rfl rfl rfl (by kernel_rfl) ?_
  cases p with
  | error a =>
    simp only [formD] at h
    repeat' (first
      | apply w_seq
      | apply w_region
      | apply o_end
      | apply t_normal
      | (apply o_val; exact kc0; exact kc2)
      | (apply o_up fine; exact kc0; exact kc1; exact h; rfl; exact kd6; (intro H1 hH1))
      | apply w_skip
      | (apply w_false; exact kc3)
      | apply t_panic
      | (apply s_panic; exact ke4)
      | fail)
  | ok q =>
    obtain ⟨t, r⟩ := q
    simp only [formD] at h
    repeat' (first
      | apply w_seq
      | apply w_region
      | apply o_end
      | apply t_normal
      | (apply o_val; exact kc0; exact kc2)
      | (apply o_beside fine; exact kc0; exact kc1; exact h; rfl; rfl; exact kd5; exact kd3)
      | apply w_skip
      | apply w_ret
      | (apply w_false; exact kc3)
      | fail)
    apply s_ret rfl
    · simp [*]; rfl
    · rfl
    · exact Snap.flat (by simp)
theorem factor_walk {e n : Nat} {ts : List Tok} (hor : ∀ ts', ts'.length < ts.length → CallsV (L m) 67 [rdR, .str [111, 114]] (rdH e ts') (Ends 1 (rdH e ts') (formD e (formP e n 2 ts'))))
    (hfac : ∀ ts', ts'.length < ts.length → CallsV (L m) 77 [rdR] (rdH e ts') (Ends 1 (rdH e ts') (formD e (formP e n 0 ts')))) :
    CallsV (L m) 77 [rdR] (rdH e ts) (Ends 1 (rdH e ts) (formD e (formP e (n + 1) 0 ts))) := by
  refine ends_of_body L_ok (H := rdH e ts) (formD_len _ _) (fn := Try.f77) rfl rfl rfl rfl (by kernel_rfl) ?_
  rw [formP]
  case x_4 => decide
  case x_5 => decide
  by_cases hb : isP 4 [40] ts = true
  · obtain ⟨t0, tl, rfl, _, _, h4⟩ := isP_take (e := e) hb
    have hs := skip_yes (m := m) e 4 [40] _ t0 tl (by unfold wantP; rw [if_pos hb, h4])
    have h1 := hor tl (by simp)
    rw [if_pos hb, List.tail_cons]
    cases hx : formP e n 2 tl with
    | error a =>
      rw [hx] at h1
      simp only [formD] at h1 ⊢
      clear hor hfac hx hb h4
      repeat' (first
        | apply w_seq
        | apply w_region
        | apply o_end
        | apply t_normal
        | (apply o_val; exact kc0; exact kc2)
        | (apply o_beside fine; exact kc0; exact kc1; exact hs; rfl; rfl; exact kd5; exact kd3)
        | (apply o_up fine; exact kc0; exact kc1; exact h1; rfl; exact kd6; (intro H1 hH1))
        | (apply w_true; exact kc3)
        | apply t_panic
        | (apply s_panic; exact ke4)
        | fail)
    | ok p =>
      obtain ⟨t, r⟩ := p
      rw [hx] at h1
      simp only [formD] at h1
      cases hy : wantP e 4 [41] r with
      | error a =>
        have h2 := want_up (m := m) e 4 _ r a hy
        simp only [formD, hy]
        clear hor hfac hx hb h4 hy
        repeat' (first
          | apply w_seq
          | apply w_region
          | apply o_end
          | apply t_normal
          | (apply o_val; exact kc0; exact kc2)
          | (apply o_beside fine; exact kc0; exact kc1; exact hs; rfl; rfl; exact kd5; exact kd3)
          | (apply o_beside fine; exact kc0; exact kc1; exact h1; rfl; rfl; exact kd5; exact kd3)
          | (apply o_up fine; exact kc0; exact kc1; exact h2; rfl; exact kd6; (intro H1 hH1))
          | (apply w_true; exact kc3)
          | apply t_panic
          | (apply s_panic; exact ke4)
          | fail)
      | ok q =>
        obtain ⟨y, r2⟩ := q
        have h2 := want_ok (m := m) e 4 _ r y r2 hy
        simp only [formD, hy]
        clear hor hfac hx hb h4 hy
        repeat' (first
          | apply w_seq
          | apply w_region
          | apply o_end
          | apply t_normal
          | (apply o_val; exact kc0; exact kc2)
          | (apply o_beside fine; exact kc0; exact kc1; exact hs; rfl; rfl; exact kd5; exact kd3)
          | (apply o_beside fine; exact kc0; exact kc1; exact h1; rfl; rfl; exact kd5; exact kd3)
          | (apply o_beside fine; exact kc0; exact kc1; exact h2; rfl; rfl; exact kd5; exact kd3)
          | apply w_ret
          | apply t_ret
          | (apply w_true; exact kc3)
          | fail)
        apply s_ret rfl
        · simp [*]; rfl
        · rfl
        · exact Snap.flat (by simp)
  · have hs := skip_no (m := m) e 4 [40] ts (by simpa using hb)
    rw [if_neg hb]
    clear hb
    cases hx : takeP e 2 ts with
    | error a =>
      have h1 := take_up (m := m) e 2 ts a hx
      simp only [formD]
      clear hor hfac hx
      repeat' (first
        | apply w_seq
        | apply w_region
        | apply o_end
        | apply t_normal
        | (apply o_val; exact kc0; exact kc2)
        | (apply o_beside fine; exact kc0; exact kc1; exact hs; rfl; rfl; exact kd5; exact kd3)
        | (apply o_up fine; exact kc0; exact kc1; exact h1; rfl; exact kd6; (intro H1 hH1))
        | apply w_skip
        | (apply w_false; exact kc3)
        | apply t_panic
        | (apply s_panic; exact ke4)
        | fail)
    | ok p =>
      obtain ⟨w, r⟩ := p
      have h1 := take_ok (m := m) e 2 ts w r hx
      have hlen := (takeP_len hx).1
      simp only
      by_cases hnot : w.text = [110, 111, 116]
      · rw [if_pos hnot]
        have h2 := hfac r (by rw [hlen]; simp)
        clear hlen
        obtain ⟨kd, pa, tx⟩ := w
        simp only at hnot
        subst hnot
        cases hy : formP e n 0 r with
        | error a =>
          rw [hy] at h2
          simp only [formD] at h2 ⊢
          clear hor hfac hx hy
          repeat' (first
            | apply w_seq
            | apply w_region
            | apply o_end
            | apply t_normal
            | (apply o_val; exact kc0; exact kc2)
            | (apply o_beside fine; exact kc0; exact kc1; exact hs; rfl; rfl; exact kd5; exact kd3)
            | (apply o_beside fine; exact kc0; exact kc1; exact h1; rfl; rfl; exact kd5; exact kd3)
            | (apply o_up fine; exact kc0; exact kc1; exact h2; rfl; exact kd6; (intro H1 hH1))
            | (apply o_mem; exact kc0; rfl; exact kc1)
            | apply w_skip
            | apply w_block
            | (apply w_true; exact kc3)
            | (apply w_false; exact kc3)
            | apply t_panic
            | apply b_panic
            | (apply s_panic; exact ke4)
            | fail)
        | ok q =>
          obtain ⟨k, r2⟩ := q
          rw [hy] at h2
          simp only [formD] at h2 ⊢
          obtain ⟨ck, hck⟩ := isTree_ex k
          have hfk := treeD_flat k
          rw [show treeD k = .box ck from hck] at h2 hfk
          have hvk := (flat_box ck).1 hfk
          have huk : ∀ d, d ∈ ck → Under 1 d := fun d hd => .flat (hvk d hd)
          clear hor hfac hx hy
          repeat' (first
            | apply w_seq
            | apply w_region
            | apply o_end
            | apply t_normal
            | (apply o_val; exact kc0; exact kc2)
            | (apply o_beside fine; exact kc0; exact kc1; exact hs; rfl; rfl; exact kd5; exact kd3)
            | (apply o_beside fine; exact kc0; exact kc1; exact h1; rfl; rfl; exact kd5; exact kd3)
            | (apply o_beside fine; exact kc0; exact kc1; exact h2; rfl; rfl; exact kd5; exact kd3)
            | (apply o_mem; exact kc0; rfl; exact kc1)
            | apply w_skip
            | apply w_block
            | apply b_normal
            | apply w_ret
            | (apply w_true; exact kc3)
            | (apply w_false; exact kc3)
            | fail)
          apply s_ret rfl
          · simp [*]; rfl
          · rfl
          · rw [treeD, show treeD k = .box ck from hck]
            first
              | exact snap_node (Nat.le_refl _) rfl (Snap.flat (by simp [*]; done))
              | exact snap_node (k := .slice 2 0 1 0) (Nat.le_refl _) rfl (Snap.slice_flat (by simp) rfl rfl rfl (by simp [*]; done))
      · rw [if_neg hnot]
        by_cases hw : w.text ∈ factW
        · rw [if_pos hw]
          clear hlen hnot
          cases hy : takeP e 1 r with
          | error a =>
            have h2 := take_up (m := m) e 1 r a hy
            simp only [formD]
            obtain ⟨kd, pa, tx⟩ := w
            simp only [factW, List.mem_cons, List.not_mem_nil, or_false] at hw
            clear hor hfac hx hy
            rcases hw with rfl | rfl | rfl | rfl | rfl
            all_goals repeat' (first
              | apply w_seq
              | apply w_region
              | apply o_end
              | apply t_normal
              | (apply o_val; exact kc0; exact kc2)
              | (apply o_beside fine; exact kc0; exact kc1; exact hs; rfl; rfl; exact kd5; exact kd3)
              | (apply o_beside fine; exact kc0; exact kc1; exact h1; rfl; rfl; exact kd5; exact kd3)
              | (apply o_up fine; exact kc0; exact kc1; exact h2; rfl; exact kd6; (intro H1 hH1))
              | (apply o_mem; exact kc0; rfl; exact kc1)
              | apply w_skip
              | apply w_block
              | (apply w_true; exact kc3)
              | (apply w_false; exact kc3)
              | apply t_panic
              | apply b_panic
              | (apply s_panic; exact ke4)
              | fail)
          | ok q =>
            obtain ⟨x, r2⟩ := q
            have h2 := take_ok (m := m) e 1 r x r2 hy
            simp only [formD]
            obtain ⟨kd, pa, tx⟩ := w
            simp only [factW, List.mem_cons, List.not_mem_nil, or_false] at hw
            clear hor hfac hx hy
            rcases hw with rfl | rfl | rfl | rfl | rfl
            all_goals repeat' (first
              | apply w_seq
              | apply w_region
              | apply o_end
              | apply t_normal
              | (apply o_val; exact kc0; exact kc2)
              | (apply o_beside fine; exact kc0; exact kc1; exact hs; rfl; rfl; exact kd5; exact kd3)
              | (apply o_beside fine; exact kc0; exact kc1; exact h1; rfl; rfl; exact kd5; exact kd3)
              | (apply o_beside fine; exact kc0; exact kc1; exact h2; rfl; rfl; exact kd5; exact kd3)
              | (apply o_mem; exact kc0; rfl; exact kc1)
              | apply w_skip
              | apply w_block
              | apply b_normal
              | apply w_ret
              | (apply w_true; exact kc3)
              | (apply w_false; exact kc3)
              | fail)
            all_goals apply s_ret rfl
            all_goals first
              | rfl
              | (rw [treeD]; exact snap_node (k := .nilsl) (Nat.le_refl _) rfl (Snap.flat .nilsl))
              | (simp [*]; rfl)
        · rw [if_neg hw]
          obtain ⟨kd, pa, tx⟩ := w
          simp only [formD]
          simp only [factW, List.mem_cons, List.not_mem_nil, or_false, not_or] at hw hnot
          have b5 : (tx == [110, 111, 116]) = false := by simpa using hnot
          have b0 : (tx == [99, 104, 97, 110, 103, 101, 100]) = false := by simpa using hw.1
          have b1 : (tx == [102, 111, 114, 103, 101, 100]) = false := by simpa using hw.2.1
          have b2 : (tx == [107, 110, 111, 119, 115]) = false := by simpa using hw.2.2.1
          have b3 : (tx == [115, 116, 111, 108, 101, 110]) = false := by simpa using hw.2.2.2.1
          have b4 : (tx == [114, 97, 110]) = false := by simpa using hw.2.2.2.2
          clear hor hfac hx hlen hw hnot
          repeat' (first
            | apply w_seq
            | apply w_region
            | apply o_end
            | apply t_normal
            | (apply o_val; exact kc0; exact kc2)
            | (apply o_beside fine; exact kc0; exact kc1; exact hs; rfl; rfl; exact kd5; exact kd3)
            | (apply o_beside fine; exact kc0; exact kc1; exact h1; rfl; rfl; exact kd5; exact kd3)
            | (apply o_mem; exact kc0; rfl; exact kc1)
            | apply w_skip
            | apply w_block
            | (apply w_false; exact kc3)
            | apply t_panic
            | apply b_panic
            | (apply s_panic; exact ke4)
            | (apply o_panic; exact kc0; (focus (simp [*]; first | rfl | exact ⟨rfl, rfl⟩)))
            | fail)
/-- Formulas, as they are read. -/
theorem form_ok (e : Nat) : ∀ (n : Nat) (ts : List Tok),
    (3 * ts.length < n → CallsV (L m) 77 [rdR] (rdH e ts) (Ends 1 (rdH e ts) (formD e (formP e n 0 ts)))) ∧
    (3 * ts.length + 1 < n → CallsV (L m) 67 [rdR, .str [97, 110, 100]] (rdH e ts) (Ends 1 (rdH e ts) (formD e (formP e n 1 ts)))) ∧
    (3 * ts.length + 2 < n → CallsV (L m) 67 [rdR, .str [111, 114]] (rdH e ts) (Ends 1 (rdH e ts) (formD e (formP e n 2 ts)))) := by
  intro n
  induction n with
  | zero => intro ts; exact ⟨fun h => by omega, fun h => by omega, fun h => by omega⟩
  | succ n ih =>
    intro ts
    refine ⟨fun h => factor_walk (fun ts' hl => (ih ts').2.2 (by omega)) (fun ts' hl => (ih ts').1 (by omega)), fun h => ?_, fun h => ?_⟩
    · have := chain_walk (m := m) (e := e) (word := [97, 110, 100]) (next := formP e n 0) (ts := ts) (formP_len e n 0) (fun ts' hl => next_and ((ih ts').1 (by omega)))
      exact this
    · have := chain_walk (m := m) (e := e) (word := [111, 114]) (next := formP e n 1) (ts := ts) (formP_len e n 1) (fun ts' hl => next_or ((ih ts').2.1 (by omega)))
      exact this
end Go.Proofs.Ytknkkfdkcemolaa.Vm
end
section
/- Plain: items as they are read. -/
set_option linter.unusedSimpArgs false
set_option linter.unusedVariables false
namespace Go.Proofs.Ytknkkfdkcemolaa.Vm
open Go
variable {m : Int}

structure ItemT where
  word : Tok
  name : Tok := zeroTok
  of_ : Tok := zeroTok
  caps : Tok := zeroTok
  text : Tok := zeroTok
  attrs : List AttrT := []
  form : Option Tree := none
def andP {α β : Type} (x : PR α) (f : α → List Tok → PR β) : PR β := match x with
  | .error a => .error a
  | .ok (t, r) => f t r
/-- Attributes, up to the sign that ends them; k: rounds at most. -/
def attrsP (e : Nat) : Nat → List AttrT → List Tok → PR (List AttrT)
  | 0, _, _ => .error 0
  | k + 1, out, ts => if isP 4 [125] ts then .ok (out, ts.tail) else andP (attrP e ts) fun a r => attrsP e k (out ++ [a]) r
def itemK (e : Nat) (w : Tok) (r : List Tok) : PR ItemT :=
  if w.text = [111, 114, 105, 103, 105, 110] then andP (takeP e 1 r) fun n r => andP (takeP e 3 r) fun x r => andP (wantP e 4 [59] r) fun _ r => .ok ({ word := w, name := n, text := x }, r)
  else if w.text = [99, 111, 111, 107, 105, 101] then andP (placedP e r) fun n r => andP (takeP e 3 r) fun x r => andP (wantP e 4 [59] r) fun _ r => .ok ({ word := w, name := n.1, of_ := n.2, text := x }, r)
  else if w.text = [115, 101, 99, 114, 101, 116] then andP (takeP e 1 r) fun n r => andP (wantP e 4 [59] r) fun _ r => .ok ({ word := w, name := n }, r)
  else if w.text = [110, 101, 116, 119, 111, 114, 107] then andP (wantP e 4 [59] r) fun _ r => .ok ({ word := w }, r)
  else if w.text = [112, 114, 111, 112, 101, 114, 116, 121] then andP (takeP e 1 r) fun n r => andP (wantP e 4 [61] r) fun _ r => andP (formP e (3 * r.length + 3) 2 r) fun t r => andP (wantP e 4 [59] r) fun _ r => .ok ({ word := w, name := n, form := some t }, r)
  else if w.text = [101, 110, 100, 112, 111, 105, 110, 116] then andP (placedP e r) fun n r => andP (takeP e 5 r) fun c r => andP (takeP e 3 r) fun x r => andP (wantP e 4 [123] r) fun _ r => andP (attrsP e (r.length + 1) [] r) fun l r => .ok ({ word := w, name := n.1, of_ := n.2, caps := c, text := x, attrs := l }, r)
  else .error w.at_
def itemP (e : Nat) (ts : List Tok) : PR ItemT := andP (takeP e 2 ts) (itemK e)
end Go.Proofs.Ytknkkfdkcemolaa.Vm
end
section
/- Walks: items of a description. -/
set_option linter.unusedSimpArgs false
set_option linter.unusedVariables false
set_option maxRecDepth 100000
set_option maxHeartbeats 4000000
namespace Go.Proofs.Ytknkkfdkcemolaa.Vm
open Go
variable {m : Int}
attribute [local irreducible] wpD opsD thenD blockD planD planA
attribute [local simp] List.take_of_length_le List.drop_of_length_le bne mvD endAt

abbrev encA (a : AttrT) : List D := encT a.word ++ encT a.arg
def attrsD : List AttrT → D
  | [] => .nilsl
  | a :: l => .isl 6 ((a :: l).map encA)
def formO : Option Tree → D
  | none => .nilptr
  | some t => treeD t
abbrev itemD (i : ItemT) : D := .agg (encT i.word ++ encT i.name ++ encT i.of_ ++ encT i.caps ++ encT i.text ++ [attrsD i.attrs, formO i.form])
abbrev itemRes (e : Nat) : PR ItemT → Except D (D × Heap)
  | .ok (i, r) => .ok (itemD i, rdH e r)
  | .error a => .error (stopD a)
theorem itemRes_len (e : Nat) (x : PR ItemT) : ∀ d Hn, itemRes e x = .ok (d, Hn) → Hn.length = 1 ∧ ∀ k, k ∈ Hn → k.under 1 := by
  intro d Hn h
  match x, h with
  | .ok (t, r), h =>
    simp only [itemRes, Except.ok.injEq, Prod.mk.injEq] at h
    rw [← h.2]
    exact ⟨rfl, by simp⟩
  | .error a, h => cases h
theorem item_origin {e kd pa : Nat} {ts r0 : List Tok} (h0 : takeP e 2 ts = .ok (⟨kd, pa, [111, 114, 105, 103, 105, 110]⟩, r0)) : CallsV (L m) 48 [rdR] (rdH e ts) (Ends 1 (rdH e ts) (itemRes e (itemK e ⟨kd, pa, [111, 114, 105, 103, 105, 110]⟩ r0))) := by
  refine ends_of_body L_ok (H := rdH e ts) (itemRes_len _ _) (fn := Try.f48) rfl rfl rfl rfl (by kernel_rfl) ?_
  have a0 := take_ok (m := m) e 2 ts _ _ h0
  clear h0
  have hK : itemK e ⟨kd, pa, [111, 114, 105, 103, 105, 110]⟩ r0 = andP (takeP e 1 r0) fun n r => andP (takeP e 3 r) fun x r => andP (wantP e 4 [59] r) fun _ r => .ok ({ word := ⟨kd, pa, [111, 114, 105, 103, 105, 110]⟩, name := n, text := x }, r) := rfl
  rw [hK]
  clear hK
  cases hx1 : takeP e 1 r0 with
  | error a =>
    have a1 := take_up (m := m) e 1 r0 _ hx1
    simp only [andP, hx1, itemRes]
    clear hx1
    repeat' (first
      | apply w_seq
      | apply w_region
      | apply o_end
      | apply t_normal
      | (apply o_val; exact kc0; exact kc2)
      | (apply o_beside fine; exact kc0; exact kc1; exact a0; rfl; rfl; exact kd5; exact kd3)
      | (apply o_up fine; exact kc0; exact kc1; exact a1; rfl; exact kd6; (intro H1 hH1))
      | (apply o_mem; exact kc0; rfl; exact kc1)
      | apply w_block
      | (apply w_true; exact kc3)
      | apply t_panic
      | apply b_panic
      | (apply s_panic; exact ke4)
      | fail)
  | ok p =>
    obtain ⟨x1, r1⟩ := p
    have a1 := take_ok (m := m) e 1 r0 _ _ hx1
    cases hx2 : takeP e 3 r1 with
    | error a =>
      have a2 := take_up (m := m) e 3 r1 _ hx2
      simp only [andP, hx1, hx2, itemRes]
      clear hx1 hx2
      repeat' (first
        | apply w_seq
        | apply w_region
        | apply o_end
        | apply t_normal
        | (apply o_val; exact kc0; exact kc2)
        | (apply o_beside fine; exact kc0; exact kc1; exact a0; rfl; rfl; exact kd5; exact kd3)
        | (apply o_beside fine; exact kc0; exact kc1; exact a1; rfl; rfl; exact kd5; exact kd3)
        | (apply o_up fine; exact kc0; exact kc1; exact a2; rfl; exact kd6; (intro H1 hH1))
        | (apply o_mem; exact kc0; rfl; exact kc1)
        | apply w_block
        | (apply w_true; exact kc3)
        | apply t_panic
        | apply b_panic
        | (apply s_panic; exact ke4)
        | fail)
    | ok p =>
      obtain ⟨x2, r2⟩ := p
      have a2 := take_ok (m := m) e 3 r1 _ _ hx2
      cases hx3 : wantP e 4 [59] r2 with
      | error a =>
        have a3 := want_up (m := m) e 4 _ r2 _ hx3
        simp only [andP, hx1, hx2, hx3, itemRes]
        clear hx1 hx2 hx3
        repeat' (first
          | apply w_seq
          | apply w_region
          | apply o_end
          | apply t_normal
          | (apply o_val; exact kc0; exact kc2)
          | (apply o_beside fine; exact kc0; exact kc1; exact a0; rfl; rfl; exact kd5; exact kd3)
          | (apply o_beside fine; exact kc0; exact kc1; exact a1; rfl; rfl; exact kd5; exact kd3)
          | (apply o_beside fine; exact kc0; exact kc1; exact a2; rfl; rfl; exact kd5; exact kd3)
          | (apply o_up fine; exact kc0; exact kc1; exact a3; rfl; exact kd6; (intro H1 hH1))
          | (apply o_mem; exact kc0; rfl; exact kc1)
          | apply w_block
          | apply b_normal
          | (apply w_true; exact kc3)
          | apply t_panic
          | (apply s_panic; exact ke4)
          | fail)
      | ok p =>
        obtain ⟨x3, r3⟩ := p
        have a3 := want_ok (m := m) e 4 _ r2 _ _ hx3
        simp only [andP, hx1, hx2, hx3, itemRes]
        clear hx1 hx2 hx3
        repeat' (first
          | apply w_seq
          | apply w_region
          | apply o_end
          | apply t_normal
          | (apply o_val; exact kc0; exact kc2)
          | (apply o_beside fine; exact kc0; exact kc1; exact a0; rfl; rfl; exact kd5; exact kd3)
          | (apply o_beside fine; exact kc0; exact kc1; exact a1; rfl; rfl; exact kd5; exact kd3)
          | (apply o_beside fine; exact kc0; exact kc1; exact a2; rfl; rfl; exact kd5; exact kd3)
          | (apply o_beside fine; exact kc0; exact kc1; exact a3; rfl; rfl; exact kd5; exact kd3)
          | (apply o_mem; exact kc0; rfl; exact kc1)
          | apply w_block
          | apply b_normal
          | apply w_ret
          | (apply w_true; exact kc3)
          | fail)
        apply s_ret rfl
        · simp [*]; rfl
        · rfl
        · exact Snap.flat (by simp [attrsD, formO, *]; done)
theorem item_cookie {e kd pa : Nat} {ts r0 : List Tok} (h0 : takeP e 2 ts = .ok (⟨kd, pa, [99, 111, 111, 107, 105, 101]⟩, r0)) : CallsV (L m) 48 [rdR] (rdH e ts) (Ends 1 (rdH e ts) (itemRes e (itemK e ⟨kd, pa, [99, 111, 111, 107, 105, 101]⟩ r0))) := by
  refine ends_of_body L_ok (H := rdH e ts) (itemRes_len _ _) (fn := Try.f48) rfl rfl rfl rfl (by kernel_rfl) ?_
  have a0 := take_ok (m := m) e 2 ts _ _ h0
  clear h0
  have hK : itemK e ⟨kd, pa, [99, 111, 111, 107, 105, 101]⟩ r0 = andP (placedP e r0) fun n r => andP (takeP e 3 r) fun x r => andP (wantP e 4 [59] r) fun _ r => .ok ({ word := ⟨kd, pa, [99, 111, 111, 107, 105, 101]⟩, name := n.1, of_ := n.2, text := x }, r) := rfl
  rw [hK]
  clear hK
  cases hx1 : placedP e r0 with
  | error a =>
    have a1 := placed_up (m := m) e r0 _ hx1
    simp only [andP, hx1, itemRes]
    clear hx1
    repeat' (first
      | apply w_seq
      | apply w_region
      | apply o_end
      | apply t_normal
      | (apply o_val; exact kc0; exact kc2)
      | (apply o_beside fine; exact kc0; exact kc1; exact a0; rfl; rfl; exact kd5; exact kd3)
      | (apply o_up fine; exact kc0; exact kc1; exact a1; rfl; exact kd6; (intro H1 hH1))
      | (apply o_mem; exact kc0; rfl; exact kc1)
      | apply w_block
      | (apply w_true; exact kc3)
      | (apply w_false; exact kc3)
      | apply t_panic
      | apply b_panic
      | (apply s_panic; exact ke4)
      | fail)
  | ok p =>
    obtain ⟨⟨n1, o1⟩, r1⟩ := p
    have a1 := placed_ok (m := m) e r0 _ _ _ hx1
    cases hx2 : takeP e 3 r1 with
    | error a =>
      have a2 := take_up (m := m) e 3 r1 _ hx2
      simp only [andP, hx1, hx2, itemRes]
      clear hx1 hx2
      repeat' (first
        | apply w_seq
        | apply w_region
        | apply o_end
        | apply t_normal
        | (apply o_val; exact kc0; exact kc2)
        | (apply o_beside fine; exact kc0; exact kc1; exact a0; rfl; rfl; exact kd5; exact kd3)
        | (apply o_beside fine; exact kc0; exact kc1; exact a1; rfl; rfl; exact kd5; exact kd3)
        | (apply o_up fine; exact kc0; exact kc1; exact a2; rfl; exact kd6; (intro H1 hH1))
        | (apply o_mem; exact kc0; rfl; exact kc1)
        | apply w_block
        | (apply w_true; exact kc3)
        | (apply w_false; exact kc3)
        | apply t_panic
        | apply b_panic
        | (apply s_panic; exact ke4)
        | fail)
    | ok p =>
      obtain ⟨x2, r2⟩ := p
      have a2 := take_ok (m := m) e 3 r1 _ _ hx2
      cases hx3 : wantP e 4 [59] r2 with
      | error a =>
        have a3 := want_up (m := m) e 4 _ r2 _ hx3
        simp only [andP, hx1, hx2, hx3, itemRes]
        clear hx1 hx2 hx3
        repeat' (first
          | apply w_seq
          | apply w_region
          | apply o_end
          | apply t_normal
          | (apply o_val; exact kc0; exact kc2)
          | (apply o_beside fine; exact kc0; exact kc1; exact a0; rfl; rfl; exact kd5; exact kd3)
          | (apply o_beside fine; exact kc0; exact kc1; exact a1; rfl; rfl; exact kd5; exact kd3)
          | (apply o_beside fine; exact kc0; exact kc1; exact a2; rfl; rfl; exact kd5; exact kd3)
          | (apply o_up fine; exact kc0; exact kc1; exact a3; rfl; exact kd6; (intro H1 hH1))
          | (apply o_mem; exact kc0; rfl; exact kc1)
          | apply w_block
          | apply b_normal
          | (apply w_true; exact kc3)
          | (apply w_false; exact kc3)
          | apply t_panic
          | (apply s_panic; exact ke4)
          | fail)
      | ok p =>
        obtain ⟨x3, r3⟩ := p
        have a3 := want_ok (m := m) e 4 _ r2 _ _ hx3
        simp only [andP, hx1, hx2, hx3, itemRes]
        clear hx1 hx2 hx3
        repeat' (first
          | apply w_seq
          | apply w_region
          | apply o_end
          | apply t_normal
          | (apply o_val; exact kc0; exact kc2)
          | (apply o_beside fine; exact kc0; exact kc1; exact a0; rfl; rfl; exact kd5; exact kd3)
          | (apply o_beside fine; exact kc0; exact kc1; exact a1; rfl; rfl; exact kd5; exact kd3)
          | (apply o_beside fine; exact kc0; exact kc1; exact a2; rfl; rfl; exact kd5; exact kd3)
          | (apply o_beside fine; exact kc0; exact kc1; exact a3; rfl; rfl; exact kd5; exact kd3)
          | (apply o_mem; exact kc0; rfl; exact kc1)
          | apply w_block
          | apply b_normal
          | apply w_ret
          | (apply w_true; exact kc3)
          | (apply w_false; exact kc3)
          | fail)
        apply s_ret rfl
        · simp [*]; rfl
        · rfl
        · exact Snap.flat (by simp [attrsD, formO, *]; done)
theorem item_secret {e kd pa : Nat} {ts r0 : List Tok} (h0 : takeP e 2 ts = .ok (⟨kd, pa, [115, 101, 99, 114, 101, 116]⟩, r0)) : CallsV (L m) 48 [rdR] (rdH e ts) (Ends 1 (rdH e ts) (itemRes e (itemK e ⟨kd, pa, [115, 101, 99, 114, 101, 116]⟩ r0))) := by
  refine ends_of_body L_ok (H := rdH e ts) (itemRes_len _ _) (fn := Try.f48) rfl rfl rfl rfl (by kernel_rfl) ?_
  have a0 := take_ok (m := m) e 2 ts _ _ h0
  clear h0
  have hK : itemK e ⟨kd, pa, [115, 101, 99, 114, 101, 116]⟩ r0 = andP (takeP e 1 r0) fun n r => andP (wantP e 4 [59] r) fun _ r => .ok ({ word := ⟨kd, pa, [115, 101, 99, 114, 101, 116]⟩, name := n }, r) := rfl
  rw [hK]
  clear hK
  cases hx1 : takeP e 1 r0 with
  | error a =>
    have a1 := take_up (m := m) e 1 r0 _ hx1
    simp only [andP, hx1, itemRes]
    clear hx1
    repeat' (first
      | apply w_seq
      | apply w_region
      | apply o_end
      | apply t_normal
      | (apply o_val; exact kc0; exact kc2)
      | (apply o_beside fine; exact kc0; exact kc1; exact a0; rfl; rfl; exact kd5; exact kd3)
      | (apply o_up fine; exact kc0; exact kc1; exact a1; rfl; exact kd6; (intro H1 hH1))
      | (apply o_mem; exact kc0; rfl; exact kc1)
      | apply w_block
      | (apply w_true; exact kc3)
      | (apply w_false; exact kc3)
      | apply t_panic
      | apply b_panic
      | (apply s_panic; exact ke4)
      | fail)
  | ok p =>
    obtain ⟨x1, r1⟩ := p
    have a1 := take_ok (m := m) e 1 r0 _ _ hx1
    cases hx2 : wantP e 4 [59] r1 with
    | error a =>
      have a2 := want_up (m := m) e 4 _ r1 _ hx2
      simp only [andP, hx1, hx2, itemRes]
      clear hx1 hx2
      repeat' (first
        | apply w_seq
        | apply w_region
        | apply o_end
        | apply t_normal
        | (apply o_val; exact kc0; exact kc2)
        | (apply o_beside fine; exact kc0; exact kc1; exact a0; rfl; rfl; exact kd5; exact kd3)
        | (apply o_beside fine; exact kc0; exact kc1; exact a1; rfl; rfl; exact kd5; exact kd3)
        | (apply o_up fine; exact kc0; exact kc1; exact a2; rfl; exact kd6; (intro H1 hH1))
        | (apply o_mem; exact kc0; rfl; exact kc1)
        | apply w_block
        | apply b_normal
        | (apply w_true; exact kc3)
        | (apply w_false; exact kc3)
        | apply t_panic
        | (apply s_panic; exact ke4)
        | fail)
    | ok p =>
      obtain ⟨x2, r2⟩ := p
      have a2 := want_ok (m := m) e 4 _ r1 _ _ hx2
      simp only [andP, hx1, hx2, itemRes]
      clear hx1 hx2
      repeat' (first
        | apply w_seq
        | apply w_region
        | apply o_end
        | apply t_normal
        | (apply o_val; exact kc0; exact kc2)
        | (apply o_beside fine; exact kc0; exact kc1; exact a0; rfl; rfl; exact kd5; exact kd3)
        | (apply o_beside fine; exact kc0; exact kc1; exact a1; rfl; rfl; exact kd5; exact kd3)
        | (apply o_beside fine; exact kc0; exact kc1; exact a2; rfl; rfl; exact kd5; exact kd3)
        | (apply o_mem; exact kc0; rfl; exact kc1)
        | apply w_block
        | apply b_normal
        | apply w_ret
        | (apply w_true; exact kc3)
        | (apply w_false; exact kc3)
        | fail)
      apply s_ret rfl
      · simp [*]; rfl
      · rfl
      · exact Snap.flat (by simp [attrsD, formO, *]; done)
theorem item_network {e kd pa : Nat} {ts r0 : List Tok} (h0 : takeP e 2 ts = .ok (⟨kd, pa, [110, 101, 116, 119, 111, 114, 107]⟩, r0)) : CallsV (L m) 48 [rdR] (rdH e ts) (Ends 1 (rdH e ts) (itemRes e (itemK e ⟨kd, pa, [110, 101, 116, 119, 111, 114, 107]⟩ r0))) := by
  refine ends_of_body L_ok (H := rdH e ts) (itemRes_len _ _) (fn := Try.f48) rfl rfl rfl rfl (by kernel_rfl) ?_
  have a0 := take_ok (m := m) e 2 ts _ _ h0
  clear h0
  have hK : itemK e ⟨kd, pa, [110, 101, 116, 119, 111, 114, 107]⟩ r0 = andP (wantP e 4 [59] r0) fun _ r => .ok ({ word := ⟨kd, pa, [110, 101, 116, 119, 111, 114, 107]⟩ }, r) := rfl
  rw [hK]
  clear hK
  cases hx1 : wantP e 4 [59] r0 with
  | error a =>
    have a1 := want_up (m := m) e 4 _ r0 _ hx1
    simp only [andP, hx1, itemRes]
    clear hx1
    repeat' (first
      | apply w_seq
      | apply w_region
      | apply o_end
      | apply t_normal
      | (apply o_val; exact kc0; exact kc2)
      | (apply o_beside fine; exact kc0; exact kc1; exact a0; rfl; rfl; exact kd5; exact kd3)
      | (apply o_up fine; exact kc0; exact kc1; exact a1; rfl; exact kd6; (intro H1 hH1))
      | (apply o_mem; exact kc0; rfl; exact kc1)
      | apply w_skip
      | apply w_block
      | apply b_normal
      | (apply w_true; exact kc3)
      | (apply w_false; exact kc3)
      | apply t_panic
      | (apply s_panic; exact ke4)
      | fail)
  | ok p =>
    obtain ⟨x1, r1⟩ := p
    have a1 := want_ok (m := m) e 4 _ r0 _ _ hx1
    simp only [andP, hx1, itemRes]
    clear hx1
    repeat' (first
      | apply w_seq
      | apply w_region
      | apply o_end
      | apply t_normal
      | (apply o_val; exact kc0; exact kc2)
      | (apply o_beside fine; exact kc0; exact kc1; exact a0; rfl; rfl; exact kd5; exact kd3)
      | (apply o_beside fine; exact kc0; exact kc1; exact a1; rfl; rfl; exact kd5; exact kd3)
      | (apply o_mem; exact kc0; rfl; exact kc1)
      | apply w_skip
      | apply w_block
      | apply b_normal
      | apply w_ret
      | (apply w_true; exact kc3)
      | (apply w_false; exact kc3)
      | fail)
    apply s_ret rfl
    · simp [*]; rfl
    · rfl
    · exact Snap.flat (by simp [attrsD, formO, *]; done)
theorem item_property {e kd pa : Nat} {ts r0 : List Tok} (h0 : takeP e 2 ts = .ok (⟨kd, pa, [112, 114, 111, 112, 101, 114, 116, 121]⟩, r0)) : CallsV (L m) 48 [rdR] (rdH e ts) (Ends 1 (rdH e ts) (itemRes e (itemK e ⟨kd, pa, [112, 114, 111, 112, 101, 114, 116, 121]⟩ r0))) := by
  refine ends_of_body L_ok (H := rdH e ts) (itemRes_len _ _) (fn := Try.f48) rfl rfl rfl rfl (by kernel_rfl) ?_
  have a0 := take_ok (m := m) e 2 ts _ _ h0
  clear h0
  have hK : itemK e ⟨kd, pa, [112, 114, 111, 112, 101, 114, 116, 121]⟩ r0 = andP (takeP e 1 r0) fun n r => andP (wantP e 4 [61] r) fun _ r => andP (formP e (3 * r.length + 3) 2 r) fun t r => andP (wantP e 4 [59] r) fun _ r => .ok ({ word := ⟨kd, pa, [112, 114, 111, 112, 101, 114, 116, 121]⟩, name := n, form := some t }, r) := rfl
  rw [hK]
  clear hK
  cases hx1 : takeP e 1 r0 with
  | error a =>
    have a1 := take_up (m := m) e 1 r0 _ hx1
    simp only [andP, hx1, itemRes]
    clear hx1
    repeat' (first
      | apply w_seq
      | apply w_region
      | apply o_end
      | apply t_normal
      | (apply o_val; exact kc0; exact kc2)
      | (apply o_beside fine; exact kc0; exact kc1; exact a0; rfl; rfl; exact kd5; exact kd3)
      | (apply o_up fine; exact kc0; exact kc1; exact a1; rfl; exact kd6; (intro H1 hH1))
      | (apply o_mem; exact kc0; rfl; exact kc1)
      | apply w_block
      | (apply w_true; exact kc3)
      | (apply w_false; exact kc3)
      | apply t_panic
      | apply b_panic
      | (apply s_panic; exact ke4)
      | fail)
  | ok p =>
    obtain ⟨x1, r1⟩ := p
    have a1 := take_ok (m := m) e 1 r0 _ _ hx1
    cases hx2 : wantP e 4 [61] r1 with
    | error a =>
      have a2 := want_up (m := m) e 4 _ r1 _ hx2
      simp only [andP, hx1, hx2, itemRes]
      clear hx1 hx2
      repeat' (first
        | apply w_seq
        | apply w_region
        | apply o_end
        | apply t_normal
        | (apply o_val; exact kc0; exact kc2)
        | (apply o_beside fine; exact kc0; exact kc1; exact a0; rfl; rfl; exact kd5; exact kd3)
        | (apply o_beside fine; exact kc0; exact kc1; exact a1; rfl; rfl; exact kd5; exact kd3)
        | (apply o_up fine; exact kc0; exact kc1; exact a2; rfl; exact kd6; (intro H1 hH1))
        | (apply o_mem; exact kc0; rfl; exact kc1)
        | apply w_block
        | (apply w_true; exact kc3)
        | (apply w_false; exact kc3)
        | apply t_panic
        | apply b_panic
        | (apply s_panic; exact ke4)
        | fail)
    | ok p =>
      obtain ⟨x2, r2⟩ := p
      have a2 := want_ok (m := m) e 4 _ r1 _ _ hx2
      have a3 := (form_ok (m := m) e (3 * r2.length + 3) r2).2.2 (by omega)
      cases hx3 : formP e (3 * r2.length + 3) 2 r2 with
      | error a =>
        rw [hx3] at a3
        simp only [formD] at a3
        simp only [andP, hx1, hx2, hx3, itemRes]
        clear hx1 hx2 hx3
        repeat' (first
          | apply w_seq
          | apply w_region
          | apply o_end
          | apply t_normal
          | (apply o_val; exact kc0; exact kc2)
          | (apply o_beside fine; exact kc0; exact kc1; exact a0; rfl; rfl; exact kd5; exact kd3)
          | (apply o_beside fine; exact kc0; exact kc1; exact a1; rfl; rfl; exact kd5; exact kd3)
          | (apply o_beside fine; exact kc0; exact kc1; exact a2; rfl; rfl; exact kd5; exact kd3)
          | (apply o_up fine; exact kc0; exact kc1; exact a3; rfl; exact kd6; (intro H1 hH1))
          | (apply o_mem; exact kc0; rfl; exact kc1)
          | apply w_block
          | (apply w_true; exact kc3)
          | (apply w_false; exact kc3)
          | apply t_panic
          | apply b_panic
          | (apply s_panic; exact ke4)
          | fail)
      | ok p =>
        obtain ⟨x3, r3⟩ := p
        rw [hx3] at a3
        simp only [formD] at a3
        obtain ⟨cf, hcf⟩ := isTree_ex x3
        have hff := treeD_flat x3
        rw [show treeD x3 = .box cf from hcf] at a3 hff
        have hvf := (flat_box cf).1 hff
        have huf : ∀ d, d ∈ cf → Under 1 d := fun d hd => .flat (hvf d hd)
        cases hx4 : wantP e 4 [59] r3 with
        | error a =>
          have a4 := want_up (m := m) e 4 _ r3 _ hx4
          simp only [andP, hx1, hx2, hx3, hx4, itemRes]
          clear hx1 hx2 hx3 hx4
          repeat' (first
            | apply w_seq
            | apply w_region
            | apply o_end
            | apply t_normal
            | (apply o_val; exact kc0; exact kc2)
            | (apply o_beside fine; exact kc0; exact kc1; exact a0; rfl; rfl; exact kd5; exact kd3)
            | (apply o_beside fine; exact kc0; exact kc1; exact a1; rfl; rfl; exact kd5; exact kd3)
            | (apply o_beside fine; exact kc0; exact kc1; exact a2; rfl; rfl; exact kd5; exact kd3)
            | (apply o_beside fine; exact kc0; exact kc1; exact a3; rfl; rfl; exact kd5; exact kd3)
            | (apply o_up fine; exact kc0; exact kc1; exact a4; rfl; exact kd6; (intro H1 hH1))
            | (apply o_mem; exact kc0; rfl; exact kc1)
            | apply w_block
            | apply b_normal
            | (apply w_true; exact kc3)
            | (apply w_false; exact kc3)
            | apply t_panic
            | (apply s_panic; exact ke4)
            | fail)
        | ok p =>
          obtain ⟨x4, r4⟩ := p
          have a4 := want_ok (m := m) e 4 _ r3 _ _ hx4
          simp only [andP, hx1, hx2, hx3, hx4, itemRes]
          clear hx1 hx2 hx3 hx4
          repeat' (first
            | apply w_seq
            | apply w_region
            | apply o_end
            | apply t_normal
            | (apply o_val; exact kc0; exact kc2)
            | (apply o_beside fine; exact kc0; exact kc1; exact a0; rfl; rfl; exact kd5; exact kd3)
            | (apply o_beside fine; exact kc0; exact kc1; exact a1; rfl; rfl; exact kd5; exact kd3)
            | (apply o_beside fine; exact kc0; exact kc1; exact a2; rfl; rfl; exact kd5; exact kd3)
            | (apply o_beside fine; exact kc0; exact kc1; exact a3; rfl; rfl; exact kd5; exact kd3)
            | (apply o_beside fine; exact kc0; exact kc1; exact a4; rfl; rfl; exact kd5; exact kd3)
            | (apply o_mem; exact kc0; rfl; exact kc1)
            | apply w_block
            | apply b_normal
            | apply w_ret
            | (apply w_true; exact kc3)
            | (apply w_false; exact kc3)
            | fail)
          apply s_ret (d := .agg (encT ⟨kd, pa, [112, 114, 111, 112, 101, 114, 116, 121]⟩ ++ encT x1 ++ encT zeroTok ++ encT zeroTok ++ encT zeroTok ++ [.nilsl, .box cf])) (Hn := rdH e r4) (by simp only [itemD, formO, attrsD]; rw [show treeD x3 = .box cf from hcf])
          · simp [*]; rfl
          · rfl
          · exact Snap.flat (by simp [attrsD, formO, *]; done)
end Go.Proofs.Ytknkkfdkcemolaa.Vm
end
section
/- Walks: endpoints of a description. -/
set_option linter.unusedSimpArgs false
set_option linter.unusedVariables false
set_option maxRecDepth 100000
set_option maxHeartbeats 4000000
namespace Go.Proofs.Ytknkkfdkcemolaa.Vm
open Go
variable {m : Int}
attribute [local irreducible] wpD opsD thenD blockD planD planA
attribute [local simp] List.take_of_length_le List.drop_of_length_le bne mvD endAt

theorem argP_len {e : Nat} {t x : Tok} {r r2 : List Tok} (h : argP e t r = .ok (x, r2)) : r2.length ≤ r.length := by
  have key : ∀ {k : Nat} {t : Tok}, takeP e k r = .ok (t, r2) → r2.length ≤ r.length := fun h => by
    rw [(takeP_len h).1]
    simp
  unfold argP at h
  split at h
  · simp only [Except.ok.injEq, Prod.mk.injEq] at h
    rw [h.2]
    exact Nat.le_refl _
  split at h
  · exact key h
  split at h
  · split at h
    · exact key h
    · exact key h
  split at h
  · exact key h
  · cases h
theorem attrP_len {e : Nat} {ts r : List Tok} {a : AttrT} (h : attrP e ts = .ok (a, r)) : r.length < ts.length := by
  unfold attrP at h
  split at h
  · cases h
  rename_i t r1 h1
  split at h
  · cases h
  rename_i x r2 h2
  split at h
  · cases h
  rename_i y r3 h3
  simp only [Except.ok.injEq, Prod.mk.injEq] at h
  have h4 := argP_len h2
  have h5 := congrArg List.length (takeP_len h1).1
  have h6 := congrArg List.length (takeP_len (wantP_ok h3).1).1
  rw [← h.2]
  simp only [List.length_cons] at h5 h6
  omega
theorem placedP_len {e : Nat} {ts r : List Tok} {p : Tok × Tok} (h : placedP e ts = .ok (p, r)) : r.length < ts.length := by
  unfold placedP at h
  split at h
  · cases h
  rename_i n r1 h1
  split at h
  · cases h
  rename_i y r2 h2
  split at h
  · cases h
  rename_i o r3 h3
  simp only [Except.ok.injEq, Prod.mk.injEq] at h
  have h5 := congrArg List.length (takeP_len h1).1
  have h6 := congrArg List.length (takeP_len (wantP_ok h2).1).1
  have h7 := congrArg List.length (takeP_len h3).1
  rw [← h.2]
  simp only [List.length_cons] at h5 h6 h7
  omega
abbrev itemZ : List D := encT zeroTok ++ encT zeroTok ++ encT zeroTok ++ encT zeroTok ++ encT zeroTok ++ [.nilsl, .nilptr]
theorem snap_tail {S : Nat → Prop} {H : Heap} {l : List D} {a a' b : D} (hl : ∀ d, d ∈ l → Flat d) (ha : Snap S H a a') (hb : Flat b) : Snap S H (.agg (l ++ [a, b])) (.agg (l ++ [a', b])) := by
  refine .agg (by simp) (fun k d e hd he => ?_)
  rcases Nat.lt_or_ge k l.length with h | h
  · rw [List.getElem?_append_left h] at hd he
    rw [hd] at he
    obtain rfl := Option.some.inj he
    exact .flat (hl d (List.mem_of_getElem? hd))
  · rw [List.getElem?_append_right h] at hd he
    match hk : k - l.length, hd, he with
    | 0, hd, he => cases hd; cases he; exact ha
    | 1, hd, he => cases hd; cases he; exact .flat hb
    | j + 2, hd, he => simp at hd
theorem attrsD_some {l : List AttrT} (h : l ≠ []) : attrsD l = .isl 6 (l.map encA) := by
  cases l with
  | nil => exact absurd rfl h
  | cons a l => rfl
theorem item_endpoint {e kd pa : Nat} {ts r0 : List Tok} (hts : ts.length ≤ 1000000) (h0 : takeP e 2 ts = .ok (⟨kd, pa, [101, 110, 100, 112, 111, 105, 110, 116]⟩, r0)) : CallsV (L m) 48 [rdR] (rdH e ts) (Ends 1 (rdH e ts) (itemRes e (itemK e ⟨kd, pa, [101, 110, 100, 112, 111, 105, 110, 116]⟩ r0))) := by
  refine ends_of_body L_ok (H := rdH e ts) (itemRes_len _ _) (fn := Try.f48) rfl rfl rfl rfl (by kernel_rfl) ?_
  have a0 := take_ok (m := m) e 2 ts _ _ h0
  have l0 := congrArg List.length (takeP_len h0).1
  simp only [List.length_cons] at l0
  clear h0
  have hK : itemK e ⟨kd, pa, [101, 110, 100, 112, 111, 105, 110, 116]⟩ r0 = andP (placedP e r0) fun n r => andP (takeP e 5 r) fun c r => andP (takeP e 3 r) fun x r => andP (wantP e 4 [123] r) fun _ r => andP (attrsP e (r.length + 1) [] r) fun l r => .ok ({ word := ⟨kd, pa, [101, 110, 100, 112, 111, 105, 110, 116]⟩, name := n.1, of_ := n.2, caps := c, text := x, attrs := l }, r) := rfl
  rw [hK]
  clear hK
  cases hx1 : placedP e r0 with
  | error a =>
    have a1 := placed_up (m := m) e r0 _ hx1
    simp only [andP, hx1, itemRes]
    clear hx1
    repeat' (first
      | apply w_seq
      | apply w_region
      | apply o_end
      | apply t_normal
      | (apply o_val; exact kc0; exact kc2)
      | (apply o_beside fine; exact kc0; exact kc1; exact a0; rfl; rfl; exact kd5; exact kd3)
      | (apply o_up fine; exact kc0; exact kc1; exact a1; rfl; exact kd6; (intro H1 hH1))
      | (apply o_mem; exact kc0; rfl; exact kc1)
      | apply w_block
      | (apply w_true; exact kc3)
      | (apply w_false; exact kc3)
      | apply t_panic
      | apply b_panic
      | (apply s_panic; exact ke4)
      | fail)
  | ok p =>
    obtain ⟨⟨n1, o1⟩, r1⟩ := p
    have a1 := placed_ok (m := m) e r0 _ _ _ hx1
    cases hx2 : takeP e 5 r1 with
    | error a =>
      have a2 := take_up (m := m) e 5 r1 _ hx2
      simp only [andP, hx1, hx2, itemRes]
      clear hx1 hx2
      repeat' (first
        | apply w_seq
        | apply w_region
        | apply o_end
        | apply t_normal
        | (apply o_val; exact kc0; exact kc2)
        | (apply o_beside fine; exact kc0; exact kc1; exact a0; rfl; rfl; exact kd5; exact kd3)
        | (apply o_beside fine; exact kc0; exact kc1; exact a1; rfl; rfl; exact kd5; exact kd3)
        | (apply o_up fine; exact kc0; exact kc1; exact a2; rfl; exact kd6; (intro H1 hH1))
        | (apply o_mem; exact kc0; rfl; exact kc1)
        | apply w_block
        | (apply w_true; exact kc3)
        | (apply w_false; exact kc3)
        | apply t_panic
        | apply b_panic
        | (apply s_panic; exact ke4)
        | fail)
    | ok p =>
      obtain ⟨x2, r2⟩ := p
      have a2 := take_ok (m := m) e 5 r1 _ _ hx2
      cases hx3 : takeP e 3 r2 with
      | error a =>
        have a3 := take_up (m := m) e 3 r2 _ hx3
        simp only [andP, hx1, hx2, hx3, itemRes]
        clear hx1 hx2 hx3
        repeat' (first
          | apply w_seq
          | apply w_region
          | apply o_end
          | apply t_normal
          | (apply o_val; exact kc0; exact kc2)
          | (apply o_beside fine; exact kc0; exact kc1; exact a0; rfl; rfl; exact kd5; exact kd3)
          | (apply o_beside fine; exact kc0; exact kc1; exact a1; rfl; rfl; exact kd5; exact kd3)
          | (apply o_beside fine; exact kc0; exact kc1; exact a2; rfl; rfl; exact kd5; exact kd3)
          | (apply o_up fine; exact kc0; exact kc1; exact a3; rfl; exact kd6; (intro H1 hH1))
          | (apply o_mem; exact kc0; rfl; exact kc1)
          | apply w_block
          | (apply w_true; exact kc3)
          | (apply w_false; exact kc3)
          | apply t_panic
          | apply b_panic
          | (apply s_panic; exact ke4)
          | fail)
      | ok p =>
        obtain ⟨x3, r3⟩ := p
        have a3 := take_ok (m := m) e 3 r2 _ _ hx3
        cases hx4 : wantP e 4 [123] r3 with
        | error a =>
          have a4 := want_up (m := m) e 4 _ r3 _ hx4
          simp only [andP, hx1, hx2, hx3, hx4, itemRes]
          clear hx1 hx2 hx3 hx4
          repeat' (first
            | apply w_seq
            | apply w_region
            | apply o_end
            | apply t_normal
            | (apply o_val; exact kc0; exact kc2)
            | (apply o_beside fine; exact kc0; exact kc1; exact a0; rfl; rfl; exact kd5; exact kd3)
            | (apply o_beside fine; exact kc0; exact kc1; exact a1; rfl; rfl; exact kd5; exact kd3)
            | (apply o_beside fine; exact kc0; exact kc1; exact a2; rfl; rfl; exact kd5; exact kd3)
            | (apply o_beside fine; exact kc0; exact kc1; exact a3; rfl; rfl; exact kd5; exact kd3)
            | (apply o_up fine; exact kc0; exact kc1; exact a4; rfl; exact kd6; (intro H1 hH1))
            | (apply o_mem; exact kc0; rfl; exact kc1)
            | apply w_block
            | (apply w_true; exact kc3)
            | (apply w_false; exact kc3)
            | apply t_panic
            | apply b_panic
            | (apply s_panic; exact ke4)
            | fail)
        | ok p =>
          obtain ⟨x4, r4⟩ := p
          have a4 := want_ok (m := m) e 4 _ r3 _ _ hx4
          simp only [andP, hx1, hx2, hx3, hx4]
          have l1 := placedP_len hx1
          have l2 := congrArg List.length (takeP_len hx2).1
          have l3 := congrArg List.length (takeP_len hx3).1
          have l4 := congrArg List.length (takeP_len (wantP_ok hx4).1).1
          simp only [List.length_cons] at l2 l3 l4
          have hM : r4.length ≤ 1000000 := by omega
          clear hx1 hx2 hx3 hx4 l0 l1 l2 l3 l4 hts
          generalize hE : attrsP e (r4.length + 1) [] r4 = E
          repeat' (first
            | apply w_seq
            | apply w_region
            | apply o_end
            | apply t_normal
            | (apply o_val; exact kc0; exact kc2)
            | (apply o_beside fine; exact kc0; exact kc1; exact a0; rfl; rfl; exact kd5; exact kd3)
            | (apply o_beside fine; exact kc0; exact kc1; exact a1; rfl; rfl; exact kd5; exact kd3)
            | (apply o_beside fine; exact kc0; exact kc1; exact a2; rfl; rfl; exact kd5; exact kd3)
            | (apply o_beside fine; exact kc0; exact kc1; exact a3; rfl; rfl; exact kd5; exact kd3)
            | (apply o_beside fine; exact kc0; exact kc1; exact a4; rfl; rfl; exact kd5; exact kd3)
            | (apply o_mem; exact kc0; rfl; exact kc1)
            | apply w_block
            | (apply w_true; exact kc3)
            | (apply w_false; exact kc3)
            | fail)
          clear a0 a1 a2 a3 a4
          refine w_loopT (fun n f H => ∃ (out : List AttrT) (r : List Tok) (A : D), r.length < n ∧ out.length + r.length ≤ r4.length ∧ attrsP e n out r = E ∧ f 0 = rdR ∧ f 2 = .ref 1 0 0 0 ∧ f 3 = .ref 2 0 0 0 ∧
              ((out = [] ∧ A = .nilsl ∧ H = [.cells 0 2 false [[tokL r, .int .i64 e]], .cells 0 17 false [itemZ], .cells 0 17 false [encT ⟨kd, pa, [101, 110, 100, 112, 111, 105, 110, 116]⟩ ++ encT n1 ++ encT o1 ++ encT x2 ++ encT x3 ++ [A, .nilptr]]]) ∨
               (out ≠ [] ∧ ∃ g, A = .slice 3 0 out.length g ∧ H = [.cells 0 2 false [[tokL r, .int .i64 e]], .cells 0 17 false [itemZ], .cells 0 17 false [encT ⟨kd, pa, [101, 110, 100, 112, 111, 105, 110, 116]⟩ ++ encT n1 ++ encT o1 ++ encT x2 ++ encT x3 ++ [A, .nilptr]], .cells g 6 false (out.map encA)]))) (r4.length + 1) ⟨[], r4, .nilsl, by omega, by simp, hE, by simp, by simp, by simp, .inl ⟨rfl, rfl, rfl⟩⟩ ?_
          clear hE
          rintro n f H ⟨out, r, A, hlt, hol, hE, g0, g2, g3, hor⟩
          have hb1 : (out.length + 1) * 64 ≤ 140737488355328 := by omega
          have hb2 : out.length ≤ 140737488355327 := by omega
          obtain ⟨k, rfl⟩ : ∃ k, n = k + 1 := ⟨n - 1, by omega⟩
          rw [attrsP] at hE
          cases hb : isP 4 [125] r
          · have hs := skip_no (m := m) e 4 [125] r hb
            rw [hb] at hE
            simp only [Bool.false_eq_true, if_false] at hE
            cases ha : attrP e r with
            | error a =>
              have h1 := attr_up (m := m) ha
              simp only [ha, andP] at hE
              subst hE
              simp only [itemRes]
              clear ha hb
              rcases hor with ⟨rfl, rfl, rfl⟩ | ⟨_, g, rfl, rfl⟩
              all_goals repeat' (first
                | apply w_seq
                | apply w_region
                | apply o_end
                | apply t_normal
                | (apply o_val; exact kc0; exact kc2)
                | (apply o_beside fine; exact kc0; exact kc1; exact hs; rfl; rfl; exact kd5; exact kd3)
                | apply w_skip
                | apply w_block
                | (apply w_true; exact kc3)
                | apply t_panic
                | apply b_panic
                | (apply s_panic; exact ke4)
                | (apply w_drawA; rfl; exact ke3; exact kc4; exact kc4)
                | (apply a_val; exact kc4; exact kc5; exact kd9; exact kc6)
                | (apply a_upB fine; exact kc4; exact kc5; exact kd8; exact h1; rfl; exact kd6; exact kc7; exact kc7; (intro f1 H1 hH1 hf1))
                | (apply a_tie; exact kc4; exact kc5; exact ke0; exact kc7; exact kc6; exact kc4)
                | fail)
            | ok p =>
              obtain ⟨a, r'⟩ := p
              have h1 := attr_ok (m := m) ha
              have hlen := attrP_len ha
              simp only [ha, andP] at hE
              clear ha hb
              rcases hor with ⟨rfl, rfl, rfl⟩ | ⟨hne, g, rfl, rfl⟩
              · skip
                repeat' (first
                  | apply w_seq
                  | apply w_region
                  | apply o_end
                  | apply t_normal
                  | (apply o_val; exact kc0; exact kc2)
                  | (apply o_beside fine; exact kc0; exact kc1; exact hs; rfl; rfl; exact kd5; exact kd3)
                  | apply w_skip
                  | apply w_block
                  | apply b_normal
                  | (apply w_true; exact kc3)
                  | (apply w_drawA; rfl; exact ke3; exact kc4; exact kc4)
                  | (apply a_end; exact kc4)
                  | (apply a_val; exact kc4; exact kc5; exact kd9; exact kc6)
                  | (apply a_besideG fine; exact kc4; exact kc5; exact kd8; exact h1; rfl; rfl; exact kd5; exact kd3; exact kc7; exact kc8; exact kc6; exact kc4)
                  | (apply a_tie; exact kc4; exact kc5; exact ke0; exact kc7; exact kc6; exact kc4)
                  | (apply a_frz (op := Op.buildSlice _ _ _); exact kc4; exact kc5; exact ke1; exact ke9; exact kc6)
                  | (apply a_mem; exact kc4; exact kc5; exact ke1; exact kd8; exact kc7; exact kc6; exact kc4)
                  | fail)
                refine ⟨k, by omega, [.cells 0 2 false [[tokL r', .int .i64 e]], .cells 0 17 false [itemZ], .cells 0 17 false [encT ⟨kd, pa, [101, 110, 100, 112, 111, 105, 110, 116]⟩ ++ encT n1 ++ encT o1 ++ encT x2 ++ encT x3 ++ [.slice 3 0 ([a]).length 1, .nilptr]], .cells 1 6 false (([a]).map encA)], 4, [(0, rdR), (2, .ref 1 0 0 0), (3, .ref 2 0 0 0)], by simp, ?_, by simp, ?_, ?_, [a], r', .slice 3 0 ([a]).length 1, by omega, by simp at hol ⊢; omega, hE, by simp [lookF], by simp [lookF], by simp [lookF], .inr ⟨by simp, 1, rfl, rfl⟩⟩
                · simp; done
                · intro b hb
                  simp only [List.mem_cons, List.not_mem_nil, or_false] at hb
                  rcases hb with rfl | rfl | rfl | rfl
                  all_goals first | (simp; done) | (intro x hx d hd; obtain ⟨y, _, rfl⟩ := List.mem_map.1 hx; apply Under.flat; revert hd; revert d; simp; done)
                · intro p hp
                  simp only [List.mem_cons, List.not_mem_nil, or_false] at hp
                  rcases hp with rfl | rfl | rfl
                  all_goals exact .inl ⟨by simp [*], by simp⟩
              · skip
                repeat' (first
                  | apply w_seq
                  | apply w_region
                  | apply o_end
                  | apply t_normal
                  | (apply o_val; exact kc0; exact kc2)
                  | (apply o_beside fine; exact kc0; exact kc1; exact hs; rfl; rfl; exact kd5; exact kd3)
                  | apply w_skip
                  | apply w_block
                  | apply b_normal
                  | (apply w_true; exact kc3)
                  | (apply w_drawA; rfl; exact ke3; exact kc4; exact kc4)
                  | (apply a_end; exact kc4)
                  | (apply a_val; exact kc4; exact kc5; exact kd9; exact kc6)
                  | (apply a_besideG fine; exact kc4; exact kc5; exact kd8; exact h1; rfl; rfl; exact kd5; exact kd3; exact kc7; exact kc8; exact kc6; exact kc4)
                  | (apply a_tie; exact kc4; exact kc5; exact ke0; exact kc7; exact kc6; exact kc4)
                  | (apply a_frz (op := Op.buildSlice _ _ _); exact kc4; exact kc5; exact ke1; exact ke9; exact kc6)
                  | (apply a_mem; exact kc4; exact kc5; exact ke1; exact kd8; exact kc7; exact kc6; exact kc4)
                  | fail)
                refine ⟨k, by omega, [.cells 0 2 false [[tokL r', .int .i64 e]], .cells 0 17 false [itemZ], .cells 0 17 false [encT ⟨kd, pa, [101, 110, 100, 112, 111, 105, 110, 116]⟩ ++ encT n1 ++ encT o1 ++ encT x2 ++ encT x3 ++ [.slice 3 0 (out ++ [a]).length (g + 1), .nilptr]], .cells (g + 1) 6 false ((out ++ [a]).map encA)], 4, [(0, rdR), (2, .ref 1 0 0 0), (3, .ref 2 0 0 0)], by simp, ?_, by simp, ?_, ?_, out ++ [a], r', .slice 3 0 (out ++ [a]).length (g + 1), by omega, by simp at hol ⊢; omega, hE, by simp [lookF], by simp [lookF], by simp [lookF], .inr ⟨by simp, (g + 1), rfl, rfl⟩⟩
                · simp; done
                · intro b hb
                  simp only [List.mem_cons, List.not_mem_nil, or_false] at hb
                  rcases hb with rfl | rfl | rfl | rfl
                  all_goals first | (simp; done) | (intro x hx d hd; obtain ⟨y, _, rfl⟩ := List.mem_map.1 hx; apply Under.flat; revert hd; revert d; simp; done)
                · intro p hp
                  simp only [List.mem_cons, List.not_mem_nil, or_false] at hp
                  rcases hp with rfl | rfl | rfl
                  all_goals exact .inl ⟨by simp [*], by simp⟩
          · obtain ⟨t, tl, rfl, hk1, hk2, h4⟩ := isP_take (e := e) hb
            have hs := skip_yes (m := m) e 4 [125] _ t tl (by unfold wantP; rw [if_pos hb, h4])
            rw [hb] at hE
            simp only [if_true, List.tail_cons] at hE
            subst hE
            simp only [itemRes]
            clear hb h4 hk1 hk2
            rcases hor with ⟨rfl, rfl, rfl⟩ | ⟨hne, g, rfl, rfl⟩
            · skip
              repeat' (first
                | apply w_seq
                | apply w_region
                | apply o_end
                | apply t_normal
                | (apply o_val; exact kc0; exact kc2)
                | (apply o_beside fine; exact kc0; exact kc1; exact hs; rfl; rfl; exact kd5; exact kd3)
                | (apply o_mem; exact kc0; rfl; exact kc1)
                | apply w_ret
                | apply t_ret
                | apply b_ret
                | apply w_exit
                | apply t_exit
                | apply b_here
                | (apply w_false; exact kc3)
                | fail)
              apply s_ret rfl
              · simp [*]; rfl
              · rfl
              · exact Snap.flat (by simp [attrsD, formO]; done)
            · skip
              repeat' (first
                | apply w_seq
                | apply w_region
                | apply o_end
                | apply t_normal
                | (apply o_val; exact kc0; exact kc2)
                | (apply o_beside fine; exact kc0; exact kc1; exact hs; rfl; rfl; exact kd5; exact kd3)
                | (apply o_mem; exact kc0; rfl; exact kc1)
                | apply w_ret
                | apply t_ret
                | apply b_ret
                | apply w_exit
                | apply t_exit
                | apply b_here
                | (apply w_false; exact kc3)
                | fail)
              apply s_ret rfl
              · simp [*]; rfl
              · rfl
              · simp only [itemD, attrsD_some hne, formO]
                exact snap_tail (l := encT ⟨kd, pa, [101, 110, 100, 112, 111, 105, 110, 116]⟩ ++ encT n1 ++ encT o1 ++ encT x2 ++ encT x3) (by simp) (Snap.slice_flat (by simp) rfl (by simp) (by simp) (by simp)) .nilptr
theorem itemK_none {e : Nat} {w : Tok} {r : List Tok} (h1 : w.text ≠ [111, 114, 105, 103, 105, 110]) (h2 : w.text ≠ [99, 111, 111, 107, 105, 101]) (h3 : w.text ≠ [115, 101, 99, 114, 101, 116]) (h4 : w.text ≠ [110, 101, 116, 119, 111, 114, 107]) (h5 : w.text ≠ [112, 114, 111, 112, 101, 114, 116, 121]) (h6 : w.text ≠ [101, 110, 100, 112, 111, 105, 110, 116]) : itemK e w r = .error w.at_ := by
  unfold itemK
  rw [if_neg h1, if_neg h2, if_neg h3, if_neg h4, if_neg h5, if_neg h6]
theorem item_ok (e : Nat) (ts : List Tok) (hts : ts.length ≤ 1000000) : CallsV (L m) 48 [rdR] (rdH e ts) (Ends 1 (rdH e ts) (itemRes e (itemP e ts))) := by
  unfold itemP
  cases h0 : takeP e 2 ts with
  | error a =>
    simp only [andP]
    refine ends_of_body L_ok (H := rdH e ts) (itemRes_len _ _) (fn := Try.f48) rfl rfl rfl rfl (by kernel_rfl) ?_
    have a0 := take_up (m := m) e 2 ts _ h0
    simp only [itemRes]
    clear h0
    repeat' (first
      | apply w_seq
      | apply w_region
      | apply o_end
      | apply t_normal
      | (apply o_val; exact kc0; exact kc2)
      | (apply o_up fine; exact kc0; exact kc1; exact a0; rfl; exact kd6; (intro H1 hH1))
      | (apply o_mem; exact kc0; rfl; exact kc1)
      | apply t_panic
      | (apply s_panic; exact ke4)
      | fail)
  | ok p =>
    obtain ⟨⟨kd, pa, tx⟩, r⟩ := p
    simp only [andP]
    by_cases h1 : tx = [111, 114, 105, 103, 105, 110]
    · subst h1; exact item_origin h0
    by_cases h2 : tx = [99, 111, 111, 107, 105, 101]
    · subst h2; exact item_cookie h0
    by_cases h3 : tx = [115, 101, 99, 114, 101, 116]
    · subst h3; exact item_secret h0
    by_cases h4 : tx = [110, 101, 116, 119, 111, 114, 107]
    · subst h4; exact item_network h0
    by_cases h5 : tx = [112, 114, 111, 112, 101, 114, 116, 121]
    · subst h5; exact item_property h0
    by_cases h6 : tx = [101, 110, 100, 112, 111, 105, 110, 116]
    · subst h6; exact item_endpoint hts h0
    rw [itemK_none h1 h2 h3 h4 h5 h6]
    refine ends_of_body L_ok (H := rdH e ts) (itemRes_len _ _) (fn := Try.f48) rfl rfl rfl rfl (by kernel_rfl) ?_
    have a0 := take_ok (m := m) e 2 ts _ _ h0
    have b1 : (tx == [111, 114, 105, 103, 105, 110]) = false := by simpa using h1
    have b2 : (tx == [99, 111, 111, 107, 105, 101]) = false := by simpa using h2
    have b3 : (tx == [115, 101, 99, 114, 101, 116]) = false := by simpa using h3
    have b4 : (tx == [110, 101, 116, 119, 111, 114, 107]) = false := by simpa using h4
    have b5 : (tx == [112, 114, 111, 112, 101, 114, 116, 121]) = false := by simpa using h5
    have b6 : (tx == [101, 110, 100, 112, 111, 105, 110, 116]) = false := by simpa using h6
    simp only [itemRes]
    clear h0 h1 h2 h3 h4 h5 h6
    repeat' (first
      | apply w_seq
      | apply w_region
      | apply o_end
      | apply t_normal
      | (apply o_val; exact kc0; exact kc2)
      | (apply o_beside fine; exact kc0; exact kc1; exact a0; rfl; rfl; exact kd5; exact kd3)
      | (apply o_mem; exact kc0; rfl; exact kc1)
      | apply w_block
      | (apply w_false; exact kc3)
      | apply t_panic
      | apply b_panic
      | (apply s_panic; exact ke4)
      | (apply o_panic; exact kc0; (focus (simp [*]; first | rfl | exact ⟨rfl, rfl⟩)))
      | fail)
end Go.Proofs.Ytknkkfdkcemolaa.Vm
end
section
/- Walks: all items of a description. -/
set_option linter.unusedSimpArgs false
set_option linter.unusedVariables false
set_option maxRecDepth 100000
set_option maxHeartbeats 4000000
namespace Go.Proofs.Ytknkkfdkcemolaa.Vm
open Go
variable {m : Int}
attribute [local irreducible] wpD opsD thenD blockD planD planA
attribute [local simp] List.take_of_length_le List.drop_of_length_le bne mvD endAt

theorem defer_none (H : Heap) : DefOk (L m) 47 [.ref 1 0 0 0, .ref 2 0 0 0] none H H := by
  refine deferred_of_body L_ok (fn := Try.f47) rfl rfl rfl rfl rfl rfl (by kernel_rfl) ?_
  simp only [recD]
  repeat' (first
    | apply w_seq
    | apply w_region
    | apply o_end
    | apply t_normal
    | (apply o_val; exact kc0; exact kc2)
    | apply w_skip
    | (apply w_false; exact kc3)
    | fail)
  exact ⟨_, rfl, ⟨_, rfl⟩, rfl⟩
attribute [local simp] List.set_append
theorem defer_some (k0 : Blk) (out : D) (K : Heap) (a : Nat) : DefOk (L m) 47 [.ref 1 0 0 0, .ref 2 0 0 0] (some (stopD a)) (k0 :: .cells 0 1 false [[out]] :: .cells 0 2 false [[.int .i64 0, .int .i64 0]] :: K)
    (k0 :: .cells 0 1 false [[.nilsl]] :: .cells 0 2 false [[.int .i64 4, .int .i64 a]] :: K) := by
  refine deferred_of_body L_ok (fn := Try.f47) rfl rfl rfl rfl rfl rfl (by kernel_rfl) ?_
  simp only [recD]
  repeat' (first
    | apply w_seq
    | apply w_region
    | apply o_end
    | apply t_normal
    | (apply o_val; exact kc0; exact kc2)
    | (apply o_fuse; exact kc0; rfl; (focus (simp [*]; first | rfl | exact ⟨rfl, rfl⟩)); exact kc0; rfl; (focus (simp [*]; first | rfl | exact ⟨rfl, rfl⟩ | exact ⟨rfl, rfl, rfl⟩)); (focus (intro d hd; apply Under.flat; revert hd; revert d; simp; done)))
    | apply w_skip
    | (apply w_true; exact kc3)
    | (apply w_false; exact kc3)
    | (apply w_drawA; rfl; exact ke3; exact kc4; exact kc4)
    | (apply a_end; exact kc4)
    | (apply a_val; exact kc4; exact kc5; exact kd9; exact kc6)
    | (apply a_mem; exact kc4; exact kc5; exact ke1; exact kd8; exact kc7; exact kc6; exact kc4)
    | fail)
  exact ⟨_, rfl, ⟨_, rfl⟩, rfl⟩
abbrev itemC (i : ItemT) : List D := encT i.word ++ encT i.name ++ encT i.of_ ++ encT i.caps ++ encT i.text ++ [attrsD i.attrs, formO i.form]
def itemsL : List ItemT → D
  | [] => .nilsl
  | i :: l => .isl 17 ((i :: l).map itemC)
theorem itemsL_some {l : List ItemT} (h : l ≠ []) : itemsL l = .isl 17 (l.map itemC) := by cases l with
  | nil => exact absurd rfl h
  | cons i l => rfl
@[simp] theorem oneD_attrsD (H : Heap) (l : List AttrT) : oneD H (attrsD l) = true := by cases l <;> rfl
@[simp] theorem oneD_formO (H : Heap) (o : Option Tree) : oneD H (formO o) = true := by
  cases o with
  | none => rfl
  | some t => cases t <;> rfl
@[simp] theorem flat_attrsD (l : List AttrT) : Flat (attrsD l) := by
  cases l with
  | nil => exact .nilsl
  | cons a l => simp [attrsD]
@[simp] theorem flat_formO (o : Option Tree) : Flat (formO o) := by
  cases o with
  | none => exact .nilptr
  | some t => exact treeD_flat t
def itemsP (e : Nat) : Nat → List ItemT → List Tok → Except Nat (List ItemT)
  | 0, _, _ => .error 0
  | _ + 1, out, [] => .ok out
  | k + 1, out, t :: r => match itemP e (t :: r) with
    | .error a => .error a
    | .ok (i, r2) => itemsP e k (out ++ [i]) r2
def itemsD : Except Nat (List ItemT) → D
  | .ok l => .tuple [itemsL l, .agg [.int .i64 0, .int .i64 0]]
  | .error a => .tuple [.nilsl, .agg [.int .i64 4, .int .i64 a]]
theorem andP_ok {α β : Type} {x : PR α} {f : α → List Tok → PR β} {b : β} {r : List Tok} (h : andP x f = .ok (b, r)) : ∃ a r1, x = .ok (a, r1) ∧ f a r1 = .ok (b, r) := by
  unfold andP at h
  split at h
  · cases h
  · exact ⟨_, _, rfl, h⟩
theorem takeP_le {e k : Nat} {t : Tok} {ts r : List Tok} (h : takeP e k ts = .ok (t, r)) : r.length ≤ ts.length := by
  rw [(takeP_len h).1]; simp
theorem wantP_le {e k : Nat} {x : List UInt8} {t : Tok} {ts r : List Tok} (h : wantP e k x ts = .ok (t, r)) : r.length ≤ ts.length := takeP_le (wantP_ok h).1
theorem attrsP_le {e : Nat} : ∀ {k : Nat} {out l : List AttrT} {ts r : List Tok}, attrsP e k out ts = .ok (l, r) → r.length ≤ ts.length
  | 0, _, _, _, _, h => by cases h
  | k + 1, out, l, ts, r, h => by
    rw [attrsP] at h
    split at h
    · simp only [Except.ok.injEq, Prod.mk.injEq] at h
      rw [← h.2]
      simp
    · obtain ⟨a, r1, h1, h2⟩ := andP_ok h
      have := attrsP_le h2
      have := attrP_len h1
      omega
theorem itemK_le {e : Nat} {w : Tok} {ts r : List Tok} {i : ItemT} (h : itemK e w ts = .ok (i, r)) : r.length ≤ ts.length := by
  unfold itemK at h
  split at h
  · obtain ⟨a1, r1, h1, h⟩ := andP_ok h
    obtain ⟨a2, r2, h2, h⟩ := andP_ok h
    obtain ⟨a3, r3, h3, h⟩ := andP_ok h
    simp only [Except.ok.injEq, Prod.mk.injEq] at h
    have := takeP_le h1; have := takeP_le h2; have := wantP_le h3
    rw [← h.2]; omega
  split at h
  · obtain ⟨a1, r1, h1, h⟩ := andP_ok h
    obtain ⟨a2, r2, h2, h⟩ := andP_ok h
    obtain ⟨a3, r3, h3, h⟩ := andP_ok h
    simp only [Except.ok.injEq, Prod.mk.injEq] at h
    have := placedP_len h1; have := takeP_le h2; have := wantP_le h3
    rw [← h.2]; omega
  split at h
  · obtain ⟨a1, r1, h1, h⟩ := andP_ok h
    obtain ⟨a3, r3, h3, h⟩ := andP_ok h
    simp only [Except.ok.injEq, Prod.mk.injEq] at h
    have := takeP_le h1; have := wantP_le h3
    rw [← h.2]; omega
  split at h
  · obtain ⟨a3, r3, h3, h⟩ := andP_ok h
    simp only [Except.ok.injEq, Prod.mk.injEq] at h
    have := wantP_le h3
    rw [← h.2]; omega
  split at h
  · obtain ⟨a1, r1, h1, h⟩ := andP_ok h
    obtain ⟨a2, r2, h2, h⟩ := andP_ok h
    obtain ⟨a3, r3, h3, h⟩ := andP_ok h
    obtain ⟨a4, r4, h4, h⟩ := andP_ok h
    simp only [Except.ok.injEq, Prod.mk.injEq] at h
    have := takeP_le h1; have := wantP_le h2; have := formP_len _ _ _ _ _ _ h3; have := wantP_le h4
    rw [← h.2]; omega
  split at h
  · obtain ⟨a1, r1, h1, h⟩ := andP_ok h
    obtain ⟨a2, r2, h2, h⟩ := andP_ok h
    obtain ⟨a3, r3, h3, h⟩ := andP_ok h
    obtain ⟨a4, r4, h4, h⟩ := andP_ok h
    obtain ⟨a5, r5, h5, h⟩ := andP_ok h
    simp only [Except.ok.injEq, Prod.mk.injEq] at h
    have := placedP_len h1; have := takeP_le h2; have := takeP_le h3; have := wantP_le h4; have := attrsP_le h5
    rw [← h.2]; omega
  · cases h
theorem itemP_len {e : Nat} {ts r : List Tok} {i : ItemT} (h : itemP e ts = .ok (i, r)) : r.length < ts.length := by
  unfold itemP at h
  obtain ⟨a1, r1, h1, h⟩ := andP_ok h
  have := itemK_le h
  rw [(takeP_len h1).1]
  simp only [List.length_cons]
  omega
/-- What is left of the small heap when all items are read, or reading was given up. -/
def itemsQ (x : Except Nat (List ItemT)) (r : DRes) (H' : Heap) : Prop := ∃ d0 H2, r = .ret d0 ∧ Drops H' H2 ∧ (∃ g, H2[0]? = some (.gone g)) ∧ Snap (fun r => 1 ≤ r) H2 d0 (itemsD x)
theorem drops_head (b : Blk) (l : Heap) : Drops (b :: l) (.gone b.next :: l) := by
  refine ⟨rfl, fun r k hk => ?_⟩
  cases r with
  | zero => obtain rfl := Option.some.inj hk; exact .inr rfl
  | succ r => exact .inl hk
theorem three {H1 : Heap} {a b : Blk} (h1 : H1[1]? = some a) (h2 : H1[2]? = some b) : ∃ k0 K, H1 = k0 :: a :: b :: K := by
  rcases H1 with _ | ⟨x, _ | ⟨y, _ | ⟨z, K⟩⟩⟩ <;> simp at h1 h2
  subst h1 h2
  exact ⟨_, _, rfl⟩
theorem items_run (e : Nat) (ts : List Tok) (hts : ts.length ≤ 1000000) : CallsV (L m) 31 [rdR] (rdH e ts) (itemsQ (itemsP e (ts.length + 1) [] ts)) := by
  refine calls_of_body_defer L_ok (fn := Try.f31) rfl rfl rfl rfl rfl (by kernel_rfl) (by kernel_rfl) ?_
  generalize hE : itemsP e (ts.length + 1) [] ts = E
  repeat' (first
    | apply w_region
    | apply o_end
    | (apply o_mem; exact kc0; rfl; exact kc1)
    | fail)
  apply bq_normal (caps := [.ref 1 0 0 0, .ref 2 0 0 0]) rfl
  repeat' (first
    | apply w_seq
    | apply w_block
    | fail)
  refine w_loopT (fun n f H => ∃ (out : List ItemT) (r : List Tok), r.length < n ∧ out.length + r.length ≤ ts.length ∧ itemsP e n out r = E ∧ f 0 = rdR ∧ f 2 = .ref 1 0 0 0 ∧ f 3 = .ref 2 0 0 0 ∧
      ((out = [] ∧ H = [.cells 0 2 false [[tokL r, .int .i64 e]], .cells 0 1 false [[.nilsl]], .cells 0 2 false [[.int .i64 0, .int .i64 0]]]) ∨
       (out ≠ [] ∧ ∃ g, H = [.cells 0 2 false [[tokL r, .int .i64 e]], .cells 0 1 false [[.slice 3 0 out.length g]], .cells 0 2 false [[.int .i64 0, .int .i64 0]], .cells g 17 false (out.map itemC)]))) (ts.length + 1) ⟨[], ts, by omega, by simp, hE, by simp, by simp, by simp, .inl ⟨rfl, rfl⟩⟩ ?_
  clear hE
  rintro n f H ⟨out, r, hlt, hol, hE, g0, g2, g3, hor⟩
  have hb1 : (out.length + 1) * 192 ≤ 140737488355328 := by omega
  have hb2 : out.length ≤ 140737488355327 := by omega
  obtain ⟨k, rfl⟩ : ∃ k, n = k + 1 := ⟨n - 1, by omega⟩
  cases r with
  | nil =>
    rw [itemsP] at hE
    subst hE
    rcases hor with ⟨rfl, rfl⟩ | ⟨hne, g, rfl⟩
    · skip
      repeat' (first
        | apply w_seq
        | apply w_region
        | apply o_end
        | apply t_normal
        | (apply o_val; exact kc0; exact kc2)
        | apply w_ret
        | apply w_exit
        | apply t_exit
        | apply b_here
        | (apply w_false; exact kc3)
        | (apply w_drawA; rfl; exact ke3; exact kc4; exact kc4)
        | (apply a_end; exact kc4)
        | (apply a_tie; exact kc4; exact kc5; exact ke0; exact kc7; exact kc6; exact kc4)
        | (apply a_mem; exact kc4; exact kc5; exact ke1; exact kd8; exact kc7; exact kc6; exact kc4)
        | (apply a_memG; exact kc4; exact kc5; exact ke1; exact kd8; exact kc7; exact kc8; exact kc6; exact kc4)
        | fail)
      refine dq_ret (d := .tuple [.nilsl, .agg [.int .i64 0, .int .i64 0]]) (defer_none (m := m) _) ?_ ⟨_, _, rfl, drops_head _ _, ⟨_, rfl⟩, Snap.flat (by simp)⟩
      simp [*]
    · skip
      repeat' (first
        | apply w_seq
        | apply w_region
        | apply o_end
        | apply t_normal
        | (apply o_val; exact kc0; exact kc2)
        | apply w_ret
        | apply w_exit
        | apply t_exit
        | apply b_here
        | (apply w_false; exact kc3)
        | (apply w_drawA; rfl; exact ke3; exact kc4; exact kc4)
        | (apply a_end; exact kc4)
        | (apply a_tie; exact kc4; exact kc5; exact ke0; exact kc7; exact kc6; exact kc4)
        | (apply a_mem; exact kc4; exact kc5; exact ke1; exact kd8; exact kc7; exact kc6; exact kc4)
        | (apply a_memG; exact kc4; exact kc5; exact ke1; exact kd8; exact kc7; exact kc8; exact kc6; exact kc4)
        | fail)
      refine dq_ret (d := .tuple [.slice 3 0 out.length g, .agg [.int .i64 0, .int .i64 0]]) (defer_none (m := m) _) ?_ ⟨_, _, rfl, drops_head _ _, ⟨_, rfl⟩, ?_⟩
      · simp [*]
      · simp only [itemsD, itemsL_some hne]
        exact SnapL.tuple ⟨Snap.slice_flat (by simp) rfl (by simp) (by simp) (by simp), Snap.flat (by simp), trivial⟩
  | cons t tl =>
    rw [itemsP] at hE
    have hpos : decide ((0 : Int) < (tl.length : Int) + 1) = true := by simp
    cases ha : itemP e (t :: tl) with
    | error a =>
      have h1 := item_ok (m := m) e (t :: tl) (by omega)
      rw [ha] at h1 hE
      simp only [itemRes] at h1
      simp only at hE
      subst hE
      clear ha
      rcases hor with ⟨rfl, rfl⟩ | ⟨hne, g, rfl⟩
      · skip
        repeat' (first
          | apply w_seq
          | apply w_region
          | apply o_end
          | apply t_normal
          | (apply o_val; exact kc0; exact kc2)
          | apply w_skip
          | apply w_block
          | (apply w_true; exact kc3)
          | apply t_panic
          | apply b_panic
          | (apply w_drawA; rfl; exact ke3; exact kc4; exact kc4)
          | (apply a_val; exact kc4; exact kc5; exact kd9; exact kc6)
          | (apply a_upB fine; exact kc4; exact kc5; exact kd8; exact h1; rfl; exact kd6; exact kc7; exact kc7; (intro f1 H1 hH1 hf1))
          | (apply a_tie; exact kc4; exact kc5; exact ke0; exact kc7; exact kc6; exact kc4)
          | fail)
        obtain ⟨k0, K, rfl⟩ := three (hH1 1 _ (Nat.le_refl 1) rfl) (hH1 2 _ (by simp) rfl)
        have q2 : f1 2 = .ref 1 0 0 0 := (hf1 2 (by decide)).trans (by simp [*])
        have q3 : f1 3 = .ref 2 0 0 0 := (hf1 3 (by decide)).trans (by simp [*])
        refine dq_panic (d := .tuple [.nilsl, .agg [.int .i64 4, .int .i64 a]]) (defer_some (m := m) k0 _ K a) ?_ ⟨_, _, rfl, drops_head _ _, ⟨_, rfl⟩, Snap.flat (by simp)⟩
        simp [q2, q3]
      · skip
        repeat' (first
          | apply w_seq
          | apply w_region
          | apply o_end
          | apply t_normal
          | (apply o_val; exact kc0; exact kc2)
          | apply w_skip
          | apply w_block
          | (apply w_true; exact kc3)
          | apply t_panic
          | apply b_panic
          | (apply w_drawA; rfl; exact ke3; exact kc4; exact kc4)
          | (apply a_val; exact kc4; exact kc5; exact kd9; exact kc6)
          | (apply a_upB fine; exact kc4; exact kc5; exact kd8; exact h1; rfl; exact kd6; exact kc7; exact kc7; (intro f1 H1 hH1 hf1))
          | (apply a_tie; exact kc4; exact kc5; exact ke0; exact kc7; exact kc6; exact kc4)
          | fail)
        obtain ⟨k0, K, rfl⟩ := three (hH1 1 _ (Nat.le_refl 1) rfl) (hH1 2 _ (by simp) rfl)
        have q2 : f1 2 = .ref 1 0 0 0 := (hf1 2 (by decide)).trans (by simp [*])
        have q3 : f1 3 = .ref 2 0 0 0 := (hf1 3 (by decide)).trans (by simp [*])
        refine dq_panic (d := .tuple [.nilsl, .agg [.int .i64 4, .int .i64 a]]) (defer_some (m := m) k0 _ K a) ?_ ⟨_, _, rfl, drops_head _ _, ⟨_, rfl⟩, Snap.flat (by simp)⟩
        simp [q2, q3]
    | ok p =>
      obtain ⟨i, r'⟩ := p
      have h1 := item_ok (m := m) e (t :: tl) (by omega)
      have hlen := itemP_len ha
      rw [ha] at h1 hE
      simp only [itemRes] at h1
      simp only at hE
      simp only [List.length_cons] at hlt hol hlen
      clear ha
      rcases hor with ⟨rfl, rfl⟩ | ⟨hne, g, rfl⟩
      · skip
        repeat' (first
          | apply w_seq
          | apply w_region
          | apply o_end
          | apply t_normal
          | (apply o_val; exact kc0; exact kc2)
          | apply w_skip
          | apply w_block
          | apply b_normal
          | (apply w_true; exact kc3)
          | (apply w_drawA; rfl; exact ke3; exact kc4; exact kc4)
          | (apply a_end; exact kc4)
          | (apply a_val; exact kc4; exact kc5; exact kd9; exact kc6)
          | (apply a_besideG fine; exact kc4; exact kc5; exact kd8; exact h1; rfl; rfl; exact kd5; exact kd3; exact kc7; exact kc8; exact kc6; exact kc4)
          | (apply a_tie; exact kc4; exact kc5; exact ke0; exact kc7; exact kc6; exact kc4)
          | (apply a_frz (op := Op.buildSlice _ _ _); exact kc4; exact kc5; exact ke1; exact ke9; exact kc6)
          | (apply a_mem; exact kc4; exact kc5; exact ke1; exact kd8; exact kc7; exact kc6; exact kc4)
          | fail)
        refine ⟨k, by omega, [.cells 0 2 false [[tokL r', .int .i64 e]], .cells 0 1 false [[.slice 3 0 ([i]).length 1]], .cells 0 2 false [[.int .i64 0, .int .i64 0]], .cells 1 17 false (([i]).map itemC)], 4, [(0, rdR), (2, .ref 1 0 0 0), (3, .ref 2 0 0 0)], by simp, ?_, by simp, ?_, ?_, [i], r', by omega, by simp at hol ⊢; omega, hE, by simp [lookF], by simp [lookF], by simp [lookF], .inr ⟨by simp, 1, rfl⟩⟩
        · simp; done
        · intro b hb
          simp only [List.mem_cons, List.not_mem_nil, or_false] at hb
          rcases hb with rfl | rfl | rfl | rfl
          all_goals first | (simp; done) | (intro x hx d hd; obtain ⟨y, _, rfl⟩ := List.mem_map.1 hx; apply Under.flat; revert hd; revert d; simp; done)
        · intro p hp
          simp only [List.mem_cons, List.not_mem_nil, or_false] at hp
          rcases hp with rfl | rfl | rfl
          all_goals exact .inl ⟨by simp [*], by simp⟩
      · skip
        repeat' (first
          | apply w_seq
          | apply w_region
          | apply o_end
          | apply t_normal
          | (apply o_val; exact kc0; exact kc2)
          | apply w_skip
          | apply w_block
          | apply b_normal
          | (apply w_true; exact kc3)
          | (apply w_drawA; rfl; exact ke3; exact kc4; exact kc4)
          | (apply a_end; exact kc4)
          | (apply a_val; exact kc4; exact kc5; exact kd9; exact kc6)
          | (apply a_besideG fine; exact kc4; exact kc5; exact kd8; exact h1; rfl; rfl; exact kd5; exact kd3; exact kc7; exact kc8; exact kc6; exact kc4)
          | (apply a_tie; exact kc4; exact kc5; exact ke0; exact kc7; exact kc6; exact kc4)
          | (apply a_frz (op := Op.buildSlice _ _ _); exact kc4; exact kc5; exact ke1; exact ke9; exact kc6)
          | (apply a_mem; exact kc4; exact kc5; exact ke1; exact kd8; exact kc7; exact kc6; exact kc4)
          | fail)
        refine ⟨k, by omega, [.cells 0 2 false [[tokL r', .int .i64 e]], .cells 0 1 false [[.slice 3 0 (out ++ [i]).length (g + 1)]], .cells 0 2 false [[.int .i64 0, .int .i64 0]], .cells (g + 1) 17 false ((out ++ [i]).map itemC)], 4, [(0, rdR), (2, .ref 1 0 0 0), (3, .ref 2 0 0 0)], by simp, ?_, by simp, ?_, ?_, out ++ [i], r', by omega, by simp at hol ⊢; omega, hE, by simp [lookF], by simp [lookF], by simp [lookF], .inr ⟨by simp, g + 1, rfl⟩⟩
        · simp; done
        · intro b hb
          simp only [List.mem_cons, List.not_mem_nil, or_false] at hb
          rcases hb with rfl | rfl | rfl | rfl
          all_goals first | (simp; done) | (intro x hx d hd; obtain ⟨y, _, rfl⟩ := List.mem_map.1 hx; apply Under.flat; revert hd; revert d; simp; done)
        · intro p hp
          simp only [List.mem_cons, List.not_mem_nil, or_false] at hp
          rcases hp with rfl | rfl | rfl
          all_goals exact .inl ⟨by simp [*], by simp⟩
theorem itemsL_flat (l : List ItemT) : Flat (itemsL l) := by
  cases l with
  | nil => exact .nilsl
  | cons i l => simp [itemsL]
theorem itemsD_flat (x : Except Nat (List ItemT)) : Flat (itemsD x) := by
  cases x with
  | error a => simp [itemsD]
  | ok l => simp [itemsD, itemsL_flat]
theorem items_ok (e : Nat) (ts : List Tok) (hts : ts.length ≤ 1000000) : CallsV (L m) 31 [rdR] (rdH e ts) fun r H' => r = .ret (itemsD (itemsP e (ts.length + 1) [] ts)) ∧ ∃ g, H' = [.gone g] := by
  have h1 := (items_run (m := m) e ts hts).drop (Q' := fun r H' => (∃ d0, r = .ret d0 ∧ Snap (fun r => 1 ≤ r) H' d0 (itemsD (itemsP e (ts.length + 1) [] ts))) ∧ ∃ g, H'[0]? = some (.gone g)) (fun r H' hq => by
    obtain ⟨d0, H2, rfl, h2, h3, h4⟩ := hq
    exact ⟨H2, h2, ⟨d0, rfl, h4⟩, h3⟩)
  refine h1.trim fun r H' ⟨⟨d0, hr, hs⟩, g, hg⟩ => ⟨fun i k hi hk => ?_, ?_⟩
  · have hi : i < 1 := hi
    obtain rfl : i = 0 := by omega
    rw [hg] at hk
    obtain rfl := Option.some.inj hk
    trivial
  · subst hr
    refine ⟨_, hs, rfl, g, ?_⟩
    rcases H' with _ | ⟨x, l⟩
    · simp at hg
    · obtain rfl : x = .gone g := by simpa using hg
      rfl
end Go.Proofs.Ytknkkfdkcemolaa.Vm
end
section
/- Walks: how deep a formula is. -/
set_option linter.unusedSimpArgs false
set_option linter.unusedVariables false
set_option maxRecDepth 100000
set_option maxHeartbeats 4000000
namespace Go.Proofs.Ytknkkfdkcemolaa.Vm
open Go
variable {m : Int}
attribute [local irreducible] wpD opsD thenD blockD planD planA LoopD
attribute [local simp] List.take_of_length_le List.drop_of_length_le bne mvD endAt

def depthT : Tree → Nat
  | .leaf _ _ => 1
  | .un _ k => depthT k + 1
  | .bin _ a b => max (depthT a) (depthT b) + 1
theorem depth_ok (t : Tree) (hd : depthT t < 1000000) : Ans (L m) 32 [treeD t] (.int .i64 (depthT t)) := by
  induction t with
  | leaf w n =>
    refine fn_of_body L_ok (fn := Try.f32) rfl rfl rfl rfl (by kernel_rfl) ?_
    rw [treeD]
    repeat' (first
      | apply w_seq
      | apply w_region
      | apply o_end
      | apply t_normal
      | (apply o_val; exact kc0; exact kc2)
      | apply w_skip
      | apply w_block
      | (apply w_false; exact kc3)
      | fail)
    apply loop_is
    apply loop_unfold
    repeat' (first
      | apply w_seq
      | apply w_region
      | apply o_end
      | apply t_normal
      | (apply o_add; exact kc0; exact kc2; rfl; exact kc2; rfl; exact ke2)
      | (apply o_val; exact kc0; exact kc2)
      | apply w_ret
      | apply w_exit
      | apply t_exit
      | apply b_here
      | (apply w_false; exact kc3)
      | fail)
    · apply f_retf
      · simp [*]; rfl
      · simp
      · rfl
  | un w k ih =>
    have h1 := ih (by simp only [depthT] at hd; omega)
    have hk : depthT k < 1000000 := by simp only [depthT] at hd; omega
    simp only [depthT]
    generalize depthT k = x at h1 hk
    refine fn_of_body L_ok (fn := Try.f32) rfl rfl rfl rfl (by kernel_rfl) ?_
    rw [treeD]
    have hm : (x : Int) ≤ 1000000 := by omega
    repeat' (first
      | apply w_seq
      | apply w_region
      | apply o_end
      | apply t_normal
      | (apply o_val; exact kc0; exact kc2)
      | apply w_skip
      | apply w_block
      | (apply w_false; exact kc3)
      | fail)
    apply loop_is
    apply loop_unfold
    repeat' (first
      | apply w_seq
      | apply w_region
      | apply o_end
      | apply t_normal
      | (apply o_add; exact kc0; exact kc2; rfl; exact kc2; rfl; exact ke2)
      | (apply o_val; exact kc0; exact kc2)
      | (apply o_fn fine; exact kc0; exact kc1; exact h1; exact kc3)
      | apply w_skip
      | apply w_block
      | apply b_normal
      | (apply w_true; exact kc3)
      | fail)
    apply loop_unfold
    repeat' (first
      | apply w_seq
      | apply w_region
      | apply o_end
      | apply t_normal
      | (apply o_add; exact kc0; exact kc2; rfl; exact kc2; rfl; exact ke2)
      | (apply o_val; exact kc0; exact kc2)
      | apply w_ret
      | apply w_exit
      | apply t_exit
      | apply b_here
      | (apply w_false; exact kc3)
      | fail)
    apply f_retf
    · simp [*]; rfl
    · simp
    · simp [*]; omega
  | bin w a b iha ihb =>
    have h1 := iha (by simp only [depthT] at hd; omega)
    have h2 := ihb (by simp only [depthT] at hd; omega)
    have hx : depthT a < 1000000 := by simp only [depthT] at hd; omega
    have hy : depthT b < 1000000 := by simp only [depthT] at hd; omega
    simp only [depthT]
    clear hd iha ihb
    generalize depthT a = x at h1 hx ⊢
    generalize depthT b = y at h2 hy ⊢
    refine fn_of_body L_ok (fn := Try.f32) rfl rfl rfl rfl (by kernel_rfl) ?_
    rw [treeD]
    have hm : (x : Int) ≤ 1000000 := by omega
    have hm2 : (y : Int) ≤ 1000000 := by omega
    repeat' (first
      | apply w_seq
      | apply w_region
      | apply o_end
      | apply t_normal
      | (apply o_val; exact kc0; exact kc2)
      | apply w_skip
      | apply w_block
      | (apply w_false; exact kc3)
      | fail)
    apply loop_is
    apply loop_unfold
    repeat' (first
      | apply w_seq
      | apply w_region
      | apply o_end
      | apply t_normal
      | (apply o_add; exact kc0; exact kc2; rfl; exact kc2; rfl; exact ke2)
      | (apply o_val; exact kc0; exact kc2)
      | (apply o_fn fine; exact kc0; exact kc1; exact h1; exact kc3)
      | apply w_skip
      | apply w_block
      | apply b_normal
      | (apply w_true; exact kc3)
      | fail)
    apply loop_unfold
    repeat' (first
      | apply w_seq
      | apply w_region
      | apply o_end
      | apply t_normal
      | (apply o_add; exact kc0; exact kc2; rfl; exact kc2; rfl; exact ke2)
      | (apply o_val; exact kc0; exact kc2)
      | (apply o_fn fine; exact kc0; exact kc1; exact h2; exact kc3)
      | apply w_skip
      | apply w_block
      | apply b_normal
      | (apply w_true; exact kc3)
      | fail)
    apply loop_unfold
    repeat' (first
      | apply w_seq
      | apply w_region
      | apply o_end
      | apply t_normal
      | (apply o_add; exact kc0; exact kc2; rfl; exact kc2; rfl; exact ke2)
      | (apply o_val; exact kc0; exact kc2)
      | apply w_ret
      | apply w_exit
      | apply t_exit
      | apply b_here
      | (apply w_false; exact kc3)
      | fail)
    apply f_retf
    · simp [*]; rfl
    · simp
    · simp [*]; repeat' split
      all_goals omega
end Go.Proofs.Ytknkkfdkcemolaa.Vm
end
section
/- Plain: what is read comes of the tokens: its texts, its size; how it is shown. -/
set_option linter.unusedSimpArgs false
set_option linter.unusedVariables false
namespace Go.Proofs.Ytknkkfdkcemolaa.Vm
open Go
variable {m : Int}

def sizeT : Tree → Nat
  | .leaf _ _ => 1
  | .un _ k => sizeT k + 1
  | .bin _ a b => sizeT a + sizeT b + 1
theorem depth_size (t : Tree) : depthT t ≤ sizeT t := by
  induction t with
  | leaf => exact Nat.le_refl _
  | un w k ih => simp only [depthT, sizeT]; omega
  | bin w a b iha ihb => simp only [depthT, sizeT]; omega
def allT (P : Tok → Prop) : Tree → Prop
  | .leaf w n => P w ∧ P n
  | .un w k => P w ∧ allT P k
  | .bin w a b => P w ∧ allT P a ∧ allT P b
def allI (P : Tok → Prop) (i : ItemT) : Prop := P i.word ∧ P i.name ∧ P i.of_ ∧ P i.caps ∧ P i.text ∧ (∀ a, a ∈ i.attrs → P a.word ∧ P a.arg) ∧ ∀ t, i.form = some t → allT P t
/-- What a list's elements hold to. -/
abbrev Each (P : Tok → Prop) (ts : List Tok) : Prop := ∀ t, t ∈ ts → P t
variable {P : Tok → Prop}
theorem takeP_all {e k : Nat} {t : Tok} {ts r : List Tok} (h : takeP e k ts = .ok (t, r)) (ha : Each P ts) : P t ∧ Each P r := by
  have := (takeP_len h).1
  subst this
  exact ⟨ha t (List.mem_cons_self ..), fun x hx => ha x (List.mem_cons_of_mem _ hx)⟩
theorem wantP_all {e k : Nat} {x : List UInt8} {t : Tok} {ts r : List Tok} (h : wantP e k x ts = .ok (t, r)) (ha : Each P ts) : P t ∧ Each P r := takeP_all (wantP_ok h).1 ha
theorem tail_all {ts : List Tok} (ha : Each P ts) : Each P ts.tail := fun x hx => ha x (List.mem_of_mem_tail hx)
theorem moreP_all {next : List Tok → PR Tree} {e : Nat} {word : List UInt8} (hn : ∀ ts t r, next ts = .ok (t, r) → Each P ts → allT P t ∧ Each P r ∧ sizeT t + r.length ≤ ts.length) : ∀ (k : Nat) (t : Tree) (ts : List Tok) (t' : Tree) (r : List Tok), moreP next e word k t ts = .ok (t', r) → Each P ts → allT P t →
    allT P t' ∧ Each P r ∧ sizeT t' + r.length ≤ sizeT t + ts.length := by
  intro k
  induction k with
  | zero => intro t ts t' r h; cases h
  | succ k ih =>
    intro t ts t' r h ha ht
    rw [moreP] at h
    split at h
    · split at h
      · cases h
      rename_i w r1 h1
      split at h
      · cases h
      rename_i b r2 h2
      obtain ⟨q1, q2⟩ := takeP_all h1 ha
      obtain ⟨q3, q4, q5⟩ := hn _ _ _ h2 q2
      obtain ⟨q6, q7, q8⟩ := ih _ _ _ _ h q4 ⟨q1, ht, q3⟩
      have := congrArg List.length (takeP_len h1).1
      simp only [List.length_cons, sizeT] at this q8
      exact ⟨q6, q7, by omega⟩
    · simp only [Except.ok.injEq, Prod.mk.injEq] at h
      obtain ⟨rfl, rfl⟩ := h
      exact ⟨ht, ha, Nat.le_refl _⟩
theorem formP_all (e : Nat) : ∀ (n l : Nat) (ts : List Tok) (t : Tree) (r : List Tok), formP e n l ts = .ok (t, r) → Each P ts → allT P t ∧ Each P r ∧ sizeT t + r.length ≤ ts.length := by
  intro n
  induction n with
  | zero => intro l ts t r h; cases l <;> cases h
  | succ n ih =>
    intro l ts t r
    have chain : ∀ l word, chainOf (formP e n l) e word ts = .ok (t, r) → Each P ts → allT P t ∧ Each P r ∧ sizeT t + r.length ≤ ts.length := by
      intro l word h ha
      unfold chainOf at h
      split at h
      · cases h
      rename_i t1 r1 h1
      obtain ⟨q1, q2, q3⟩ := ih l _ _ _ h1 ha
      obtain ⟨q4, q5, q6⟩ := moreP_all (ih l) _ _ _ _ _ h q2 q1
      exact ⟨q4, q5, by omega⟩
    have fac : formP e (n + 1) 0 ts = .ok (t, r) → Each P ts → allT P t ∧ Each P r ∧ sizeT t + r.length ≤ ts.length := by
      intro h ha
      rw [formP] at h
      case x_4 => decide
      case x_5 => decide
      split at h
      · rename_i hb
        obtain ⟨u, us, rfl, _⟩ := isP_take (e := e) hb
        split at h
        · cases h
        rename_i t1 r1 h1
        split at h
        · cases h
        rename_i y r2 h2
        simp only [Except.ok.injEq, Prod.mk.injEq] at h
        obtain ⟨rfl, rfl⟩ := h
        obtain ⟨q1, q2, q3⟩ := ih _ _ _ _ h1 (tail_all ha)
        obtain ⟨_, q5⟩ := wantP_all h2 q2
        have := wantP_le h2
        simp only [List.tail_cons, List.length_cons] at q3 ⊢
        exact ⟨q1, q5, by omega⟩
      · split at h
        · cases h
        rename_i w r1 h1
        obtain ⟨q1, q2⟩ := takeP_all h1 ha
        have hl := congrArg List.length (takeP_len h1).1
        simp only [List.length_cons] at hl
        split at h
        · split at h
          · cases h
          rename_i k r2 h2
          simp only [Except.ok.injEq, Prod.mk.injEq] at h
          obtain ⟨rfl, rfl⟩ := h
          obtain ⟨q3, q4, q5⟩ := ih _ _ _ _ h2 q2
          exact ⟨⟨q1, q3⟩, q4, by simp only [sizeT]; omega⟩
        · split at h
          · split at h
            · cases h
            rename_i x r2 h2
            simp only [Except.ok.injEq, Prod.mk.injEq] at h
            obtain ⟨rfl, rfl⟩ := h
            obtain ⟨q3, q4⟩ := takeP_all h2 q2
            have := takeP_le h2
            exact ⟨⟨q1, q3⟩, q4, by simp only [sizeT]; omega⟩
          · cases h
    intro h
    match l with
    | 0 => exact fac h
    | 1 => exact chain 0 _ h
    | 2 => exact chain 1 _ h
    | l + 3 => exact fac h
theorem argP_all {e : Nat} {t x : Tok} {r r2 : List Tok} (h : argP e t r = .ok (x, r2)) (ha : Each P r) (hz : P zeroTok) : P x ∧ Each P r2 := by
  unfold argP at h
  split at h
  · simp only [Except.ok.injEq, Prod.mk.injEq] at h
    obtain ⟨rfl, rfl⟩ := h
    exact ⟨hz, ha⟩
  split at h
  · exact takeP_all h ha
  split at h
  · split at h
    · exact takeP_all h ha
    · exact takeP_all h ha
  split at h
  · exact takeP_all h ha
  · cases h
theorem attrP_all {e : Nat} {ts r : List Tok} {a : AttrT} (h : attrP e ts = .ok (a, r)) (ha : Each P ts) (hz : P zeroTok) : (P a.word ∧ P a.arg) ∧ Each P r := by
  unfold attrP at h
  split at h
  · cases h
  rename_i t r1 h1
  split at h
  · cases h
  rename_i x r2 h2
  split at h
  · cases h
  rename_i y r3 h3
  simp only [Except.ok.injEq, Prod.mk.injEq] at h
  obtain ⟨rfl, rfl⟩ := h
  obtain ⟨q1, q2⟩ := takeP_all h1 ha
  obtain ⟨q3, q4⟩ := argP_all h2 q2 hz
  exact ⟨⟨q1, q3⟩, (wantP_all h3 q4).2⟩
theorem placedP_all {e : Nat} {ts r : List Tok} {p : Tok × Tok} (h : placedP e ts = .ok (p, r)) (ha : Each P ts) : (P p.1 ∧ P p.2) ∧ Each P r := by
  unfold placedP at h
  split at h
  · cases h
  rename_i n r1 h1
  split at h
  · cases h
  rename_i y r2 h2
  split at h
  · cases h
  rename_i o r3 h3
  simp only [Except.ok.injEq, Prod.mk.injEq] at h
  obtain ⟨rfl, rfl⟩ := h
  obtain ⟨q1, q2⟩ := takeP_all h1 ha
  obtain ⟨_, q4⟩ := wantP_all h2 q2
  obtain ⟨q5, q6⟩ := takeP_all h3 q4
  exact ⟨⟨q1, q5⟩, q6⟩
theorem attrsP_all {e : Nat} (hz : P zeroTok) : ∀ {k : Nat} {out l : List AttrT} {ts r : List Tok}, attrsP e k out ts = .ok (l, r) → Each P ts → (∀ a, a ∈ out → P a.word ∧ P a.arg) → (∀ a, a ∈ l → P a.word ∧ P a.arg) ∧ Each P r ∧ l.length + r.length ≤ out.length + ts.length
  | 0, _, _, _, _, h => by cases h
  | k + 1, out, l, ts, r, h => by
    intro ha ho
    rw [attrsP] at h
    split at h
    · simp only [Except.ok.injEq, Prod.mk.injEq] at h
      obtain ⟨rfl, rfl⟩ := h
      exact ⟨ho, tail_all ha, by simp⟩
    · obtain ⟨a, r1, h1, h2⟩ := andP_ok h
      obtain ⟨q1, q2⟩ := attrP_all h1 ha hz
      obtain ⟨q3, q4, q5⟩ := attrsP_all hz h2 q2 (fun x hx => by
        rcases List.mem_append.1 hx with hx | hx
        · exact ho x hx
        · obtain rfl := List.mem_singleton.1 hx
          exact q1)
      have := attrP_len h1
      simp only [List.length_append, List.length_singleton] at q5
      exact ⟨q3, q4, by omega⟩
def sizeI (i : ItemT) : Nat := i.attrs.length + (match i.form with
  | none => 0
  | some t => sizeT t)
theorem itemK_all {e : Nat} {w : Tok} {ts r : List Tok} {i : ItemT} (h : itemK e w ts = .ok (i, r)) (hw : P w) (ha : Each P ts) (hz : P zeroTok) : allI P i ∧ Each P r ∧ sizeI i + r.length ≤ ts.length := by
  have hno : ∀ a, a ∈ ([] : List AttrT) → P a.word ∧ P a.arg := fun a h => by cases h
  have hnf : ∀ t, (none : Option Tree) = some t → allT P t := fun t h => by cases h
  unfold itemK at h
  split at h
  · obtain ⟨a1, r1, h1, h⟩ := andP_ok h
    obtain ⟨a2, r2, h2, h⟩ := andP_ok h
    obtain ⟨a3, r3, h3, h⟩ := andP_ok h
    simp only [Except.ok.injEq, Prod.mk.injEq] at h
    obtain ⟨rfl, rfl⟩ := h
    obtain ⟨q1, q2⟩ := takeP_all h1 ha
    obtain ⟨q3, q4⟩ := takeP_all h2 q2
    have := takeP_le h1; have := takeP_le h2; have := wantP_le h3
    exact ⟨⟨hw, q1, hz, hz, q3, hno, hnf⟩, (wantP_all h3 q4).2, by simp only [sizeI, List.length_nil]; omega⟩
  split at h
  · obtain ⟨a1, r1, h1, h⟩ := andP_ok h
    obtain ⟨a2, r2, h2, h⟩ := andP_ok h
    obtain ⟨a3, r3, h3, h⟩ := andP_ok h
    simp only [Except.ok.injEq, Prod.mk.injEq] at h
    obtain ⟨rfl, rfl⟩ := h
    obtain ⟨q1, q2⟩ := placedP_all h1 ha
    obtain ⟨q3, q4⟩ := takeP_all h2 q2
    have := placedP_len h1; have := takeP_le h2; have := wantP_le h3
    exact ⟨⟨hw, q1.1, q1.2, hz, q3, hno, hnf⟩, (wantP_all h3 q4).2, by simp only [sizeI, List.length_nil]; omega⟩
  split at h
  · obtain ⟨a1, r1, h1, h⟩ := andP_ok h
    obtain ⟨a3, r3, h3, h⟩ := andP_ok h
    simp only [Except.ok.injEq, Prod.mk.injEq] at h
    obtain ⟨rfl, rfl⟩ := h
    obtain ⟨q1, q2⟩ := takeP_all h1 ha
    have := takeP_le h1; have := wantP_le h3
    exact ⟨⟨hw, q1, hz, hz, hz, hno, hnf⟩, (wantP_all h3 q2).2, by simp only [sizeI, List.length_nil]; omega⟩
  split at h
  · obtain ⟨a3, r3, h3, h⟩ := andP_ok h
    simp only [Except.ok.injEq, Prod.mk.injEq] at h
    obtain ⟨rfl, rfl⟩ := h
    have := wantP_le h3
    exact ⟨⟨hw, hz, hz, hz, hz, hno, hnf⟩, (wantP_all h3 ha).2, by simp only [sizeI, List.length_nil]; omega⟩
  split at h
  · obtain ⟨a1, r1, h1, h⟩ := andP_ok h
    obtain ⟨a2, r2, h2, h⟩ := andP_ok h
    obtain ⟨a3, r3, h3, h⟩ := andP_ok h
    obtain ⟨a4, r4, h4, h⟩ := andP_ok h
    simp only [Except.ok.injEq, Prod.mk.injEq] at h
    obtain ⟨rfl, rfl⟩ := h
    obtain ⟨q1, q2⟩ := takeP_all h1 ha
    obtain ⟨_, q4⟩ := wantP_all h2 q2
    obtain ⟨q5, q6, q7⟩ := formP_all _ _ _ _ _ _ h3 q4
    have := takeP_le h1; have := wantP_le h2; have := wantP_le h4
    refine ⟨⟨hw, q1, hz, hz, hz, hno, fun t ht => ?_⟩, (wantP_all h4 q6).2, by simp only [sizeI, List.length_nil]; omega⟩
    obtain rfl := Option.some.inj ht
    exact q5
  split at h
  · obtain ⟨a1, r1, h1, h⟩ := andP_ok h
    obtain ⟨a2, r2, h2, h⟩ := andP_ok h
    obtain ⟨a3, r3, h3, h⟩ := andP_ok h
    obtain ⟨a4, r4, h4, h⟩ := andP_ok h
    obtain ⟨a5, r5, h5, h⟩ := andP_ok h
    simp only [Except.ok.injEq, Prod.mk.injEq] at h
    obtain ⟨rfl, rfl⟩ := h
    obtain ⟨q1, q2⟩ := placedP_all h1 ha
    obtain ⟨q3, q4⟩ := takeP_all h2 q2
    obtain ⟨q5, q6⟩ := takeP_all h3 q4
    obtain ⟨_, q7⟩ := wantP_all h4 q6
    obtain ⟨q8, q9, q10⟩ := attrsP_all hz h5 q7 hno
    have := placedP_len h1; have := takeP_le h2; have := takeP_le h3; have := wantP_le h4
    simp only [List.length_nil] at q10
    exact ⟨⟨hw, q1.1, q1.2, q3, q5, q8, hnf⟩, q9, by simp only [sizeI]; omega⟩
  · cases h
theorem itemP_all {e : Nat} {ts r : List Tok} {i : ItemT} (h : itemP e ts = .ok (i, r)) (ha : Each P ts) (hz : P zeroTok) : allI P i ∧ Each P r ∧ sizeI i + r.length < ts.length := by
  unfold itemP at h
  obtain ⟨a1, r1, h1, h⟩ := andP_ok h
  obtain ⟨q1, q2⟩ := takeP_all h1 ha
  obtain ⟨q3, q4, q5⟩ := itemK_all h q1 q2 hz
  have := congrArg List.length (takeP_len h1).1
  simp only [List.length_cons] at this
  exact ⟨q3, q4, by omega⟩
def sizeL : List ItemT → Nat
  | [] => 0
  | i :: l => sizeI i + 1 + sizeL l
theorem sizeL_app (a b : List ItemT) : sizeL (a ++ b) = sizeL a + sizeL b := by
  induction a with
  | nil => simp [sizeL]
  | cons i a ih => simp only [List.cons_append, sizeL, ih]; omega
theorem itemsP_all {e : Nat} (hz : P zeroTok) : ∀ {k : Nat} {out l : List ItemT} {ts : List Tok}, itemsP e k out ts = .ok l → Each P ts → (∀ i, i ∈ out → allI P i) → (∀ i, i ∈ l → allI P i) ∧ sizeL l ≤ sizeL out + ts.length
  | 0, _, _, _, h => by cases h
  | k + 1, out, l, [], h => by
    intro _ ho
    rw [itemsP] at h
    obtain rfl := Except.ok.inj h
    exact ⟨ho, by simp⟩
  | k + 1, out, l, t :: r, h => by
    intro ha ho
    rw [itemsP] at h
    split at h
    · cases h
    · rename_i i r2 h1
      obtain ⟨q1, q2, q3⟩ := itemP_all h1 ha hz
      obtain ⟨q4, q5⟩ := itemsP_all hz h q2 (fun x hx => by
        rcases List.mem_append.1 hx with hx | hx
        · exact ho x hx
        · obtain rfl := List.mem_singleton.1 hx
          exact q1)
      rw [sizeL_app] at q5
      simp only [sizeL] at q5
      exact ⟨q4, by omega⟩
theorem sizeL_mem {l : List ItemT} {i : ItemT} (h : i ∈ l) : sizeI i < sizeL l := by
  induction l with
  | nil => cases h
  | cons j l ih =>
    simp only [sizeL]
    rcases List.mem_cons.1 h with rfl | h
    · omega
    · have := ih h; omega
theorem sizeL_len (l : List ItemT) : l.length ≤ sizeL l := by
  induction l with
  | nil => exact Nat.le_refl _
  | cons j l ih => simp only [sizeL, List.length_cons]; omega
/-- Tokens are few, and lie in the text. -/
theorem tok_text (s : List UInt8) : (tok s).2.1.length ≤ s.length := by
  cases s with
  | nil => simp [tok]
  | cons c r =>
    unfold tok
    simp only
    repeat' split
    all_goals simp
    all_goals omega
theorem toksF_all (n : Nat) : ∀ (k : Nat) (s : List UInt8) (a : Nat) (out : List Tok), s.length ≤ n → out.length ≤ 2000 → (∀ t, t ∈ out → t.text.length ≤ n) → (toksF k s a out).1.length ≤ 2000 ∧ ∀ t, t ∈ (toksF k s a out).1 → t.text.length ≤ n := by
  intro k
  induction k with
  | zero => intro s a out _ ho ht; exact ⟨ho, ht⟩
  | succ k ih =>
    intro s a out hs ho ht
    cases s with
    | nil => rw [toksF_nil]; exact ⟨ho, ht⟩
    | cons c r =>
      by_cases h1 : (tok (c :: r)).2.2.2 = 0
      · by_cases h2 : out.length = 2000
        · rw [toksF_many h1 h2]; simp
        · rw [toksF_more h1 h2]
          refine ih _ _ _ ?_ ?_ ?_
          · simp only [List.length_drop, List.length_cons] at hs ⊢; omega
          · simp; omega
          · intro t hm
            rcases List.mem_append.1 hm with hm | hm
            · exact ht t hm
            · obtain rfl := List.mem_singleton.1 hm
              exact Nat.le_trans (tok_text _) hs
      · rw [toksF_wrong h1]; simp
theorem toks_all (s : List UInt8) : (toks s).1.length ≤ 2000 ∧ ∀ t, t ∈ (toks s).1 → t.text.length ≤ 8000 := by
  unfold toks
  split
  · simp
  · exact toksF_all 8000 _ _ _ _ (by simp; omega) (by simp) (by simp)
/-! ### a description -/
def depthO : Option Tree → Nat
  | none => 0
  | some t => depthT t
def deepL (l : List ItemT) : Bool := l.any fun i => decide (16 < depthO i.form)
/-- What a text is read to: the items, what is wrong, where. -/
def readP (s : List UInt8) : List ItemT × Nat × Nat :=
  if (toks s).2.1 ≠ 0 then ([], (toks s).2.1, (toks s).2.2)
  else match itemsP s.length ((toks s).1.length + 1) [] (toks s).1 with
    | .error a => ([], 4, a)
    | .ok l => if deepL l then ([], 5, 0) else (l, 0, 0)
theorem readP_all (s : List UInt8) : (∀ i, i ∈ (readP s).1 → allI (fun t => t.text.length ≤ 8000) i) ∧ sizeL (readP s).1 ≤ 2000 := by
  unfold readP
  have h0 := toks_all s
  split
  · simp [sizeL]
  split
  · simp [sizeL]
  · rename_i l hl
    have h1 := itemsP_all (P := fun t => t.text.length ≤ 8000) (by simp [zeroTok]) hl h0.2 (fun i h => by cases h)
    split
    · simp [sizeL]
    · refine ⟨h1.1, ?_⟩
      have := h1.2
      simp only [sizeL] at this
      simp only
      omega
/-! ### how it is shown -/
def quotS (t : Tok) : List UInt8 := if t.kind = 3 then 34 :: t.text ++ [34] else t.text
def attrS (a : AttrT) : List UInt8 := if a.arg.kind = 0 then a.word.text else a.word.text ++ 32 :: quotS a.arg
def treeS : Tree → List UInt8
  | .leaf w n => 40 :: w.text ++ (if n.kind = 0 then [] else 32 :: n.text) ++ [41]
  | .un w k => 40 :: w.text ++ 32 :: treeS k ++ [41]
  | .bin w a b => 40 :: w.text ++ 32 :: treeS a ++ 32 :: treeS b ++ [41]
def wordsS (i : ItemT) : List (List UInt8) :=
  if i.word.text = [111, 114, 105, 103, 105, 110] then [[111, 114, 105, 103, 105, 110], i.name.text, quotS i.text]
  else if i.word.text = [99, 111, 111, 107, 105, 101] then [[99, 111, 111, 107, 105, 101], i.name.text, [97, 116], i.of_.text, quotS i.text]
  else if i.word.text = [101, 110, 100, 112, 111, 105, 110, 116] then [[101, 110, 100, 112, 111, 105, 110, 116], i.name.text, [97, 116], i.of_.text, i.caps.text, quotS i.text]
  else if i.word.text = [110, 101, 116, 119, 111, 114, 107] then [[110, 101, 116, 119, 111, 114, 107]]
  else [i.word.text, i.name.text]
def attrsS (l : List AttrT) : List UInt8 := (l.map fun a => 32 :: 40 :: attrS a ++ [41]).flatten
def lineS (i : ItemT) : List UInt8 := Lib.join (wordsS i) [32] ++ attrsS i.attrs ++ (match i.form with
  | none => []
  | some t => 32 :: treeS t) ++ [10]
def dumpS (l : List ItemT) : List UInt8 := (l.map lineS).flatten
theorem treeS_len {t : Tree} (h : allT (fun t => t.text.length ≤ 8000) t) : (treeS t).length ≤ sizeT t * 16010 := by
  induction t with
  | leaf w n =>
    have h1 := h.1; have h2 := h.2
    simp only at h1 h2
    simp only [treeS, sizeT]
    split <;> simp <;> omega
  | un w k ih =>
    have h1 := h.1
    simp only at h1
    have := ih h.2
    simp only [treeS, sizeT, List.length_append, List.length_cons, List.length_nil]
    omega
  | bin w a b iha ihb =>
    have h1 := h.1
    simp only at h1
    have := iha h.2.1
    have := ihb h.2.2
    simp only [treeS, sizeT, List.length_append, List.length_cons, List.length_nil]
    omega
theorem quotS_len {t : Tok} (h : t.text.length ≤ 8000) : (quotS t).length ≤ 8002 := by
  unfold quotS
  split
  · simp; omega
  · omega
theorem attrS_len {a : AttrT} (h : a.word.text.length ≤ 8000 ∧ a.arg.text.length ≤ 8000) : (attrS a).length ≤ 16010 := by
  have := quotS_len h.2
  have := h.1
  unfold attrS
  split
  · omega
  · simp; omega
theorem attrsS_len {l : List AttrT} (h : ∀ a, a ∈ l → a.word.text.length ≤ 8000 ∧ a.arg.text.length ≤ 8000) : (attrsS l).length ≤ l.length * 16020 := by
  induction l with
  | nil => simp [attrsS]
  | cons a l ih =>
    have h1 := attrS_len (h a (List.mem_cons_self ..))
    have h2 := ih fun x hx => h x (List.mem_cons_of_mem _ hx)
    simp only [attrsS, List.map_cons, List.flatten_cons, List.length_append, List.length_cons, List.length_nil] at h2 ⊢
    omega
end Go.Proofs.Ytknkkfdkcemolaa.Vm
end
