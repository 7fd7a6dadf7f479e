/- Plain facts for lex: what tokens are. No program in sight. -/
import Derived.Test.YtkeanadlfkfglaaVmR
set_option linter.unusedSimpArgs false
set_option linter.unusedVariables false
namespace Go.Proofs.Ytkeanadlfkfglaa.Vm
open Go
variable {m : Int}

/-- How many bytes at the beginning fulfil p. -/
def runL (p : UInt8 → Bool) (s : List UInt8) : Nat := (s.takeWhile p).length
theorem runL_le (p : UInt8 → Bool) (s : List UInt8) : runL p s ≤ s.length := by
  unfold runL
  exact (List.takeWhile_sublist p).length_le
theorem runL_all (p : UInt8 → Bool) (s : List UInt8) : ∀ x, x ∈ s.take (runL p s) → p x = true := by
  induction s with
  | nil => simp [runL]
  | cons a s ih =>
    intro x hx
    by_cases h : p a = true
    · simp only [runL, List.takeWhile_cons, h, if_true, List.length_cons, List.take_succ_cons, List.mem_cons] at hx
      rcases hx with rfl | hx
      · exact h
      · exact ih x hx
    · simp [runL, List.takeWhile_cons, h] at hx
theorem runL_here (p : UInt8 → Bool) (s : List UInt8) (n : Nat) (hn : n ≤ s.length) (h : ∀ i (hi : i < s.length), i < n → p (s[i]'hi) = true) (he : ∀ (hi : n < s.length), p (s[n]'hi) = false) : runL p s = n := by
  induction s generalizing n with
  | nil => simp at hn; subst hn; rfl
  | cons a s ih =>
    cases n with
    | zero =>
      have := he (by simp)
      simp at this
      simp [runL, List.takeWhile_cons, this]
    | succ n =>
      have h0 := h 0 (by simp) (by omega)
      simp at h0
      have := ih n (by simpa using hn) (fun i hi hlt => h (i + 1) (by simpa using hi) (by omega)) (fun hi => he (by simpa using hi))
      simp only [runL, List.takeWhile_cons, h0, if_true, List.length_cons]
      rw [← this]
      rfl

/-- Is it that byte? -/
abbrev isB (c : UInt8) (n : Int) : Bool := (c.toNat : Int) == n
def isWs (b : UInt8) : Bool := isB b 32 || isB b 9 || isB b 10 || isB b 13
def notNl (c : UInt8) : Bool := !isB c 10
/-- How many bytes stand ahead of the next token; c: within a comment? -/
def gapS : Bool → List UInt8 → Nat
  | _, [] => 0
  | false, b :: r => if isWs b then gapS false r + 1 else if isB b 35 then gapS true r + 1 else 0
  | true, b :: r => if isB b 10 then gapS false r + 1 else gapS true r + 1
def gapN (s : List UInt8) : Nat := gapS false s
theorem gapS_le (c : Bool) (s : List UInt8) : gapS c s ≤ s.length := by
  induction s generalizing c with
  | nil => cases c <;> simp [gapS]
  | cons b r ih =>
    cases c with
    | false =>
      unfold gapS
      split
      · have := ih false; simp; omega
      · split
        · have := ih true; simp; omega
        · simp
    | true =>
      unfold gapS
      split
      · have := ih false; simp; omega
      · have := ih true; simp; omega
theorem gapN_le (s : List UInt8) : gapN s ≤ s.length := gapS_le false s
theorem gapS_true (s : List UInt8) : gapS true s = runL notNl s + gapN (s.drop (runL notNl s)) := by
  induction s with
  | nil => rfl
  | cons b r ih =>
    by_cases h : isB b 10 = true
    · have h1 : notNl b = false := by simp [notNl, h]
      have h2 : isWs b = true := by simp [isWs, h]
      simp [gapS, runL, gapN, h, h1, h2, List.takeWhile_cons]
    · have h' : isB b 10 = false := by simpa using h
      have h1 : notNl b = true := by simp [notNl, h']
      simp only [gapS, h', if_false, Bool.false_eq_true, runL, List.takeWhile_cons, h1, if_true, List.length_cons, List.drop_succ_cons]
      rw [ih]
      unfold runL
      omega
theorem gapN_ws {s : List UInt8} {b : UInt8} {r : List UInt8} (h : s = b :: r) (hb : isWs b = true) : gapN s = gapN r + 1 := by
  subst h
  simp only [gapN, gapS, hb, if_true]
theorem gapN_sharp {s : List UInt8} {b : UInt8} {r : List UInt8} (h : s = b :: r) (h1 : isWs b = false) (h2 : isB b 35 = true) : gapN s = runL notNl s + gapN (s.drop (runL notNl s)) := by
  have h3 : isB b 10 = false := by
    simp only [isWs, Bool.or_eq_false_iff] at h1
    exact h1.1.2
  have h4 : gapN s = gapS true s := by
    subst h
    simp only [gapN, gapS, h1, h2, h3, if_true, if_false, Bool.false_eq_true]
  rw [h4, gapS_true]
theorem gapN_none {s : List UInt8} {b : UInt8} {r : List UInt8} (h : s = b :: r) (h1 : isWs b = false) (h2 : isB b 35 = false) : gapN s = 0 := by
  subst h
  simp only [gapN, gapS, h1, h2, if_false, Bool.false_eq_true]

def isSmall (c : UInt8) : Bool := decide ((97 : Int) ≤ c.toNat) && decide ((c.toNat : Int) ≤ 122)
def isInner (c : UInt8) : Bool := isSmall c || decide ((48 : Int) ≤ c.toNat) && decide ((c.toNat : Int) ≤ 57) || isB c 95
def isCap (c : UInt8) : Bool := decide ((65 : Int) ≤ c.toNat) && decide ((c.toNat : Int) ≤ 90)
def isQuoted (c : UInt8) : Bool := decide ((32 : Int) ≤ c.toNat) && decide ((c.toNat : Int) ≤ 126) && !isB c 34
def isSign (c : UInt8) : Bool := isB c 123 || isB c 125 || isB c 40 || isB c 41 || isB c 59 || isB c 61
def wordsL : List (List UInt8) := [[111, 114, 105, 103, 105, 110], [99, 111, 111, 107, 105, 101], [115, 101, 99, 114, 101, 116], [101, 110, 100, 112, 111, 105, 110, 116], [112, 114, 111, 112, 101, 114, 116, 121], [110, 101, 116, 119, 111, 114, 107], [97, 116], [112, 97, 103, 101], [105, 110, 106, 101, 99, 116], [115, 99, 114, 105, 112, 116], [110, 101, 101, 100, 115], [104, 101, 97, 100, 101, 114], [111, 119, 110], [115, 101, 116, 115], [103, 105, 118, 101, 115], [99, 104, 97, 110, 103, 101, 115], [114, 101, 100, 105, 114, 101, 99, 116], [111, 112, 101, 110], [99, 111, 114, 115], [97, 110, 121], [99, 114, 101, 100, 101, 110, 116, 105, 97, 108, 115], [97, 108, 108, 111, 119], [109, 101, 116, 104, 111, 100, 115], [99, 115, 112], [97, 110, 100], [111, 114], [110, 111, 116], [99, 104, 97, 110, 103, 101, 100], [102, 111, 114, 103, 101, 100], [107, 110, 111, 119, 115], [115, 116, 111, 108, 101, 110], [114, 97, 110]]
def isWord (s : List UInt8) : Bool := wordsL.any fun w => w == s

/-- The token that a text begins with: kind, text, how many bytes, what is wrong. -/
def tok (s : List UInt8) : Nat × List UInt8 × Nat × Nat :=
  match s with
  | [] => (0, [], 0, 0)
  | c :: _ =>
    if isSmall c then (if isWord (s.take (runL isInner s)) then 2 else 1, s.take (runL isInner s), runL isInner s, if 20 < runL isInner s then 6 else 0)
    else if isCap c then (5, s.take (runL isCap s), runL isCap s, if 20 < runL isCap s then 6 else 0)
    else if isB c 34 then
      if runL isQuoted (s.drop 1) + 1 == s.length || !isB (s.getD (runL isQuoted (s.drop 1) + 1) 0) 34 then (0, [], 0, 3)
      else (3, (s.take (runL isQuoted (s.drop 1) + 1)).drop 1, runL isQuoted (s.drop 1) + 2, if 200 < runL isQuoted (s.drop 1) then 6 else 0)
    else if isSign c then (4, s.take 1, 1, 0)
    else (0, [], 0, 3)
structure Tok where
  kind : Nat
  at_ : Nat
  text : List UInt8
/-- From a place on, where a token begins or the text ends: the tokens, or what is wrong, and where. -/
def toksF : Nat → List UInt8 → Nat → List Tok → List Tok × Nat × Nat
  | 0, _, _, out => (out, 0, 0)
  | k + 1, s, at_, out => match s with
    | [] => (out, 0, 0)
    | _ :: _ =>
      if (tok s).2.2.2 ≠ 0 then ([], (tok s).2.2.2, at_)
      else if out.length = 2000 then ([], 6, at_)
      else toksF k ((s.drop (tok s).2.2.1).drop (gapN (s.drop (tok s).2.2.1))) (at_ + (tok s).2.2.1 + gapN (s.drop (tok s).2.2.1)) (out ++ [⟨(tok s).1, at_, (tok s).2.1⟩])
def toks (s : List UInt8) : List Tok × Nat × Nat := if 8000 < s.length then ([], 6, 0) else toksF s.length (s.drop (gapN s)) (gapN s) []

theorem runL_pos {p : UInt8 → Bool} {c : UInt8} {r : List UInt8} (h : p c = true) : 0 < runL p (c :: r) := by
  simp [runL, List.takeWhile_cons, h]
theorem inner_of_small {c : UInt8} (h : isSmall c = true) : isInner c = true := by simp [isInner, h]
/-- A token has a byte at least, and no more than there are. -/
theorem tok_len {s : List UInt8} (hs : s ≠ []) (h : (tok s).2.2.2 = 0) : 0 < (tok s).2.2.1 ∧ (tok s).2.2.1 ≤ s.length := by
  cases s with
  | nil => exact absurd rfl hs
  | cons c r =>
    unfold tok at h ⊢
    simp only at h ⊢
    split
    · rename_i h1
      exact ⟨runL_pos (inner_of_small h1), runL_le _ _⟩
    · rename_i h1
      rw [if_neg h1] at h
      split
      · rename_i h2
        exact ⟨runL_pos h2, runL_le _ _⟩
      · rename_i h2
        rw [if_neg h2] at h
        split
        · rename_i h3
          rw [if_pos h3] at h
          split
          · rename_i h4
            rw [if_pos h4] at h
            simp at h
          · rename_i h4
            simp only [Bool.or_eq_true, beq_iff_eq, not_or] at h4
            have := runL_le isQuoted ((c :: r).drop 1)
            simp only [List.drop_succ_cons, List.drop_zero, List.length_cons] at this h4 ⊢
            omega
        · rename_i h3
          rw [if_neg h3] at h
          split
          · simp
          · rename_i h4
            rw [if_neg h4] at h
            simp at h
theorem toksF_nil (k at_ : Nat) (out : List Tok) : toksF k [] at_ out = (out, 0, 0) := by cases k <;> rfl
theorem toksF_wrong {k : Nat} {c : UInt8} {r : List UInt8} {at_ : Nat} {out : List Tok} (h : (tok (c :: r)).2.2.2 ≠ 0) : toksF (k + 1) (c :: r) at_ out = ([], (tok (c :: r)).2.2.2, at_) := by
  rw [toksF, if_pos h]
theorem toksF_many {k : Nat} {c : UInt8} {r : List UInt8} {at_ : Nat} {out : List Tok} (h : (tok (c :: r)).2.2.2 = 0) (ho : out.length = 2000) : toksF (k + 1) (c :: r) at_ out = ([], 6, at_) := by
  rw [toksF, if_neg (by simpa using h), if_pos ho]
theorem toksF_more {k : Nat} {c : UInt8} {r : List UInt8} {at_ : Nat} {out : List Tok} (h : (tok (c :: r)).2.2.2 = 0) (ho : out.length ≠ 2000) : toksF (k + 1) (c :: r) at_ out =
    toksF k (((c :: r).drop (tok (c :: r)).2.2.1).drop (gapN ((c :: r).drop (tok (c :: r)).2.2.1))) (at_ + (tok (c :: r)).2.2.1 + gapN ((c :: r).drop (tok (c :: r)).2.2.1)) (out ++ [⟨(tok (c :: r)).1, at_, (tok (c :: r)).2.1⟩]) := by
  rw [toksF, if_neg (by simpa using h), if_neg ho]
end Go.Proofs.Ytkeanadlfkfglaa.Vm
