/- Plain facts for lex: tokens one by one. -/
import Derived.Test.YtkeanadlfkfglaaLxA
set_option linter.unusedSimpArgs false
set_option linter.unusedVariables false
namespace Go.Proofs.Ytkeanadlfkfglaa.Vm
open Go
variable {m : Int}

theorem toksF_fuel : ∀ (k : Nat) (s : List UInt8) (a : Nat) (out : List Tok), s.length ≤ k → toksF k s a out = toksF s.length s a out := by
  intro k
  induction k using Nat.strongRecOn with
  | ind k ih =>
    intro s a out hk
    cases s with
    | nil => cases k <;> rfl
    | cons c r =>
      obtain ⟨k, rfl⟩ : ∃ j, k = j + 1 := ⟨k - 1, by simp at hk; omega⟩
      simp only [List.length_cons] at hk ⊢
      by_cases he : (tok (c :: r)).2.2.2 = 0
      · by_cases ho : out.length = 2000
        · rw [toksF_many he ho, toksF_many he ho]
        · rw [toksF_more he ho, toksF_more he ho]
          have hl := tok_len (s := c :: r) (by simp) he
          have h1 : (((c :: r).drop (tok (c :: r)).2.2.1).drop (gapN ((c :: r).drop (tok (c :: r)).2.2.1))).length ≤ r.length := by
            simp only [List.length_drop, List.length_cons] at hl ⊢
            omega
          rw [ih k (by omega) _ _ _ (by omega)]
          by_cases hkr : k = r.length
          · subst hkr
            rw [ih r.length (by omega) _ _ _ h1]
          · rw [ih r.length (by omega) _ _ _ h1]
      · rw [toksF_wrong he, toksF_wrong he]
/-- The tokens from a place on. -/
def toksT (s : List UInt8) (a : Nat) (out : List Tok) : List Tok × Nat × Nat := toksF s.length s a out
theorem toksT_nil (a : Nat) (out : List Tok) : toksT [] a out = (out, 0, 0) := rfl
theorem toksT_step {s : List UInt8} {a : Nat} {out : List Tok} {kd n : Nat} {tx : List UInt8} (hs : s ≠ []) (ht : tok s = (kd, tx, n, 0)) (ho : out.length ≠ 2000) :
    toksT s a out = toksT ((s.drop n).drop (gapN (s.drop n))) (a + n + gapN (s.drop n)) (out ++ [⟨kd, a, tx⟩]) := by
  cases s with
  | nil => exact absurd rfl hs
  | cons c r =>
    have he : (tok (c :: r)).2.2.2 = 0 := by rw [ht]
    have hl := tok_len (s := c :: r) (by simp) he
    unfold toksT
    simp only [List.length_cons]
    rw [toksF_more he ho, toksF_fuel]
    · rw [ht]
    · rw [ht] at hl ⊢
      simp only [List.length_drop, List.length_cons] at hl ⊢
      omega
theorem toksT_wrong {s : List UInt8} {a : Nat} {out : List Tok} {e : Nat} (hs : s ≠ []) (ht : (tok s).2.2.2 = e) (he : e ≠ 0) : toksT s a out = ([], e, a) := by
  cases s with
  | nil => exact absurd rfl hs
  | cons c r =>
    unfold toksT
    simp only [List.length_cons]
    rw [toksF_wrong (by rw [ht]; exact he), ht]
theorem toks_T {s : List UInt8} (h : s.length ≤ 8000) : toks s = toksT (s.drop (gapN s)) (gapN s) [] := by
  unfold toks toksT
  rw [if_neg (by omega), toksF_fuel]
  simp
/-- What comes of the tokens from a place on. -/
theorem toksT_is : ∀ (n : Nat) (s : List UInt8) (a : Nat) (out : List Tok), s.length ≤ n →
    ((toksT s a out).2.1 ≠ 0 ∧ (toksT s a out).1 = [] ∧ a ≤ (toksT s a out).2.2) ∨ ((toksT s a out).2.1 = 0 ∧ out.length ≤ (toksT s a out).1.length ∧ (s ≠ [] → out.length < (toksT s a out).1.length)) := by
  intro n
  induction n with
  | zero =>
    intro s a out hs
    obtain rfl : s = [] := List.eq_nil_of_length_eq_zero (by omega)
    exact .inr ⟨rfl, Nat.le_refl _, fun h => absurd rfl h⟩
  | succ n ih =>
    intro s a out hs
    cases s with
    | nil => exact .inr ⟨rfl, Nat.le_refl _, fun h => absurd rfl h⟩
    | cons c r =>
      by_cases he : (tok (c :: r)).2.2.2 = 0
      · by_cases ho : out.length = 2000
        · refine .inl ?_
          unfold toksT
          simp only [List.length_cons]
          rw [toksF_many he ho]
          exact ⟨(fun h => nomatch h), rfl, Nat.le_refl _⟩
        · have hl := tok_len (s := c :: r) (by simp) he
          generalize hT : tok (c :: r) = T at he hl
          obtain ⟨kd, tx, m, e⟩ := T
          obtain rfl : e = 0 := he
          rw [toksT_step (by simp) hT ho]
          rcases ih (((c :: r).drop m).drop (gapN ((c :: r).drop m))) (a + m + gapN ((c :: r).drop m)) (out ++ [⟨kd, a, tx⟩]) (by simp only [List.length_drop, List.length_cons] at hs hl ⊢; omega) with ⟨h1, h2, h3⟩ | ⟨h1, h2, h3⟩
          · exact .inl ⟨h1, h2, by omega⟩
          · rw [List.length_append, List.length_singleton] at h2
            exact .inr ⟨h1, by omega, fun _ => by omega⟩
      · rw [toksT_wrong (by simp) rfl he]
        exact .inl ⟨he, rfl, Nat.le_refl _⟩

theorem runL_app {p : UInt8 → Bool} {x y : List UInt8} (hx : ∀ c, c ∈ x → p c = true) (hy : ∀ c, y.head? = some c → p c = false) : runL p (x ++ y) = x.length := by
  induction x with
  | nil =>
    cases y with
    | nil => rfl
    | cons c y =>
      have := hy c rfl
      simp [runL, List.takeWhile_cons, this]
  | cons a x ih =>
    have ha := hx a (List.mem_cons_self ..)
    have := ih fun c hc => hx c (List.mem_cons_of_mem _ hc)
    simp only [runL, List.cons_append, List.takeWhile_cons, ha, if_true, List.length_cons] at this ⊢
    omega
theorem small_not_cap {c : UInt8} (h : isSmall c = true) : isCap c = false := by
  simp only [isSmall, isCap, Bool.and_eq_true, decide_eq_true_eq, Bool.and_eq_false_iff, decide_eq_false_iff_not] at *
  omega
/-- A name, or a word. -/
theorem tok_name {c : UInt8} {x y : List UInt8} (hc : isSmall c = true) (hx : ∀ b, b ∈ x → isInner b = true) (hy : ∀ b, y.head? = some b → isInner b = false) :
    tok ((c :: x) ++ y) = (if isWord (c :: x) then 2 else 1, c :: x, (c :: x).length, if 20 < (c :: x).length then 6 else 0) := by
  have hr : runL isInner ((c :: x) ++ y) = (c :: x).length := runL_app (fun b hb => by
    rcases List.mem_cons.1 hb with rfl | hb
    · exact inner_of_small hc
    · exact hx b hb) hy
  have ht : ((c :: x) ++ y).take (c :: x).length = c :: x := List.take_left
  rw [List.cons_append] at hr ht ⊢
  simp only [tok, hc, if_true, hr, ht]
/-- Capitals. -/
theorem tok_caps {c : UInt8} {x y : List UInt8} (hc : isCap c = true) (hx : ∀ b, b ∈ x → isCap b = true) (hy : ∀ b, y.head? = some b → isCap b = false) :
    tok ((c :: x) ++ y) = (5, c :: x, (c :: x).length, if 20 < (c :: x).length then 6 else 0) := by
  have hs : isSmall c = false := by
    cases h : isSmall c
    · rfl
    · rw [small_not_cap h] at hc; cases hc
  have hr : runL isCap ((c :: x) ++ y) = (c :: x).length := runL_app (fun b hb => by
    rcases List.mem_cons.1 hb with rfl | hb
    · exact hc
    · exact hx b hb) hy
  have ht : ((c :: x) ++ y).take (c :: x).length = c :: x := List.take_left
  rw [List.cons_append] at hr ht ⊢
  simp only [tok, hs, hc, if_true, if_false, Bool.false_eq_true, hr, ht]
/-- A text. -/
theorem tok_textual {x y : List UInt8} (hx : ∀ b, b ∈ x → isQuoted b = true) : tok (34 :: (x ++ 34 :: y)) = (3, x, x.length + 2, if 200 < x.length then 6 else 0) := by
  have h1 : isSmall 34 = false := by decide
  have h2 : isCap 34 = false := by decide
  have h3 : isB 34 34 = true := by decide
  have hr : runL isQuoted (x ++ 34 :: y) = x.length := runL_app hx (fun b hb => by
    obtain rfl : (34 : UInt8) = b := by simpa using hb
    decide)
  have hg : (34 :: (x ++ 34 :: y)).getD (x.length + 1) 0 = (34 : UInt8) := by simp [List.getD_eq_getElem?_getD]
  have ht : ((34 :: (x ++ 34 :: y)).take (x.length + 1)).drop 1 = x := by simp
  have hl : (x.length + 1 == (34 :: (x ++ 34 :: y)).length) = false := by simp
  simp only [tok, h1, h2, h3, if_true, if_false, Bool.false_eq_true, List.drop_succ_cons, List.drop_zero, hr]
  rw [hg, hl, ht, h3]
  simp
/-- A sign. -/
theorem tok_signs {c : UInt8} {y : List UInt8} (hc : isSign c = true) : tok (c :: y) = (4, [c], 1, 0) := by
  have key : ∀ n : Fin 256, isSign (UInt8.ofNat n.val) = true → isSmall (UInt8.ofNat n.val) = false ∧ isCap (UInt8.ofNat n.val) = false ∧ isB (UInt8.ofNat n.val) 34 = false := by decide +kernel
  have h := key ⟨c.toNat, c.toNat_lt⟩ (by simpa using hc)
  simp only [UInt8.ofNat_toNat] at h
  simp only [tok, h.1, h.2.1, h.2.2, hc, if_true, if_false, Bool.false_eq_true, List.take_succ_cons, List.take_zero]
theorem gapN_here {c : UInt8} {y : List UInt8} (h1 : isWs c = false) (h2 : isB c 35 = false) : gapN (c :: y) = 0 := gapN_none rfl h1 h2
end Go.Proofs.Ytkeanadlfkfglaa.Vm
