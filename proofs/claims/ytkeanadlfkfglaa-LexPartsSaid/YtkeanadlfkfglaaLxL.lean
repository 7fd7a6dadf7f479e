/- Plain laws of lex: names, texts, lengths. -/
import Derived.Test.YtkeanadlfkfglaaLxK
set_option linter.unusedSimpArgs false
set_option linter.unusedVariables false
namespace Go.Proofs.Ytkeanadlfkfglaa.Vm
open Go
variable {m : Int}

theorem small_quiet {c : UInt8} (h : isSmall c = true) : isWs c = false ∧ isB c 35 = false := by
  simp only [isSmall, Bool.and_eq_true, decide_eq_true_eq] at h
  simp only [isWs, Bool.or_eq_false_iff, beq_eq_false_iff_ne, ne_eq]
  omega
theorem toks_names {c : UInt8} {x : List UInt8} (hc : isSmall c = true) (hx : ∀ b, b ∈ x → isInner b = true) (hl : (c :: x).length ≤ 30) :
    toks ([65, 66] ++ (c :: x) ++ [67]) = if 20 < (c :: x).length then ([], 6, 2) else ([⟨5, 0, [65, 66]⟩, ⟨if isWord (c :: x) then 2 else 1, 2, c :: x⟩, ⟨5, 2 + (c :: x).length, [67]⟩], 0, 0) := by
  have t1 : tok ([65, 66] ++ (c :: x) ++ [67]) = (5, [65, 66], 2, 0) := by
    have := tok_caps (c := 65) (x := [66]) (y := (c :: x) ++ [67]) (by decide) (by decide) (fun b hb => by
      obtain rfl : c = b := by simpa using hb
      exact small_not_cap hc)
    simpa using this
  have t2 := tok_name (y := [67]) hc hx (fun b hb => by
    obtain rfl : (67 : UInt8) = b := by simpa using hb
    decide)
  have t3 : tok [67] = (5, [67], 1, 0) := by decide
  have g1 : gapN ([65, 66] ++ (c :: x) ++ [67]) = 0 := by rw [List.append_assoc]; exact gapN_here (by decide) (by decide)
  have g2 : gapN ((c :: x) ++ [67]) = 0 := gapN_here (small_quiet hc).1 (small_quiet hc).2
  have g3 : gapN [67] = 0 := by decide
  have d1 : ([65, 66] ++ (c :: x) ++ [67]).drop 2 = (c :: x) ++ [67] := rfl
  have d2 : ((c :: x) ++ [67]).drop (c :: x).length = [67] := List.drop_left
  rw [toks_T (by simp at hl ⊢; omega), g1, List.drop_zero, toksT_step (by simp) t1 (by simp), d1, g2, List.drop_zero]
  by_cases h20 : 20 < (c :: x).length
  · rw [if_pos h20, toksT_wrong (e := 6) (by simp) (by rw [t2]; simp only [if_pos h20]) (by decide)]
  · rw [if_neg h20, toksT_step (kd := if isWord (c :: x) then 2 else 1) (tx := c :: x) (n := (c :: x).length) (by simp) (by rw [t2]; simp only [if_neg h20]) (by simp), d2, g3, List.drop_zero, toksT_step (by simp) t3 (by simp)]
    simp [toksT_nil, gapN, gapS]

def gapT (k : Nat) : List UInt8 := [[], [32], [10]].getD k []
theorem toks_texts {s : List UInt8} (k : Nat) (hk : k < 3) (hl : s.length ≤ 60) (hs : ∀ b, b ∈ s → isQuoted b = true) :
    toks ([111, 119, 110] ++ gapT k ++ [34] ++ s ++ [34]) = ([⟨2, 0, [111, 119, 110]⟩, ⟨3, 3 + (gapT k).length, s⟩], 0, 0) := by
  have hg : gapT k = [] ∨ gapT k = [32] ∨ gapT k = [10] := by
    obtain rfl | rfl | rfl : k = 0 ∨ k = 1 ∨ k = 2 := by omega
    · exact .inl rfl
    · exact .inr (.inl rfl)
    · exact .inr (.inr rfl)
  have e0 : [111, 119, 110] ++ gapT k ++ [34] ++ s ++ [34] = [111, 119, 110] ++ (gapT k ++ (34 :: (s ++ [34]))) := by simp
  have t1 : tok ([111, 119, 110] ++ (gapT k ++ (34 :: (s ++ [34])))) = (2, [111, 119, 110], 3, 0) := by
    have := tok_name (c := 111) (x := [119, 110]) (y := gapT k ++ (34 :: (s ++ [34]))) (by decide) (by decide) (fun b hb => by
      rcases hg with h | h | h <;> rw [h] at hb
      · obtain rfl : (34 : UInt8) = b := by simpa using hb
        decide
      · obtain rfl : (32 : UInt8) = b := by simpa using hb
        decide
      · obtain rfl : (10 : UInt8) = b := by simpa using hb
        decide)
    have hw : isWord [111, 119, 110] = true := by decide
    rw [hw] at this
    exact this
  have t2 := tok_textual (y := []) hs
  have g1 : gapN ([111, 119, 110] ++ (gapT k ++ (34 :: (s ++ [34])))) = 0 := gapN_here (by decide) (by decide)
  have d1 : ([111, 119, 110] ++ (gapT k ++ (34 :: (s ++ [34])))).drop 3 = gapT k ++ (34 :: (s ++ [34])) := rfl
  have g0 : gapN (34 :: (s ++ [34])) = 0 := gapN_here (by decide) (by decide)
  have g2 : gapN (gapT k ++ (34 :: (s ++ [34]))) = (gapT k).length := by
    rcases hg with h | h | h <;> rw [h]
    · exact g0
    · exact (gapN_ws (b := 32) (r := 34 :: (s ++ [34])) rfl (by decide)).trans (by rw [g0]; rfl)
    · exact (gapN_ws (b := 10) (r := 34 :: (s ++ [34])) rfl (by decide)).trans (by rw [g0]; rfl)
  have hgl : (gapT k).length ≤ 1 := by rcases hg with h | h | h <;> rw [h] <;> decide
  have d2 : (gapT k ++ (34 :: (s ++ [34]))).drop (gapT k).length = 34 :: (s ++ [34]) := List.drop_left
  have d3 : (34 :: (s ++ [34])).drop (s.length + 2) = [] := List.drop_of_length_le (by simp)
  rw [e0, toks_T (by simp; omega), g1, List.drop_zero, toksT_step (by simp) t1 (by simp), d1, g2, d2, toksT_step (kd := 3) (tx := s) (n := s.length + 2) (by simp) (by rw [t2, if_neg (by omega)]) (by simp), d3]
  simp [toksT_nil, gapN, gapS]
theorem toks_texts_not {s : List UInt8} (k : Nat) (hk : k < 3) (hl : s.length ≤ 60) :
    ((toks ([111, 119, 110] ++ gapT k ++ [34] ++ s ++ [34])).2.1 ≠ 0 ∧ (toks ([111, 119, 110] ++ gapT k ++ [34] ++ s ++ [34])).1 = [] ∧ 3 ≤ (toks ([111, 119, 110] ++ gapT k ++ [34] ++ s ++ [34])).2.2) ∨
    ((toks ([111, 119, 110] ++ gapT k ++ [34] ++ s ++ [34])).2.1 = 0 ∧ 2 ≤ (toks ([111, 119, 110] ++ gapT k ++ [34] ++ s ++ [34])).1.length) := by
  have hg : gapT k = [] ∨ gapT k = [32] ∨ gapT k = [10] := by
    obtain rfl | rfl | rfl : k = 0 ∨ k = 1 ∨ k = 2 := by omega
    · exact .inl rfl
    · exact .inr (.inl rfl)
    · exact .inr (.inr rfl)
  have e0 : [111, 119, 110] ++ gapT k ++ [34] ++ s ++ [34] = [111, 119, 110] ++ (gapT k ++ (34 :: (s ++ [34]))) := by simp
  have t1 : tok ([111, 119, 110] ++ (gapT k ++ (34 :: (s ++ [34])))) = (2, [111, 119, 110], 3, 0) := by
    have := tok_name (c := 111) (x := [119, 110]) (y := gapT k ++ (34 :: (s ++ [34]))) (by decide) (by decide) (fun b hb => by
      rcases hg with h | h | h <;> rw [h] at hb
      · obtain rfl : (34 : UInt8) = b := by simpa using hb
        decide
      · obtain rfl : (32 : UInt8) = b := by simpa using hb
        decide
      · obtain rfl : (10 : UInt8) = b := by simpa using hb
        decide)
    have hw : isWord [111, 119, 110] = true := by decide
    rw [hw] at this
    exact this
  have g1 : gapN ([111, 119, 110] ++ (gapT k ++ (34 :: (s ++ [34])))) = 0 := gapN_here (by decide) (by decide)
  have d1 : ([111, 119, 110] ++ (gapT k ++ (34 :: (s ++ [34])))).drop 3 = gapT k ++ (34 :: (s ++ [34])) := rfl
  have g0 : gapN (34 :: (s ++ [34])) = 0 := gapN_here (by decide) (by decide)
  have g2 : gapN (gapT k ++ (34 :: (s ++ [34]))) = (gapT k).length := by
    rcases hg with h | h | h <;> rw [h]
    · exact g0
    · exact (gapN_ws (b := 32) (r := 34 :: (s ++ [34])) rfl (by decide)).trans (by rw [g0]; rfl)
    · exact (gapN_ws (b := 10) (r := 34 :: (s ++ [34])) rfl (by decide)).trans (by rw [g0]; rfl)
  have hgl : (gapT k).length ≤ 1 := by rcases hg with h | h | h <;> rw [h] <;> decide
  have d2 : (gapT k ++ (34 :: (s ++ [34]))).drop (gapT k).length = 34 :: (s ++ [34]) := List.drop_left
  rw [e0, toks_T (by simp; omega), g1, List.drop_zero, toksT_step (by simp) t1 (by simp), d1, g2, d2]
  rcases toksT_is _ (34 :: (s ++ [34])) (0 + 3 + (gapT k).length) ([] ++ [⟨2, 0, [111, 119, 110]⟩]) (Nat.le_refl _) with ⟨h1, h2, h3⟩ | ⟨h1, h2, h3⟩
  · exact .inl ⟨h1, h2, by omega⟩
  · have := h3 (by simp)
    exact .inr ⟨h1, this⟩

/-- One letter, so many times: name, capitals, text. -/
def unitL (k : Nat) : UInt8 := [97, 65, 120].getD k 0
def mostL (k : Nat) : Nat := [20, 20, 200].getD k 0
def kindL (k : Nat) : Nat := [1, 5, 3].getD k 0
def longT (k n : Nat) : List UInt8 := if k = 2 then 34 :: (List.replicate n (unitL k) ++ [34]) else List.replicate n (unitL k)
theorem word_a : ∀ w, w ∈ wordsL → w.any (fun b => b != 97) = true := by decide
theorem tok_long (k n : Nat) (hk : k < 3) (hn : 0 < n) (y : List UInt8) (hy : y = 32 :: y.tail) : tok (longT k n ++ y) = (kindL k, List.replicate n (unitL k), (longT k n).length, if mostL k < n then 6 else 0) := by
  obtain ⟨n, rfl⟩ : ∃ j, n = j + 1 := ⟨n - 1, by omega⟩
  have hyd : ∀ b, y.head? = some b → b = 32 := fun b hb => by rw [hy] at hb; simpa using hb.symm
  obtain rfl | rfl | rfl : k = 0 ∨ k = 1 ∨ k = 2 := by omega
  · have := tok_name (c := 97) (x := List.replicate n 97) (y := y) (by decide) (fun b hb => by rw [List.eq_of_mem_replicate hb]; decide) (fun b hb => by rw [hyd b hb]; decide)
    have hw : isWord (97 :: List.replicate n 97) = false := by
      unfold isWord
      rw [List.any_eq_false]
      intro w hw he
      have h1 := word_a w hw
      have : w = 97 :: List.replicate n 97 := by simpa using he
      rw [this, List.any_eq_true] at h1
      obtain ⟨b, hb, hne⟩ := h1
      rcases List.mem_cons.1 hb with rfl | hb
      · simp at hne
      · rw [List.eq_of_mem_replicate hb] at hne
        simp at hne
    rw [hw] at this
    simp only [longT, unitL, kindL, mostL, List.getD_cons_zero, List.replicate_succ] at this ⊢
    rw [if_neg (by decide), this]
    simp
  · have := tok_caps (c := 65) (x := List.replicate n 65) (y := y) (by decide) (fun b hb => by rw [List.eq_of_mem_replicate hb]; decide) (fun b hb => by rw [hyd b hb]; decide)
    simp only [longT, unitL, kindL, mostL, List.getD_cons_zero, List.getD_cons_succ, List.replicate_succ] at this ⊢
    rw [if_neg (by decide), this]
    simp
  · have := tok_textual (x := List.replicate (n + 1) 120) (y := y) (fun b hb => by rw [List.eq_of_mem_replicate hb]; decide)
    simp only [longT, unitL, kindL, mostL, List.getD_cons_zero, List.getD_cons_succ, if_true]
    rw [List.cons_append, List.append_assoc, List.singleton_append, this]
    simp
theorem toks_long (k n : Nat) (hk : k < 3) (hn : 0 < n) (hl : n ≤ 206) :
    toks ([32] ++ longT k n ++ [32, 59]) = if mostL k < n then ([], 6, 1) else ([⟨kindL k, 1, List.replicate n (unitL k)⟩, ⟨4, 1 + (longT k n).length + 1, [59]⟩], 0, 0) := by
  have t1 := tok_long k n hk hn [32, 59] rfl
  have hll : (longT k n).length ≤ 208 := by unfold longT; split <;> simp <;> omega
  have hne : longT k n ++ [32, 59] ≠ [] := by simp
  obtain ⟨c, r, hc, h1, h2⟩ : ∃ c r, longT k n = c :: r ∧ isWs c = false ∧ isB c 35 = false := by
    obtain ⟨n, rfl⟩ : ∃ j, n = j + 1 := ⟨n - 1, by omega⟩
    obtain rfl | rfl | rfl : k = 0 ∨ k = 1 ∨ k = 2 := by omega
    · exact ⟨97, List.replicate n 97, by simp [longT, unitL, List.replicate_succ], by decide, by decide⟩
    · exact ⟨65, List.replicate n 65, by simp [longT, unitL, List.replicate_succ], by decide, by decide⟩
    · exact ⟨34, List.replicate (n + 1) 120 ++ [34], by simp [longT, unitL], by decide, by decide⟩
  have g1 : gapN ([32] ++ longT k n ++ [32, 59]) = 1 := by
    rw [List.append_assoc, List.singleton_append, gapN_ws rfl (by decide), hc, List.cons_append, gapN_here h1 h2]
  have d1 : ([32] ++ longT k n ++ [32, 59]).drop 1 = longT k n ++ [32, 59] := rfl
  have d2 : (longT k n ++ [32, 59]).drop (longT k n).length = [32, 59] := List.drop_left
  have g2 : gapN [32, 59] = 1 := by decide
  have t2 : tok [59] = (4, [59], 1, 0) := by decide
  rw [toks_T (by simp; omega), g1, d1]
  by_cases hm : mostL k < n
  · rw [if_pos hm, toksT_wrong (e := 6) hne (by rw [t1]; simp only [if_pos hm]) (by decide)]
  · rw [if_neg hm, toksT_step (kd := kindL k) (tx := List.replicate n (unitL k)) (n := (longT k n).length) hne (by rw [t1]; simp only [if_neg hm]) (by simp), d2, g2]
    have : ([32, 59] : List UInt8).drop 1 = [59] := rfl
    rw [this, toksT_step (by simp) t2 (by simp)]
    simp [toksT_nil, gapN, gapS]
end Go.Proofs.Ytkeanadlfkfglaa.Vm
