/- Plain laws of lex: parts. -/
import Derived.Test.YtkeanadlfkfglaaLxL
set_option linter.unusedSimpArgs false
set_option linter.unusedVariables false
namespace Go.Proofs.Ytkeanadlfkfglaa.Vm
open Go
variable {m : Int}

def isRep (c : UInt8) (i : Nat) (s : List UInt8) : Prop := s = List.replicate i c
theorem isRep_zero (c : UInt8) : isRep c 0 [] := rfl
theorem isRep_succ {c : UInt8} {i : Nat} {s : List UInt8} (h : isRep c i s) : isRep c (i + 1) (s ++ [c]) := by
  unfold isRep at *
  rw [h, List.replicate_succ']
theorem isRep_len {c : UInt8} {i : Nat} {s : List UInt8} (h : isRep c i s) : s.length = i := by
  unfold isRep at h
  rw [h, List.length_replicate]
theorem toks_rep2 {n : Nat} {s : List UInt8} (h : isRep (unitL 2) n s) (hn : 0 < n) (hl : n ≤ 206) :
    ∃ p, toks (32 :: 34 :: (s ++ [34, 32, 59])) = if mostL 2 < n then ([], 6, 1) else ([⟨kindL 2, 1, s⟩, ⟨4, p, [59]⟩], 0, 0) := by
  unfold isRep at h
  have := toks_long 2 n (by decide) hn hl
  rw [← h] at this
  simp only [longT, if_true, List.cons_append, List.nil_append, List.append_assoc] at this
  rw [← h] at this
  exact ⟨_, this⟩
theorem toks_rep {k n : Nat} {s : List UInt8} (hk : k < 3) (h2 : k ≠ 2) (h : isRep (unitL k) n s) (hn : 0 < n) (hl : n ≤ 206) :
    ∃ p, toks (32 :: (s ++ [32, 59])) = if mostL k < n then ([], 6, 1) else ([⟨kindL k, 1, s⟩, ⟨4, p, [59]⟩], 0, 0) := by
  unfold isRep at h
  have := toks_long k n hk hn hl
  rw [← h] at this
  simp only [longT, if_neg h2, List.cons_append, List.nil_append, List.append_assoc] at this
  rw [← h] at this
  exact ⟨_, this⟩

/-- A token as it stands. -/
def quo (kd : Nat) (tx : List UInt8) : List UInt8 := if kd = 3 then 34 :: (tx ++ [34]) else tx
def gapish (y : List UInt8) : Prop := ∀ b, y.head? = some b → (isWs b || isB b 35) = true
structure Good (kd : Nat) (tx : List UInt8) : Prop where
  first : ∃ c r, quo kd tx = c :: r ∧ isWs c = false ∧ isB c 35 = false
  again : ∀ y, gapish y → tok (quo kd tx ++ y) = (kd, tx, (quo kd tx).length, 0)
theorem gap_not_inner {b : UInt8} (h : (isWs b || isB b 35) = true) : isInner b = false ∧ isCap b = false := by
  have key : ∀ n : Fin 256, (isWs (UInt8.ofNat n.val) || isB (UInt8.ofNat n.val) 35) = true → isInner (UInt8.ofNat n.val) = false ∧ isCap (UInt8.ofNat n.val) = false := by decide +kernel
  have := key ⟨b.toNat, b.toNat_lt⟩ (by simpa using h)
  simpa using this
theorem cap_quiet {c : UInt8} (h : isCap c = true) : isWs c = false ∧ isB c 35 = false := by
  have key : ∀ n : Fin 256, isCap (UInt8.ofNat n.val) = true → isWs (UInt8.ofNat n.val) = false ∧ isB (UInt8.ofNat n.val) 35 = false := by decide +kernel
  have := key ⟨c.toNat, c.toNat_lt⟩ (by simpa using h)
  simpa using this
theorem sign_quiet {c : UInt8} (h : isSign c = true) : isWs c = false ∧ isB c 35 = false := by
  have key : ∀ n : Fin 256, isSign (UInt8.ofNat n.val) = true → isWs (UInt8.ofNat n.val) = false ∧ isB (UInt8.ofNat n.val) 35 = false := by decide +kernel
  have := key ⟨c.toNat, c.toNat_lt⟩ (by simpa using h)
  simpa using this
theorem tok_good {s : List UInt8} (hs : s ≠ []) {kd n : Nat} {tx : List UInt8} (ht : tok s = (kd, tx, n, 0)) :
    s.take n = quo kd tx ∧ n = (quo kd tx).length ∧ n ≤ s.length ∧ Good kd tx := by
  have hl := tok_len hs (by rw [ht])
  rw [ht] at hl
  cases s with
  | nil => exact absurd rfl hs
  | cons c r =>
    by_cases hc : isSmall c = true
    · have hp : 0 < runL isInner (c :: r) := runL_pos (inner_of_small hc)
      have hle := runL_le isInner (c :: r)
      have hall := runL_all isInner (c :: r)
      simp only [tok, hc, if_true, Prod.mk.injEq] at ht
      obtain ⟨h1, h2, h3, h4⟩ := ht
      rw [h3] at hp hle hall h1 h2 h4
      obtain ⟨j, rfl⟩ : ∃ j, n = j + 1 := ⟨n - 1, by omega⟩
      rw [List.take_succ_cons] at h1 h2 hall
      have hk3 : ¬ kd = 3 := by rw [← h1]; split <;> omega
      have hq : quo kd tx = c :: r.take j := by unfold quo; rw [if_neg hk3, ← h2]
      have hlen : (c :: r.take j).length = j + 1 := by simp at hle ⊢; omega
      refine ⟨by rw [hq, List.take_succ_cons], by rw [hq, hlen], hl.2, ⟨⟨c, r.take j, hq, (small_quiet hc).1, (small_quiet hc).2⟩, fun y hy => ?_⟩⟩
      rw [hq, tok_name (x := r.take j) hc (fun b hb => hall b (List.mem_cons_of_mem _ hb)) (fun b hb => (gap_not_inner (hy b hb)).1), h1, h2, ← h2, hlen]
      simp only [h4]
    · have hc' : isSmall c = false := by simpa using hc
      by_cases hcap : isCap c = true
      · have hp : 0 < runL isCap (c :: r) := runL_pos hcap
        have hle := runL_le isCap (c :: r)
        have hall := runL_all isCap (c :: r)
        simp only [tok, hc', hcap, if_true, if_false, Bool.false_eq_true, Prod.mk.injEq] at ht
        obtain ⟨h1, h2, h3, h4⟩ := ht
        rw [h3] at hp hle hall h2 h4
        obtain ⟨j, rfl⟩ : ∃ j, n = j + 1 := ⟨n - 1, by omega⟩
        rw [List.take_succ_cons] at h2 hall
        have hk3 : ¬ kd = 3 := by omega
        have hq : quo kd tx = c :: r.take j := by unfold quo; rw [if_neg hk3, ← h2]
        have hlen : (c :: r.take j).length = j + 1 := by simp at hle ⊢; omega
        refine ⟨by rw [hq, List.take_succ_cons], by rw [hq, hlen], hl.2, ⟨⟨c, r.take j, hq, (cap_quiet hcap).1, (cap_quiet hcap).2⟩, fun y hy => ?_⟩⟩
        rw [hq, tok_caps (x := r.take j) hcap (fun b hb => hall b (List.mem_cons_of_mem _ hb)) (fun b hb => (gap_not_inner (hy b hb)).2), h1, ← h2, hlen]
        simp only [h4]
      · have hcap' : isCap c = false := by simpa using hcap
        by_cases hq : isB c 34 = true
        · simp only [tok, hc', hcap', hq, if_true, if_false, Bool.false_eq_true, List.drop_succ_cons, List.drop_zero] at ht
          split at ht
          · cases ht
          · rename_i hno
            simp only [Prod.mk.injEq] at ht
            obtain ⟨h1, h2, h3, h4⟩ := ht
            subst h1
            have hc34 : c = 34 := by
              have : (c.toNat : Int) = 34 := by simpa [isB] using hq
              exact UInt8.toNat_inj.1 (by simpa using (by omega : c.toNat = 34))
            subst hc34
            have hall := runL_all isQuoted r
            have hle := runL_le isQuoted r
            generalize runL isQuoted r = q at *
            simp only [Bool.or_eq_true, beq_iff_eq, not_or, List.length_cons, Bool.not_eq_true', Bool.not_eq_false] at hno
            have hlt : q < r.length := by omega
            have hrq : r[q] = 34 := by
              have h5 := hno.2
              rw [List.getD_eq_getElem?_getD, List.getElem?_cons_succ, List.getElem?_eq_getElem hlt] at h5
              have : (r[q].toNat : Int) = 34 := by simpa [isB] using h5
              exact UInt8.toNat_inj.1 (by simpa using (by omega : r[q].toNat = 34))
            have h2' : tx = r.take q := by rw [← h2]; simp
            have hqu : quo 3 tx = 34 :: (r.take q ++ [34]) := by unfold quo; rw [if_pos rfl, h2']
            have hlen : (r.take q).length = q := by rw [List.length_take]; omega
            refine ⟨?_, ?_, hl.2, ⟨⟨34, r.take q ++ [34], hqu, by decide, by decide⟩, fun y hy => ?_⟩⟩
            · rw [hqu, ← h3, List.take_succ_cons, List.take_succ_eq_append_getElem hlt, hrq]
            · rw [hqu, ← h3]; simp; omega
            · have h6 := tok_textual (y := y) hall
              rw [hqu, h2', List.cons_append, List.append_assoc, List.singleton_append, h6, hlen, if_neg (fun h => by rw [if_pos h] at h4; cases h4)]
              simp [hlen]
        · have hq' : isB c 34 = false := by simpa using hq
          simp only [tok, hc', hcap', hq', if_false, Bool.false_eq_true] at ht
          split at ht
          · rename_i hsg
            simp only [Prod.mk.injEq, List.take_succ_cons, List.take_zero] at ht
            obtain ⟨rfl, rfl, rfl, -⟩ := ht
            exact ⟨rfl, rfl, hl.2, ⟨⟨c, [], rfl, (sign_quiet hsg).1, (sign_quiet hsg).2⟩, fun y _ => tok_signs hsg⟩⟩
          · cases ht

/-- Tokens stand one behind the other, from a place on. -/
def Stand (S : List UInt8) : Nat → List Tok → Prop
  | _, [] => True
  | e, t :: ts => e ≤ t.at_ ∧ t.at_ + (quo t.kind t.text).length ≤ S.length ∧ (S.take (t.at_ + (quo t.kind t.text).length)).drop t.at_ = quo t.kind t.text ∧ Good t.kind t.text ∧ Stand S (t.at_ + (quo t.kind t.text).length) ts
theorem stands (S : List UInt8) : ∀ (n : Nat) (s : List UInt8) (a e : Nat) (out l : List Tok) (p : Nat), s.length ≤ n → s = S.drop a → e ≤ a → toksT s a out = (l, 0, p) → ∃ rest, l = out ++ rest ∧ Stand S e rest := by
  intro n
  induction n with
  | zero =>
    intro s a e out l p hn hs he ht
    obtain rfl : s = [] := List.eq_nil_of_length_eq_zero (by omega)
    rw [toksT_nil] at ht
    exact ⟨[], by simp only [Prod.mk.injEq] at ht; simp [ht.1], trivial⟩
  | succ n ih =>
    intro s a e out l p hn hs he ht
    by_cases hne : s = []
    · subst hne
      rw [toksT_nil] at ht
      exact ⟨[], by simp only [Prod.mk.injEq] at ht; simp [ht.1], trivial⟩
    · generalize hT : tok s = T
      obtain ⟨kd, tx, m, er⟩ := T
      by_cases her : er = 0
      · subst her
        by_cases ho : out.length = 2000
        · exfalso
          cases s with
          | nil => exact hne rfl
          | cons c r =>
            unfold toksT at ht
            simp only [List.length_cons] at ht
            rw [toksF_many (by rw [hT]) ho] at ht
            cases ht
        · rw [toksT_step hne hT ho] at ht
          obtain ⟨g1, g2, g3, g4⟩ := tok_good hne hT
          have hpos : 0 < m := by have := (tok_len hne (by rw [hT])).1; rw [hT] at this; exact this
          obtain ⟨rest, h1, h2⟩ := ih _ _ (a + m) _ _ _ (by simp only [List.length_drop]; omega) (by rw [hs]; simp only [List.drop_drop]) (by omega) ht
          have hlen : s.length = S.length - a := by rw [hs, List.length_drop]
          refine ⟨⟨kd, a, tx⟩ :: rest, by rw [h1]; simp, he, ?_, ?_, g4, ?_⟩
          · show a + (quo kd tx).length ≤ S.length
            rw [← g2]; omega
          · show (S.take (a + (quo kd tx).length)).drop a = quo kd tx
            rw [← g2, ← g1, hs, List.drop_take]
            simp
          · rw [← g2]; exact h2
      · exfalso
        rw [toksT_wrong hne (by rw [hT]) her] at ht
        simp only [Prod.mk.injEq] at ht
        exact her ht.2.1
theorem toks_stand {s : List UInt8} {l : List Tok} {p : Nat} (hl : s.length ≤ 8000) (h : toks s = (l, 0, p)) : Stand s 0 l := by
  rw [toks_T hl] at h
  obtain ⟨rest, h1, h2⟩ := stands s _ _ _ 0 _ _ _ (Nat.le_refl _) rfl (by omega) h
  rw [h1]
  exact h2
/-- The tokens anew, with a gap ahead of each. -/
def allS (G : Nat → List UInt8) : Nat → List Tok → List UInt8
  | _, [] => []
  | i, t :: ts => G i ++ (quo t.kind t.text ++ allS G (i + 1) ts)
theorem allS_app (G : Nat → List UInt8) : ∀ (x y : List Tok) (i : Nat), allS G i (x ++ y) = allS G i x ++ allS G (i + x.length) y := by
  intro x
  induction x with
  | nil => intro y i; rfl
  | cons t x ih =>
    intro y i
    rw [List.cons_append, allS, allS, ih, List.length_cons, show i + 1 + x.length = i + (x.length + 1) by omega]
    simp
def gapsL : List (List UInt8) := [[32], [10], [35, 32, 120, 32, 34, 32, 123, 10], [9, 13]]
theorem gaps_good : ∀ g, g ∈ gapsL → g.length ≤ 8 ∧ g ≠ [] ∧ (∀ y, gapish (g ++ y)) ∧ ∀ y, gapN (g ++ y) = g.length + gapN y := by
  intro g hg
  simp only [gapsL, List.mem_cons, List.not_mem_nil, or_false] at hg
  rcases hg with rfl | rfl | rfl | rfl
  all_goals refine ⟨by decide, by decide, fun y b hb => ?_, fun y => ?_⟩
  all_goals first
    | (simp only [List.cons_append, List.head?_cons, Option.some.injEq] at hb; subst hb; decide)
    | (simp [gapN, gapS, isWs, isB]; omega)
    | (simp [gapN, gapS, isWs, isB])
theorem stand_len {S : List UInt8} (G : Nat → List UInt8) (hG : ∀ i, G i ∈ gapsL) : ∀ (ts : List Tok) (e i : Nat), e ≤ S.length → Stand S e ts → ts.length + e ≤ S.length ∧ (allS G i ts).length + e ≤ S.length + 8 * ts.length := by
  intro ts
  induction ts with
  | nil => intro e i he _; exact ⟨by simpa using he, by simpa [allS] using he⟩
  | cons t ts ih =>
    intro e i he hst
    obtain ⟨h1, h2, h3, h4, h5⟩ := hst
    obtain ⟨c, r, hc, -, -⟩ := h4.first
    have hq : 1 ≤ (quo t.kind t.text).length := by rw [hc]; simp
    obtain ⟨i1, i2⟩ := ih _ (i + 1) h2 h5
    have := (gaps_good _ (hG i)).1
    refine ⟨by simp only [List.length_cons]; omega, ?_⟩
    simp only [allS, List.length_append, List.length_cons]
    omega
theorem toks_all {S : List UInt8} (G : Nat → List UInt8) (hG : ∀ i, G i ∈ gapsL) : ∀ (ts : List Tok) (e i a : Nat) (out : List Tok), Stand S e ts → out.length + ts.length ≤ 2000 →
    ∃ ts', toksT ((allS G i ts).drop (gapN (allS G i ts))) a out = (out ++ ts', 0, 0) ∧ ts'.map (fun t => (t.kind, t.text)) = ts.map (fun t => (t.kind, t.text)) := by
  intro ts
  induction ts with
  | nil => intro e i a out _ _; exact ⟨[], by simp [allS, toksT_nil], rfl⟩
  | cons t ts ih =>
    intro e i a out hst ho
    obtain ⟨h1, h2, h3, h4, h5⟩ := hst
    obtain ⟨c, r, hc, hw, hs⟩ := h4.first
    simp only [List.length_cons] at ho
    have hgap := (gaps_good _ (hG i)).2.2.2
    have hnext : gapish (allS G (i + 1) ts) := by
      cases ts with
      | nil => intro b hb; cases hb
      | cons u us => exact (gaps_good _ (hG (i + 1))).2.2.1 _
    have h0 : gapN (quo t.kind t.text ++ allS G (i + 1) ts) = 0 := by rw [hc, List.cons_append]; exact gapN_here hw hs
    have hd : (allS G i (t :: ts)).drop (gapN (allS G i (t :: ts))) = quo t.kind t.text ++ allS G (i + 1) ts := by
      rw [allS, hgap, h0, Nat.add_zero, List.drop_left]
    have ht := h4.again _ hnext
    rw [hd, toksT_step (by rw [hc]; simp) ht (by omega), List.drop_left]
    obtain ⟨ts', k1, k2⟩ := ih _ (i + 1) (a + (quo t.kind t.text).length + gapN (allS G (i + 1) ts)) (out ++ [⟨t.kind, a, t.text⟩]) h5 (by simp; omega)
    exact ⟨⟨t.kind, a, t.text⟩ :: ts', by rw [k1]; simp, by simp [k2]⟩
theorem toks_anew {s : List UInt8} {l : List Tok} (G : Nat → List UInt8) (hG : ∀ i, G i ∈ gapsL) (hl : s.length ≤ 600) (h : Stand s 0 l) :
    (allS G 0 l).length ≤ 8000 ∧ l.length ≤ 600 ∧ ∃ ts', toks (allS G 0 l) = (ts', 0, 0) ∧ ts'.map (fun t => (t.kind, t.text)) = l.map (fun t => (t.kind, t.text)) := by
  obtain ⟨h1, h2⟩ := stand_len G hG l 0 0 (by omega) h
  have hle : (allS G 0 l).length ≤ 8000 := by omega
  refine ⟨hle, by omega, ?_⟩
  rw [toks_T hle]
  obtain ⟨ts', k1, k2⟩ := toks_all G hG l 0 0 (gapN (allS G 0 l)) [] h (by simp; omega)
  exact ⟨ts', by rw [k1]; simp, k2⟩
end Go.Proofs.Ytkeanadlfkfglaa.Vm
