/- Plain facts for the statements on code. -/
import Derived.Test.YtejpgmemohchaaaVmZ
import Derived.Test.YtejpgmemohchaaaCdC
set_option linter.unusedVariables false
namespace Go.Proofs.Ytejpgmemohchaaa.Vm
open Go

theorem cmp_less : ∀ a b : List UInt8, decide (Lib.compareBytes a b < 0) = Op.bytesLess a b
  | [], [] => rfl
  | [], _ :: _ => rfl
  | _ :: _, [] => rfl
  | a :: x, b :: y => by
    unfold Lib.compareBytes Op.bytesLess
    by_cases h : a < b
    · rw [if_pos h]
      simp [h]
    · rw [if_neg h]
      by_cases h2 : b < a
      · rw [if_pos h2]
        have : ¬ a = b := fun e => by subst e; exact h h2
        simp [h, this]
      · rw [if_neg h2, cmp_less x y]
        have : a = b := UInt8.le_antisymm (UInt8.not_lt.1 h2) (UInt8.not_lt.1 h)
        subst this
        simp
theorem less_same : ∀ a : List UInt8, Op.bytesLess a a = false
  | [] => rfl
  | a :: x => by
    unfold Op.bytesLess
    simp [less_same x]
theorem less_not : ∀ {a b : List UInt8}, Op.bytesLess a b = true → Op.bytesLess b a = false ∧ (a == b) = false
  | [], [], h => by simp [Op.bytesLess] at h
  | [], _ :: _, h => ⟨rfl, rfl⟩
  | _ :: _, [], h => by simp [Op.bytesLess] at h
  | a :: x, b :: y, h => by
    unfold Op.bytesLess at h
    simp only [Bool.or_eq_true, decide_eq_true_eq, Bool.and_eq_true, beq_iff_eq] at h
    rcases h with h | ⟨rfl, h⟩
    · have h1 : ¬ b < a := fun h2 => absurd (UInt8.lt_trans h h2) (UInt8.lt_irrefl a)
      have h2 : ¬ b = a := fun e => by subst e; exact UInt8.lt_irrefl _ h
      have h3 : ¬ a = b := fun e => h2 e.symm
      refine ⟨by unfold Op.bytesLess; simp [h1, h2], by simp [h3]⟩
    · obtain ⟨h1, h2⟩ := less_not h
      refine ⟨by unfold Op.bytesLess; simp [h1], ?_⟩
      simpa using h2
theorem less_tri : ∀ (a b : List UInt8), Op.bytesLess a b = false → Op.bytesLess b a = false → a = b
  | [], [], _, _ => rfl
  | [], _ :: _, h, _ => by simp [Op.bytesLess] at h
  | _ :: _, [], _, h => by simp [Op.bytesLess] at h
  | a :: x, b :: y, h, h' => by
    unfold Op.bytesLess at h h'
    simp only [Bool.or_eq_false_iff, decide_eq_false_iff_not, Bool.and_eq_false_iff] at h h'
    have : a = b := UInt8.le_antisymm (UInt8.not_lt.1 h'.1) (UInt8.not_lt.1 h.1)
    subst this
    rw [less_tri x y (by simpa using h.2) (by simpa using h'.2)]
theorem less_trans : ∀ {a b c : List UInt8}, Op.bytesLess a b = true → Op.bytesLess b c = true → Op.bytesLess a c = true
  | _, [], _, h, _ => by simp [Op.bytesLess] at h
  | _, _ :: _, [], _, h => by simp [Op.bytesLess] at h
  | [], _ :: _, _ :: _, _, _ => rfl
  | a :: x, b :: y, c :: z, h, h' => by
    unfold Op.bytesLess at h h' ⊢
    simp only [Bool.or_eq_true, decide_eq_true_eq, Bool.and_eq_true, beq_iff_eq] at h h' ⊢
    rcases h with h | ⟨rfl, h⟩
    · rcases h' with h' | ⟨rfl, h'⟩
      · exact .inl (UInt8.lt_trans h h')
      · exact .inl h
    · rcases h' with h' | ⟨rfl, h'⟩
      · exact .inl h'
      · exact .inr ⟨rfl, less_trans h h'⟩
theorem less_longer : ∀ (a : List UInt8), Op.bytesLess a (a ++ [0]) = true
  | [] => rfl
  | a :: x => by
    rw [List.cons_append]
    unfold Op.bytesLess
    simp [less_longer x]

theorem readSt_same {l : List UInt8} (hl : l.length < 1501) : readSt l = refSt l := by
  cases h : (readSt l).2 with
  | true =>
    obtain ⟨s, hs, rfl⟩ := (readSt_iff hl).1 h
    rw [readSt_of hs, refSt_of hs]
  | false =>
    have h2 : (refSt l).2 = false := by
      cases h3 : (refSt l).2 with
      | false => rfl
      | true =>
        have := (readSt_iff hl).2 ((refSt_iff hl).1 h3)
        rw [h] at this
        cases this
    exact Prod.ext ((readSt_no h).trans (refSt_no h2).symm) (h.trans h2.symm)
theorem zero_in : zeroSt.In := ⟨⟨by decide, by decide⟩, by simp [zeroSt], by simp [zeroSt], by simp [zeroSt], by decide, by decide, by decide, by decide, by decide, by decide⟩
theorem readSt_in {l : List UInt8} (hl : l.length < 1501) : (readSt l).1.In := by
  cases h : (readSt l).2 with
  | true =>
    obtain ⟨s, hs, rfl⟩ := (readSt_iff hl).1 h
    rw [readSt_of hs]
    exact hs
  | false => rw [readSt_no h]; exact zero_in

theorem num_apart {a b : Int} (ha : I64 a) (hb : I64 b) (h : a ≠ b) : ((num a).take (min (num a).length (num b).length) == (num b).take (min (num a).length (num b).length)) = false := by
  rw [beq_eq_false_iff_ne]
  intro e
  rcases Nat.le_total (num a).length (num b).length with hl | hl
  · rw [Nat.min_eq_left hl, List.take_length] at e
    have h2 := List.take_append_drop (num a).length (num b)
    rw [← e] at h2
    exact h (num_inj ha hb _ [] (h2.trans (List.append_nil _).symm)).1
  · rw [Nat.min_eq_right hl, List.take_length] at e
    have h2 := List.take_append_drop (num b).length (num a)
    rw [e] at h2
    exact h (num_inj ha hb [] _ ((List.append_nil _).trans h2.symm)).1
theorem num_same {a b : Int} (ha : I64 a) (hb : I64 b) : (num a == num b) = (a == b) := by
  rw [Bool.eq_iff_iff, beq_iff_eq, beq_iff_eq]
  refine ⟨fun h => (num_inj ha hb [] [] (by rw [h])).1, fun h => by rw [h]⟩
def jarSt (ns : List Int) : St := { doc := 0, owned := false, jar := ns, changed := [], knows := [], stolen := [], ran := [], pending := [] }
theorem jar_in {ns : List Int} (h : ∀ n, n ∈ ns → I64 n) (hl : ns.length < 1501) : (jarSt ns).In := ⟨⟨by simp [jarSt], by simp [jarSt]⟩, h, by simp [jarSt], by simp [jarSt], hl, by simp [jarSt], by simp [jarSt], by simp [jarSt], by simp [jarSt], by simp [jarSt]⟩
theorem num_small {n : Int} (h0 : 0 ≤ n) (h : n < 64) : num n = [UInt8.ofNat (2 * n.toNat)] := by
  unfold num zz
  rw [if_pos h0, grp, if_pos (by omega)]
theorem jar_bytes (ns : List Int) (hl : ns.length < 64) : stB (jarSt ns) = [0, 0, UInt8.ofNat (2 * ns.length)] ++ (ns.flatMap num ++ [0, 0, 0, 0, 0]) := by
  have h := num_small (n := (ns.length : Int)) (by omega) (by omega)
  simp [stB, jarSt, lay, tru, h, num_small (n := 0) (by decide) (by decide)]
theorem jar_len (ns : List Int) (hl : ns.length < 64) : (stB (jarSt ns)).length = 8 + (ns.flatMap num).length := by
  rw [jar_bytes ns hl]
  simp
  omega
end Go.Proofs.Ytejpgmemohchaaa.Vm
