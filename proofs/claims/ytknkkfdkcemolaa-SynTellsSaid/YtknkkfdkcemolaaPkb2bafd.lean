/- Own texts, packed. -/
import Derived.Test.YtknkkfdkcemolaaPkeac86b
import Derived.Test.YtknkkfdkcemolaaPkb6be89
section
/- Walks: the reference's token. -/
set_option linter.unusedSimpArgs false
set_option linter.unusedVariables false
set_option maxRecDepth 100000
set_option maxHeartbeats 4000000
namespace Go.Proofs.Ytknkkfdkcemolaa.Vm
open Go
variable {m : Int}
attribute [local irreducible] wpD opsD thenD blockD planD planA
attribute [local simp] List.take_of_length_le List.drop_of_length_le bne mvD

theorem runL_at {p : UInt8 → Bool} {s : List UInt8} {i m : Nat} (him : i ≤ m) (hm : m ≤ s.length) (hall : ∀ x (hx : x < s.length), i ≤ x → x < m → p (s[x]'hx) = true) (hend : ∀ hx : m < s.length, p (s[m]'hx) = false) : runL p (s.drop i) = m - i := by
  refine runL_here _ _ _ (by simp; omega) (fun x hx hxm => ?_) (fun h => ?_)
  · rw [List.getElem_drop]
    exact hall (i + x) (by simp at hx; omega) (by omega) (by omega)
  · have e : i + (m - i) = m := by omega
    simp only [List.getElem_drop, e]
    exact hend (by simp at h; omega)
theorem take_at (s : List UInt8) (i m : Nat) (him : i ≤ m) : (s.drop i).take (m - i) = (s.take m).drop i := by
  rw [List.drop_take]
/-- What the reference's token answers: the same where nothing is wrong, and what is wrong. -/
def OneIs (s : List UInt8) (i : Nat) (t a : Nat) (x : List UInt8) (k e : Nat) : Prop := e = (tok (s.drop i)).2.2.2 ∧ (e = 0 → t = (tok (s.drop i)).1 ∧ a = i ∧ x = (tok (s.drop i)).2.1 ∧ k = i + (tok (s.drop i)).2.2.1)
abbrev rtD (t a : Nat) (x : List UInt8) (k e : Nat) : D := .tuple [.agg (tokC t a x), .int .i64 k, .int .i64 e]
theorem one_small (s : List UInt8) (i : Nat) (hi : i < s.length) (hn : s.length < 1000000) (h1 : isSmall s[i] = true) : ∃ t a x k e, Ans (L m) 37 [.str s, .int .i64 i] (rtD t a x k e) ∧ OneIs s i t a x k e := by
  have hd : s.drop i = s[i] :: s.drop (i + 1) := List.drop_eq_getElem_cons hi
  have ht : tok (s.drop i) = (if isWord ((s.drop i).take (runL isInner (s.drop i))) then 2 else 1, (s.drop i).take (runL isInner (s.drop i)), runL isInner (s.drop i), if 20 < runL isInner (s.drop i) then 6 else 0) := by
    rw [hd]
    simp only [tok, h1, if_true]
  obtain ⟨w, hw⟩ : ∃ w, runL isInner (s.drop i) = w := ⟨_, rfl⟩
  have hwl : i + w ≤ s.length := by
    have := runL_le isInner (s.drop i)
    rw [List.length_drop] at this
    omega
  obtain ⟨q, hq⟩ : ∃ q, q = i + w := ⟨_, rfl⟩
  refine ⟨(tok (s.drop i)).1, i, (tok (s.drop i)).2.1, q, (tok (s.drop i)).2.2.2, ?_, rfl, fun _ => ⟨rfl, rfl, rfl, by rw [ht, hw]; exact hq⟩⟩
  have e0 : (s.drop i).take w = (s.take q).drop i := by rw [hq, ← take_at s i (i + w) (by omega)]; congr 1; omega
  rw [ht, hw, e0]
  obtain ⟨tx, htx⟩ : ∃ tx, (s.take q).drop i = tx := ⟨_, rfl⟩
  have htl : tx.length = w := by rw [← htx]; simp; omega
  have hword := rWord_ok (m := m) tx
  rw [htx]
  clear ht e0 hd
  have hqi : i ≤ q := by omega
  have hqi' : (i : Int) ≤ q := by omega
  have hql : (q : Int) ≤ s.length := by omega
  refine fn_of_body L_ok (fn := Try.f37) rfl rfl rfl rfl (by kernel_rfl) ?_
  have hii : (i : Int) < s.length := by omega
  have c1 := rsmall_ok (m := m) s[i]
  rw [h1] at c1
  repeat' (first
    | apply w_seq
    | apply w_region
    | apply o_end
    | apply t_normal
    | (apply o_val; exact kc0; exact kc2)
    | (apply o_fn fine; exact kc0; exact kc1; exact c1; exact kc3)
    | (apply o_mem; exact kc0; rfl; exact kc1)
    | apply w_block
    | (apply w_true; exact kc3)
    | fail)
  refine w_loop (fun n f H => ∃ (k : Nat), i ≤ k ∧ k ≤ s.length ∧ n = s.length - k ∧ H = [.cells 0 3 false [tokC 0 0 []], .cells 0 3 false [tokC 0 i []]] ∧ (∀ x (hx : x < s.length), i ≤ x → x < k → isInner (s[x]'hx) = true) ∧ f 0 = .str s ∧ f 1 = .int .i64 i ∧ f 4 = .ref 0 0 0 0 ∧ f 7 = .ref 1 0 0 0 ∧ f 8 = .int .i64 k) (s.length - i) ⟨i, by simp [*]; refine ⟨by omega, fun x hx h1 h2 => by omega⟩⟩ ?_
  rintro n f H ⟨k, hik, hk, rfl, rfl, hall, g0, g1, g4, g7, g8⟩
  by_cases hlt : k < s.length
  · have hki : (k : Int) < s.length := by omega
    have c2 := rsmall_ok (m := m) (s[k]'hlt)
    cases hp : isInner (s[k]'hlt)
    · obtain rfl : k = q := by
        have := runL_at hik hk hall (fun _ => hp)
        omega
      simp only [isInner] at hp
      clear hall c1 hq hw hwl hik hqi
      by_cases h20 : 20 < w
      · rw [if_pos h20]
        have h20i : (20 : Int) < w := by omega
        cases hwd : isWord tx
        · rw [hwd] at hword
          repeat' (first
            | apply w_seq
            | apply w_region
            | apply o_end
            | apply t_normal
            | (apply o_mpick; exact kc9; exact kd0; rfl; exact kd1; rfl; exact kd1; rfl)
            | (apply o_val; exact kc0; exact kc2)
            | (apply o_fn fine; exact kc0; exact kc1; exact c2; exact kc3)
            | (apply o_fn fine; exact kc0; exact kc1; exact hword; exact kc3)
            | (apply o_mem; exact kc0; rfl; exact kc1)
            | apply w_skip
            | apply b_normal
            | apply w_ret
            | apply t_ret
            | apply w_exit
            | apply t_exit
            | apply b_here
            | (apply w_true; exact kc3)
            | (apply w_false; exact kc3)
            | (apply o_no; exact ke7)
            | (apply o_maybe; exact kc9; exact kd0)
            | (apply w_drawA; rfl; exact ke3; exact kc4; exact kc4)
            | (apply a_end; exact kc4)
            | (apply a_val; exact kc4; exact kc5; exact kd9; exact kc6)
            | (apply a_tie; exact kc4; exact kc5; exact ke0; exact kc7; exact kc6; exact kc4)
            | (apply a_mem; exact kc4; exact kc5; exact ke1; exact kd8; exact kc7; exact kc6; exact kc4)
            | fail)
          apply f_retf
          · simp [*]; rfl
          · simp
          · rfl
        · rw [hwd] at hword
          repeat' (first
            | apply w_seq
            | apply w_region
            | apply o_end
            | apply t_normal
            | (apply o_mpick; exact kc9; exact kd0; rfl; exact kd1; rfl; exact kd1; rfl)
            | (apply o_val; exact kc0; exact kc2)
            | (apply o_fn fine; exact kc0; exact kc1; exact c2; exact kc3)
            | (apply o_fn fine; exact kc0; exact kc1; exact hword; exact kc3)
            | (apply o_mem; exact kc0; rfl; exact kc1)
            | apply b_normal
            | apply w_ret
            | apply t_ret
            | apply w_exit
            | apply t_exit
            | apply b_here
            | (apply w_true; exact kc3)
            | (apply w_false; exact kc3)
            | (apply o_no; exact ke7)
            | (apply o_maybe; exact kc9; exact kd0)
            | (apply w_drawA; rfl; exact ke3; exact kc4; exact kc4)
            | (apply a_end; exact kc4)
            | (apply a_val; exact kc4; exact kc5; exact kd9; exact kc6)
            | (apply a_tie; exact kc4; exact kc5; exact ke0; exact kc7; exact kc6; exact kc4)
            | (apply a_mem; exact kc4; exact kc5; exact ke1; exact kd8; exact kc7; exact kc6; exact kc4)
            | fail)
          apply f_retf
          · simp [*]; rfl
          · simp
          · rfl
      · rw [if_neg h20]
        have h20i : ¬ ((20 : Int) < w) := by omega
        cases hwd : isWord tx
        · rw [hwd] at hword
          repeat' (first
            | apply w_seq
            | apply w_region
            | apply o_end
            | apply t_normal
            | (apply o_mpick; exact kc9; exact kd0; rfl; exact kd1; rfl; exact kd1; rfl)
            | (apply o_val; exact kc0; exact kc2)
            | (apply o_fn fine; exact kc0; exact kc1; exact c2; exact kc3)
            | (apply o_fn fine; exact kc0; exact kc1; exact hword; exact kc3)
            | (apply o_mem; exact kc0; rfl; exact kc1)
            | apply w_skip
            | apply b_normal
            | apply w_ret
            | apply w_exit
            | apply t_exit
            | apply b_here
            | (apply w_false; exact kc3)
            | (apply o_no; exact ke7)
            | (apply o_maybe; exact kc9; exact kd0)
            | (apply w_drawA; rfl; exact ke3; exact kc4; exact kc4)
            | (apply a_end; exact kc4)
            | (apply a_val; exact kc4; exact kc5; exact kd9; exact kc6)
            | (apply a_tie; exact kc4; exact kc5; exact ke0; exact kc7; exact kc6; exact kc4)
            | (apply a_mem; exact kc4; exact kc5; exact ke1; exact kd8; exact kc7; exact kc6; exact kc4)
            | fail)
          apply f_retf
          · simp [*]; rfl
          · simp
          · rfl
        · rw [hwd] at hword
          repeat' (first
            | apply w_seq
            | apply w_region
            | apply o_end
            | apply t_normal
            | (apply o_mpick; exact kc9; exact kd0; rfl; exact kd1; rfl; exact kd1; rfl)
            | (apply o_val; exact kc0; exact kc2)
            | (apply o_fn fine; exact kc0; exact kc1; exact c2; exact kc3)
            | (apply o_fn fine; exact kc0; exact kc1; exact hword; exact kc3)
            | (apply o_mem; exact kc0; rfl; exact kc1)
            | apply w_skip
            | apply b_normal
            | apply w_ret
            | apply w_exit
            | apply t_exit
            | apply b_here
            | (apply w_true; exact kc3)
            | (apply w_false; exact kc3)
            | (apply o_no; exact ke7)
            | (apply o_maybe; exact kc9; exact kd0)
            | (apply w_drawA; rfl; exact ke3; exact kc4; exact kc4)
            | (apply a_end; exact kc4)
            | (apply a_val; exact kc4; exact kc5; exact kd9; exact kc6)
            | (apply a_tie; exact kc4; exact kc5; exact ke0; exact kc7; exact kc6; exact kc4)
            | (apply a_mem; exact kc4; exact kc5; exact ke1; exact kd8; exact kc7; exact kc6; exact kc4)
            | fail)
          apply f_retf
          · simp [*]; rfl
          · simp
          · rfl
    · have hall' : ∀ x (hx : x < s.length), i ≤ x → x < k + 1 → isInner (s[x]'hx) = true := fun x hx hxi hxm => by
        rcases Nat.lt_or_ge x k with h | h
        · exact hall x hx hxi h
        · obtain rfl : x = k := by omega
          exact hp
      simp only [isInner] at hp
      clear hall c1
      repeat' (first
        | apply w_seq
        | apply w_region
        | apply o_end
        | apply t_normal
        | (apply o_add; exact kc0; exact kc2; rfl; exact kc2; rfl; exact ke2)
        | (apply o_mpick; exact kc9; exact kd0; rfl; exact kd1; rfl; exact kd1; rfl)
        | (apply o_val; exact kc0; exact kc2)
        | (apply o_fn fine; exact kc0; exact kc1; exact c2; exact kc3)
        | apply w_skip
        | apply w_block
        | apply b_normal
        | (apply w_true; exact kc3)
        | (apply o_maybe; exact kc9; exact kd0)
        | fail)
      exact ⟨s.length - (k + 1), by omega, k + 1, by omega, by omega, rfl, rfl, hall', by simp [*]⟩
  · obtain rfl : k = q := by
      have := runL_at hik hk hall (fun h => absurd h hlt)
      omega
    have hki : ¬ ((k : Int) < s.length) := by omega
    clear hall c1 hq hw hwl hik hqi
    by_cases h20 : 20 < w
    · rw [if_pos h20]
      have h20i : (20 : Int) < w := by omega
      cases hwd : isWord tx
      · rw [hwd] at hword
        repeat' (first
          | apply w_seq
          | apply w_region
          | apply o_end
          | apply t_normal
          | (apply o_mpick; exact kc9; exact kd0; rfl; exact kd1; rfl; exact kd1; rfl)
          | (apply o_val; exact kc0; exact kc2)
          | (apply o_fn fine; exact kc0; exact kc1; exact hword; exact kc3)
          | (apply o_mem; exact kc0; rfl; exact kc1)
          | apply w_skip
          | apply b_normal
          | apply w_ret
          | apply t_ret
          | apply w_exit
          | apply t_exit
          | apply b_here
          | (apply w_true; exact kc3)
          | (apply w_false; exact kc3)
          | (apply o_no; exact ke7)
          | (apply w_drawA; rfl; exact ke3; exact kc4; exact kc4)
          | (apply a_end; exact kc4)
          | (apply a_val; exact kc4; exact kc5; exact kd9; exact kc6)
          | (apply a_tie; exact kc4; exact kc5; exact ke0; exact kc7; exact kc6; exact kc4)
          | (apply a_mem; exact kc4; exact kc5; exact ke1; exact kd8; exact kc7; exact kc6; exact kc4)
          | fail)
        apply f_retf
        · simp [*]; rfl
        · simp
        · rfl
      · rw [hwd] at hword
        repeat' (first
          | apply w_seq
          | apply w_region
          | apply o_end
          | apply t_normal
          | (apply o_mpick; exact kc9; exact kd0; rfl; exact kd1; rfl; exact kd1; rfl)
          | (apply o_val; exact kc0; exact kc2)
          | (apply o_fn fine; exact kc0; exact kc1; exact hword; exact kc3)
          | (apply o_mem; exact kc0; rfl; exact kc1)
          | apply b_normal
          | apply w_ret
          | apply t_ret
          | apply w_exit
          | apply t_exit
          | apply b_here
          | (apply w_true; exact kc3)
          | (apply w_false; exact kc3)
          | (apply o_no; exact ke7)
          | (apply w_drawA; rfl; exact ke3; exact kc4; exact kc4)
          | (apply a_end; exact kc4)
          | (apply a_val; exact kc4; exact kc5; exact kd9; exact kc6)
          | (apply a_tie; exact kc4; exact kc5; exact ke0; exact kc7; exact kc6; exact kc4)
          | (apply a_mem; exact kc4; exact kc5; exact ke1; exact kd8; exact kc7; exact kc6; exact kc4)
          | fail)
        apply f_retf
        · simp [*]; rfl
        · simp
        · rfl
    · rw [if_neg h20]
      have h20i : ¬ ((20 : Int) < w) := by omega
      cases hwd : isWord tx
      · rw [hwd] at hword
        repeat' (first
          | apply w_seq
          | apply w_region
          | apply o_end
          | apply t_normal
          | (apply o_mpick; exact kc9; exact kd0; rfl; exact kd1; rfl; exact kd1; rfl)
          | (apply o_val; exact kc0; exact kc2)
          | (apply o_fn fine; exact kc0; exact kc1; exact hword; exact kc3)
          | (apply o_mem; exact kc0; rfl; exact kc1)
          | apply w_skip
          | apply b_normal
          | apply w_ret
          | apply w_exit
          | apply t_exit
          | apply b_here
          | (apply w_false; exact kc3)
          | (apply o_no; exact ke7)
          | (apply w_drawA; rfl; exact ke3; exact kc4; exact kc4)
          | (apply a_end; exact kc4)
          | (apply a_val; exact kc4; exact kc5; exact kd9; exact kc6)
          | (apply a_tie; exact kc4; exact kc5; exact ke0; exact kc7; exact kc6; exact kc4)
          | (apply a_mem; exact kc4; exact kc5; exact ke1; exact kd8; exact kc7; exact kc6; exact kc4)
          | fail)
        apply f_retf
        · simp [*]; rfl
        · simp
        · rfl
      · rw [hwd] at hword
        repeat' (first
          | apply w_seq
          | apply w_region
          | apply o_end
          | apply t_normal
          | (apply o_mpick; exact kc9; exact kd0; rfl; exact kd1; rfl; exact kd1; rfl)
          | (apply o_val; exact kc0; exact kc2)
          | (apply o_fn fine; exact kc0; exact kc1; exact hword; exact kc3)
          | (apply o_mem; exact kc0; rfl; exact kc1)
          | apply w_skip
          | apply b_normal
          | apply w_ret
          | apply w_exit
          | apply t_exit
          | apply b_here
          | (apply w_true; exact kc3)
          | (apply w_false; exact kc3)
          | (apply o_no; exact ke7)
          | (apply w_drawA; rfl; exact ke3; exact kc4; exact kc4)
          | (apply a_end; exact kc4)
          | (apply a_val; exact kc4; exact kc5; exact kd9; exact kc6)
          | (apply a_tie; exact kc4; exact kc5; exact ke0; exact kc7; exact kc6; exact kc4)
          | (apply a_mem; exact kc4; exact kc5; exact ke1; exact kd8; exact kc7; exact kc6; exact kc4)
          | fail)
        apply f_retf
        · simp [*]; rfl
        · simp
        · rfl
theorem one_caps (s : List UInt8) (i : Nat) (hi : i < s.length) (hn : s.length < 1000000) (h1 : isSmall s[i] = false) (h2 : isCap s[i] = true) : ∃ t a x k e, Ans (L m) 37 [.str s, .int .i64 i] (rtD t a x k e) ∧ OneIs s i t a x k e := by
  have hd : s.drop i = s[i] :: s.drop (i + 1) := List.drop_eq_getElem_cons hi
  have ht : tok (s.drop i) = (5, (s.drop i).take (runL isCap (s.drop i)), runL isCap (s.drop i), if 20 < runL isCap (s.drop i) then 6 else 0) := by
    rw [hd]
    simp only [tok, h1, h2, if_true, if_false, Bool.false_eq_true]
  obtain ⟨w, hw⟩ : ∃ w, runL isCap (s.drop i) = w := ⟨_, rfl⟩
  have hwl : i + w ≤ s.length := by
    have := runL_le isCap (s.drop i)
    rw [List.length_drop] at this
    omega
  obtain ⟨q, hq⟩ : ∃ q, q = i + w := ⟨_, rfl⟩
  refine ⟨(tok (s.drop i)).1, i, (tok (s.drop i)).2.1, q, (tok (s.drop i)).2.2.2, ?_, rfl, fun _ => ⟨rfl, rfl, rfl, by rw [ht, hw]; exact hq⟩⟩
  have e0 : (s.drop i).take w = (s.take q).drop i := by rw [hq, ← take_at s i (i + w) (by omega)]; congr 1; omega
  rw [ht, hw, e0]
  obtain ⟨tx, htx⟩ : ∃ tx, (s.take q).drop i = tx := ⟨_, rfl⟩
  have htl : tx.length = w := by rw [← htx]; simp; omega
  rw [htx]
  clear ht e0 hd
  have hqi : i ≤ q := by omega
  have hqi' : (i : Int) ≤ q := by omega
  have hql : (q : Int) ≤ s.length := by omega
  refine fn_of_body L_ok (fn := Try.f37) rfl rfl rfl rfl (by kernel_rfl) ?_
  have hii : (i : Int) < s.length := by omega
  have c1 := rsmall_ok (m := m) s[i]
  rw [h1] at c1
  have c0 := rcaps_ok (m := m) s[i]
  rw [h2] at c0
  repeat' (first
    | apply w_seq
    | apply w_region
    | apply o_end
    | apply t_normal
    | (apply o_val; exact kc0; exact kc2)
    | (apply o_fn fine; exact kc0; exact kc1; exact c1; exact kc3)
    | (apply o_fn fine; exact kc0; exact kc1; exact c0; exact kc3)
    | (apply o_mem; exact kc0; rfl; exact kc1)
    | apply w_block
    | (apply w_true; exact kc3)
    | (apply w_false; exact kc3)
    | fail)
  refine w_loop (fun n f H => ∃ (k : Nat), i ≤ k ∧ k ≤ s.length ∧ n = s.length - k ∧ H = [.cells 0 3 false [tokC 0 0 []], .cells 0 3 false [tokC 0 i []]] ∧ (∀ x (hx : x < s.length), i ≤ x → x < k → isCap (s[x]'hx) = true) ∧ f 0 = .str s ∧ f 1 = .int .i64 i ∧ f 4 = .ref 0 0 0 0 ∧ f 7 = .ref 1 0 0 0 ∧ f 8 = .int .i64 k) (s.length - i) ⟨i, by simp [*]; refine ⟨by omega, fun x hx h1 h2 => by omega⟩⟩ ?_
  rintro n f H ⟨k, hik, hk, rfl, rfl, hall, g0, g1, g4, g7, g8⟩
  by_cases hlt : k < s.length
  · have hki : (k : Int) < s.length := by omega
    have c2 := rcaps_ok (m := m) (s[k]'hlt)
    cases hp : isCap (s[k]'hlt)
    · obtain rfl : k = q := by
        have := runL_at hik hk hall (fun _ => hp)
        omega
      rw [hp] at c2
      clear hall c1 c0 hq hw hwl hik hqi
      by_cases h20 : 20 < w
      · rw [if_pos h20]
        have h20i : (20 : Int) < w := by omega
        repeat' (first
          | apply w_seq
          | apply w_region
          | apply o_end
          | apply t_normal
          | (apply o_mpick; exact kc9; exact kd0; rfl; exact kd1; rfl; exact kd1; rfl)
          | (apply o_val; exact kc0; exact kc2)
          | (apply o_fn fine; exact kc0; exact kc1; exact c2; exact kc3)
          | (apply o_mem; exact kc0; rfl; exact kc1)
          | apply b_normal
          | apply w_ret
          | apply t_ret
          | apply w_exit
          | apply t_exit
          | apply b_here
          | (apply w_true; exact kc3)
          | (apply w_false; exact kc3)
          | (apply o_no; exact ke7)
          | (apply w_drawA; rfl; exact ke3; exact kc4; exact kc4)
          | (apply a_end; exact kc4)
          | (apply a_val; exact kc4; exact kc5; exact kd9; exact kc6)
          | (apply a_tie; exact kc4; exact kc5; exact ke0; exact kc7; exact kc6; exact kc4)
          | (apply a_mem; exact kc4; exact kc5; exact ke1; exact kd8; exact kc7; exact kc6; exact kc4)
          | fail)
        apply f_retf
        · simp [*]; rfl
        · simp
        · rfl
      · rw [if_neg h20]
        have h20i : ¬ ((20 : Int) < w) := by omega
        repeat' (first
          | apply w_seq
          | apply w_region
          | apply o_end
          | apply t_normal
          | (apply o_mpick; exact kc9; exact kd0; rfl; exact kd1; rfl; exact kd1; rfl)
          | (apply o_val; exact kc0; exact kc2)
          | (apply o_fn fine; exact kc0; exact kc1; exact c2; exact kc3)
          | (apply o_mem; exact kc0; rfl; exact kc1)
          | apply w_skip
          | apply b_normal
          | apply w_ret
          | apply w_exit
          | apply t_exit
          | apply b_here
          | (apply w_false; exact kc3)
          | (apply o_no; exact ke7)
          | (apply w_drawA; rfl; exact ke3; exact kc4; exact kc4)
          | (apply a_end; exact kc4)
          | (apply a_val; exact kc4; exact kc5; exact kd9; exact kc6)
          | (apply a_tie; exact kc4; exact kc5; exact ke0; exact kc7; exact kc6; exact kc4)
          | (apply a_mem; exact kc4; exact kc5; exact ke1; exact kd8; exact kc7; exact kc6; exact kc4)
          | fail)
        apply f_retf
        · simp [*]; rfl
        · simp
        · rfl
    · have hall' : ∀ x (hx : x < s.length), i ≤ x → x < k + 1 → isCap (s[x]'hx) = true := fun x hx hxi hxm => by
        rcases Nat.lt_or_ge x k with h | h
        · exact hall x hx hxi h
        · obtain rfl : x = k := by omega
          exact hp
      rw [hp] at c2
      clear hall c1 c0
      repeat' (first
        | apply w_seq
        | apply w_region
        | apply o_end
        | apply t_normal
        | (apply o_add; exact kc0; exact kc2; rfl; exact kc2; rfl; exact ke2)
        | (apply o_mpick; exact kc9; exact kd0; rfl; exact kd1; rfl; exact kd1; rfl)
        | (apply o_val; exact kc0; exact kc2)
        | (apply o_fn fine; exact kc0; exact kc1; exact c2; exact kc3)
        | apply w_skip
        | apply w_block
        | apply b_normal
        | (apply w_true; exact kc3)
        | fail)
      exact ⟨s.length - (k + 1), by omega, k + 1, by omega, by omega, rfl, rfl, hall', by simp [*]⟩
  · obtain rfl : k = q := by
      have := runL_at hik hk hall (fun h => absurd h hlt)
      omega
    have hki : ¬ ((k : Int) < s.length) := by omega
    clear hall c1 c0 hq hw hwl hik hqi
    by_cases h20 : 20 < w
    · rw [if_pos h20]
      have h20i : (20 : Int) < w := by omega
      repeat' (first
        | apply w_seq
        | apply w_region
        | apply o_end
        | apply t_normal
        | (apply o_mpick; exact kc9; exact kd0; rfl; exact kd1; rfl; exact kd1; rfl)
        | (apply o_val; exact kc0; exact kc2)
        | (apply o_mem; exact kc0; rfl; exact kc1)
        | apply b_normal
        | apply w_ret
        | apply t_ret
        | apply w_exit
        | apply t_exit
        | apply b_here
        | (apply w_true; exact kc3)
        | (apply w_false; exact kc3)
        | (apply o_no; exact ke7)
        | (apply w_drawA; rfl; exact ke3; exact kc4; exact kc4)
        | (apply a_end; exact kc4)
        | (apply a_val; exact kc4; exact kc5; exact kd9; exact kc6)
        | (apply a_tie; exact kc4; exact kc5; exact ke0; exact kc7; exact kc6; exact kc4)
        | (apply a_mem; exact kc4; exact kc5; exact ke1; exact kd8; exact kc7; exact kc6; exact kc4)
        | fail)
      apply f_retf
      · simp [*]; rfl
      · simp
      · rfl
    · rw [if_neg h20]
      have h20i : ¬ ((20 : Int) < w) := by omega
      repeat' (first
        | apply w_seq
        | apply w_region
        | apply o_end
        | apply t_normal
        | (apply o_mpick; exact kc9; exact kd0; rfl; exact kd1; rfl; exact kd1; rfl)
        | (apply o_val; exact kc0; exact kc2)
        | (apply o_mem; exact kc0; rfl; exact kc1)
        | apply w_skip
        | apply b_normal
        | apply w_ret
        | apply w_exit
        | apply t_exit
        | apply b_here
        | (apply w_false; exact kc3)
        | (apply o_no; exact ke7)
        | (apply w_drawA; rfl; exact ke3; exact kc4; exact kc4)
        | (apply a_end; exact kc4)
        | (apply a_val; exact kc4; exact kc5; exact kd9; exact kc6)
        | (apply a_tie; exact kc4; exact kc5; exact ke0; exact kc7; exact kc6; exact kc4)
        | (apply a_mem; exact kc4; exact kc5; exact ke1; exact kd8; exact kc7; exact kc6; exact kc4)
        | fail)
      apply f_retf
      · simp [*]; rfl
      · simp
      · rfl
end Go.Proofs.Ytknkkfdkcemolaa.Vm
end
section
/- Walks: the reference's token, texts, signs, and all together. -/
set_option linter.unusedSimpArgs false
set_option linter.unusedVariables false
set_option maxRecDepth 100000
set_option maxHeartbeats 4000000
namespace Go.Proofs.Ytknkkfdkcemolaa.Vm
open Go
variable {m : Int}
attribute [local irreducible] wpD opsD thenD blockD planD planA
attribute [local simp] List.take_of_length_le List.drop_of_length_le bne mvD

theorem tok_quote {c : UInt8} {r : List UInt8} (h1 : isSmall c = false) (h2 : isCap c = false) (h3 : isB c 34 = true) : tok (c :: r) = if runL isQuoted r + 1 == r.length + 1 || !isB (r.getD (runL isQuoted r) 0) 34 then (0, [], 0, 3) else (3, r.take (runL isQuoted r), runL isQuoted r + 2, if 200 < runL isQuoted r then 6 else 0) := by
  simp only [tok, h1, h2, h3, if_true, if_false, Bool.false_eq_true, List.drop_succ_cons, List.drop_zero, getD_succ, List.length_cons, List.take_succ_cons]
theorem tok_sign {c : UInt8} {r : List UInt8} (h1 : isSmall c = false) (h2 : isCap c = false) (h3 : isB c 34 = false) : tok (c :: r) = if isSign c then (4, [c], 1, 0) else (0, [], 0, 3) := by
  simp only [tok, h1, h2, h3, if_false, Bool.false_eq_true, List.take_succ_cons, List.take_zero]
theorem one_open (s : List UInt8) (i q : Nat) (hi : i < s.length) (hn : s.length < 1000000) (h1 : isSmall s[i] = false) (h2 : isCap s[i] = false) (h3 : isB s[i] 34 = true) (hq : runL isQuoted (s.drop (i + 1)) = q - (i + 1)) (hqi : i + 1 ≤ q) (hqs : q ≤ s.length) (hw : q = s.length) : Ans (L m) 37 [.str s, .int .i64 i] (rtD 0 i [] q 3) := by
  skip
  have hqi' : (i : Int) ≤ q := by omega
  have hqi2 : (i : Int) + 1 ≤ q := by omega
  have hql : (q : Int) ≤ s.length := by omega
  have hi0 : (0 : Int) ≤ (i : Int) + 1 := by omega
  have hit : ((i : Int) + 1).toNat = i + 1 := by omega
  have hiw : IntKind.i64.wrap ((i : Int) + 1) = (i : Int) + 1 := wrap_i64 (by omega) (by omega)
  refine fn_of_body L_ok (fn := Try.f37) rfl rfl rfl rfl (by kernel_rfl) ?_
  have hii : (i : Int) < s.length := by omega
  have c1 := rsmall_ok (m := m) s[i]
  rw [h1] at c1
  have c0 := rcaps_ok (m := m) s[i]
  rw [h2] at c0
  repeat' (first
    | apply w_seq
    | apply w_region
    | apply o_end
    | apply t_normal
    | (apply o_add; exact kc0; exact kc2; rfl; exact kc2; rfl; exact ke2)
    | (apply o_val; exact kc0; exact kc2)
    | (apply o_fn fine; exact kc0; exact kc1; exact c1; exact kc3)
    | (apply o_fn fine; exact kc0; exact kc1; exact c0; exact kc3)
    | (apply o_mem; exact kc0; rfl; exact kc1)
    | apply w_block
    | (apply w_true; exact kc3)
    | (apply w_false; exact kc3)
    | fail)
  refine w_loop (fun n f H => ∃ (k : Nat), i + 1 ≤ k ∧ k ≤ s.length ∧ n = s.length - k ∧ H = [.cells 0 3 false [tokC 0 0 []], .cells 0 3 false [tokC 0 i []]] ∧ (∀ x (hx : x < s.length), i + 1 ≤ x → x < k → isQuoted (s[x]'hx) = true) ∧ f 0 = .str s ∧ f 1 = .int .i64 i ∧ f 4 = .ref 0 0 0 0 ∧ f 7 = .ref 1 0 0 0 ∧ f 8 = .int .i64 k) (s.length - (i + 1)) ⟨i + 1, by simp [*]; refine ⟨by omega, fun x hx h1 h2 => by omega⟩⟩ ?_
  rintro n f H ⟨k, hik, hk, rfl, rfl, hall, g0, g1, g4, g7, g8⟩
  by_cases hlt : k < s.length
  · have hki : (k : Int) < s.length := by omega
    cases hp : isQuoted (s[k]'hlt)
    · obtain rfl : k = q := by
        have := runL_at hik hk hall (fun _ => hp)
        omega
      simp only [isQuoted] at hp
      clear hall c1 c0 hq hik hqi
      omega
    · have hall' : ∀ x (hx : x < s.length), i + 1 ≤ x → x < k + 1 → isQuoted (s[x]'hx) = true := fun x hx hxi hxm => by
        rcases Nat.lt_or_ge x k with h | h
        · exact hall x hx hxi h
        · obtain rfl : x = k := by omega
          exact hp
      simp only [isQuoted] at hp
      clear hall c1 c0
      clear hw
      repeat' (first
        | apply w_seq
        | apply w_region
        | apply o_end
        | apply t_normal
        | (apply o_add; exact kc0; exact kc2; rfl; exact kc2; rfl; exact ke2)
        | (apply o_mpick; exact kc9; exact kd0; rfl; exact kd1; rfl; exact kd1; rfl)
        | (apply o_val; exact kc0; exact kc2)
        | apply w_skip
        | apply w_block
        | apply b_normal
        | (apply w_true; exact kc3)
        | (apply o_maybe; exact kc9; exact kd0)
        | fail)
      exact ⟨s.length - (k + 1), by omega, k + 1, by omega, by omega, rfl, rfl, hall', by simp [*]⟩
  · obtain rfl : k = q := by
      have := runL_at hik hk hall (fun h => absurd h hlt)
      omega
    have hki : ¬ ((k : Int) < s.length) := by omega
    clear hall c1 c0 hq hik hqi
    have hge : (s.length : Int) ≤ k := by omega
    clear hw
    repeat' (first
      | apply w_seq
      | apply w_region
      | apply o_end
      | apply t_normal
      | (apply o_val; exact kc0; exact kc2)
      | (apply o_mem; exact kc0; rfl; exact kc1)
      | apply w_ret
      | apply t_ret
      | apply b_ret
      | apply w_exit
      | apply t_exit
      | apply b_here
      | (apply w_true; exact kc3)
      | (apply w_false; exact kc3)
      | (apply o_no; exact ke7)
      | fail)
    apply f_retf
    · simp [*]; rfl
    · simp
    · rfl
theorem one_odd (s : List UInt8) (i q : Nat) (hi : i < s.length) (hn : s.length < 1000000) (h1 : isSmall s[i] = false) (h2 : isCap s[i] = false) (h3 : isB s[i] 34 = true) (hq : runL isQuoted (s.drop (i + 1)) = q - (i + 1)) (hqi : i + 1 ≤ q) (hqs : q ≤ s.length) (hw : q < s.length) (hw2 : isB (s[q]'hw) 34 = false) : Ans (L m) 37 [.str s, .int .i64 i] (rtD 0 i [] q 3) := by
  skip
  have hqi' : (i : Int) ≤ q := by omega
  have hqi2 : (i : Int) + 1 ≤ q := by omega
  have hql : (q : Int) ≤ s.length := by omega
  have hi0 : (0 : Int) ≤ (i : Int) + 1 := by omega
  have hit : ((i : Int) + 1).toNat = i + 1 := by omega
  have hiw : IntKind.i64.wrap ((i : Int) + 1) = (i : Int) + 1 := wrap_i64 (by omega) (by omega)
  refine fn_of_body L_ok (fn := Try.f37) rfl rfl rfl rfl (by kernel_rfl) ?_
  have hii : (i : Int) < s.length := by omega
  have c1 := rsmall_ok (m := m) s[i]
  rw [h1] at c1
  have c0 := rcaps_ok (m := m) s[i]
  rw [h2] at c0
  repeat' (first
    | apply w_seq
    | apply w_region
    | apply o_end
    | apply t_normal
    | (apply o_add; exact kc0; exact kc2; rfl; exact kc2; rfl; exact ke2)
    | (apply o_val; exact kc0; exact kc2)
    | (apply o_fn fine; exact kc0; exact kc1; exact c1; exact kc3)
    | (apply o_fn fine; exact kc0; exact kc1; exact c0; exact kc3)
    | (apply o_mem; exact kc0; rfl; exact kc1)
    | apply w_block
    | (apply w_true; exact kc3)
    | (apply w_false; exact kc3)
    | fail)
  refine w_loop (fun n f H => ∃ (k : Nat), i + 1 ≤ k ∧ k ≤ s.length ∧ n = s.length - k ∧ H = [.cells 0 3 false [tokC 0 0 []], .cells 0 3 false [tokC 0 i []]] ∧ (∀ x (hx : x < s.length), i + 1 ≤ x → x < k → isQuoted (s[x]'hx) = true) ∧ f 0 = .str s ∧ f 1 = .int .i64 i ∧ f 4 = .ref 0 0 0 0 ∧ f 7 = .ref 1 0 0 0 ∧ f 8 = .int .i64 k) (s.length - (i + 1)) ⟨i + 1, by simp [*]; refine ⟨by omega, fun x hx h1 h2 => by omega⟩⟩ ?_
  rintro n f H ⟨k, hik, hk, rfl, rfl, hall, g0, g1, g4, g7, g8⟩
  by_cases hlt : k < s.length
  · have hki : (k : Int) < s.length := by omega
    cases hp : isQuoted (s[k]'hlt)
    · obtain rfl : k = q := by
        have := runL_at hik hk hall (fun _ => hp)
        omega
      simp only [isQuoted] at hp
      clear hall c1 c0 hq hik hqi
      have hge : ¬ ((s.length : Int) ≤ k) := by omega
      rw [hw2] at hp
      simp only [Bool.not_false, Bool.and_true] at hp
      repeat' (first
        | apply w_seq
        | apply w_region
        | apply o_end
        | apply t_normal
        | (apply o_mpick; exact kc9; exact kd0; rfl; exact kd1; rfl; exact kd1; rfl)
        | (apply o_val; exact kc0; exact kc2)
        | (apply o_mem; exact kc0; rfl; exact kc1)
        | apply w_ret
        | apply t_ret
        | apply b_ret
        | apply w_exit
        | apply t_exit
        | apply b_here
        | (apply w_true; exact kc3)
        | (apply w_false; exact kc3)
        | (apply o_no; exact ke7)
        | (apply o_maybe; exact kc9; exact kd0)
        | fail)
      apply f_retf
      · simp [*]; rfl
      · simp
      · rfl
    · have hall' : ∀ x (hx : x < s.length), i + 1 ≤ x → x < k + 1 → isQuoted (s[x]'hx) = true := fun x hx hxi hxm => by
        rcases Nat.lt_or_ge x k with h | h
        · exact hall x hx hxi h
        · obtain rfl : x = k := by omega
          exact hp
      simp only [isQuoted] at hp
      clear hall c1 c0
      clear hw2
      repeat' (first
        | apply w_seq
        | apply w_region
        | apply o_end
        | apply t_normal
        | (apply o_add; exact kc0; exact kc2; rfl; exact kc2; rfl; exact ke2)
        | (apply o_mpick; exact kc9; exact kd0; rfl; exact kd1; rfl; exact kd1; rfl)
        | (apply o_val; exact kc0; exact kc2)
        | apply w_skip
        | apply w_block
        | apply b_normal
        | (apply w_true; exact kc3)
        | (apply o_maybe; exact kc9; exact kd0)
        | fail)
      exact ⟨s.length - (k + 1), by omega, k + 1, by omega, by omega, rfl, rfl, hall', by simp [*]⟩
  · obtain rfl : k = q := by
      have := runL_at hik hk hall (fun h => absurd h hlt)
      omega
    have hki : ¬ ((k : Int) < s.length) := by omega
    clear hall c1 c0 hq hik hqi
    omega
theorem one_text (s : List UInt8) (i q : Nat) (hi : i < s.length) (hn : s.length < 1000000) (h1 : isSmall s[i] = false) (h2 : isCap s[i] = false) (h3 : isB s[i] 34 = true) (hq : runL isQuoted (s.drop (i + 1)) = q - (i + 1)) (hqi : i + 1 ≤ q) (hqs : q ≤ s.length) (hw : q < s.length) (hw2 : isB (s[q]'hw) 34 = true) (tx : List UInt8) (htx : (s.take q).drop (i + 1) = tx) : Ans (L m) 37 [.str s, .int .i64 i] (rtD 3 i tx (q + 1) (if 200 < tx.length then 6 else 0)) := by
  skip
  have hqi' : (i : Int) ≤ q := by omega
  have hqi2 : (i : Int) + 1 ≤ q := by omega
  have hql : (q : Int) ≤ s.length := by omega
  have hi0 : (0 : Int) ≤ (i : Int) + 1 := by omega
  have hit : ((i : Int) + 1).toNat = i + 1 := by omega
  have hiw : IntKind.i64.wrap ((i : Int) + 1) = (i : Int) + 1 := wrap_i64 (by omega) (by omega)
  refine fn_of_body L_ok (fn := Try.f37) rfl rfl rfl rfl (by kernel_rfl) ?_
  have hii : (i : Int) < s.length := by omega
  have c1 := rsmall_ok (m := m) s[i]
  rw [h1] at c1
  have c0 := rcaps_ok (m := m) s[i]
  rw [h2] at c0
  repeat' (first
    | apply w_seq
    | apply w_region
    | apply o_end
    | apply t_normal
    | (apply o_add; exact kc0; exact kc2; rfl; exact kc2; rfl; exact ke2)
    | (apply o_val; exact kc0; exact kc2)
    | (apply o_fn fine; exact kc0; exact kc1; exact c1; exact kc3)
    | (apply o_fn fine; exact kc0; exact kc1; exact c0; exact kc3)
    | (apply o_mem; exact kc0; rfl; exact kc1)
    | apply w_block
    | (apply w_true; exact kc3)
    | (apply w_false; exact kc3)
    | fail)
  refine w_loop (fun n f H => ∃ (k : Nat), i + 1 ≤ k ∧ k ≤ s.length ∧ n = s.length - k ∧ H = [.cells 0 3 false [tokC 0 0 []], .cells 0 3 false [tokC 0 i []]] ∧ (∀ x (hx : x < s.length), i + 1 ≤ x → x < k → isQuoted (s[x]'hx) = true) ∧ f 0 = .str s ∧ f 1 = .int .i64 i ∧ f 4 = .ref 0 0 0 0 ∧ f 7 = .ref 1 0 0 0 ∧ f 8 = .int .i64 k) (s.length - (i + 1)) ⟨i + 1, by simp [*]; refine ⟨by omega, fun x hx h1 h2 => by omega⟩⟩ ?_
  rintro n f H ⟨k, hik, hk, rfl, rfl, hall, g0, g1, g4, g7, g8⟩
  by_cases hlt : k < s.length
  · have hki : (k : Int) < s.length := by omega
    cases hp : isQuoted (s[k]'hlt)
    · obtain rfl : k = q := by
        have := runL_at hik hk hall (fun _ => hp)
        omega
      simp only [isQuoted] at hp
      clear hall c1 c0 hq hik hqi
      have hge : ¬ ((s.length : Int) ≤ k) := by omega
      by_cases h20 : 200 < tx.length
      · rw [if_pos h20]
        have h20i : (200 : Int) < tx.length := by omega
        repeat' (first
          | apply w_seq
          | apply w_region
          | apply o_end
          | apply t_normal
          | (apply o_add; exact kc0; exact kc2; rfl; exact kc2; rfl; exact ke2)
          | (apply o_mpick; exact kc9; exact kd0; rfl; exact kd1; rfl; exact kd1; rfl)
          | (apply o_val; exact kc0; exact kc2)
          | (apply o_mem; exact kc0; rfl; exact kc1)
          | apply w_skip
          | apply b_normal
          | apply w_ret
          | apply t_ret
          | apply w_exit
          | apply t_exit
          | apply b_here
          | (apply w_true; exact kc3)
          | (apply w_false; exact kc3)
          | (apply o_no; exact ke7)
          | (apply o_maybe; exact kc9; exact kd0)
          | (apply w_drawA; rfl; exact ke3; exact kc4; exact kc4)
          | (apply a_end; exact kc4)
          | (apply a_val; exact kc4; exact kc5; exact kd9; exact kc6)
          | (apply a_tie; exact kc4; exact kc5; exact ke0; exact kc7; exact kc6; exact kc4)
          | (apply a_mem; exact kc4; exact kc5; exact ke1; exact kd8; exact kc7; exact kc6; exact kc4)
          | fail)
        apply f_retf
        · simp [*]; rfl
        · simp
        · rfl
      · rw [if_neg h20]
        have h20i : ¬ ((200 : Int) < tx.length) := by omega
        repeat' (first
          | apply w_seq
          | apply w_region
          | apply o_end
          | apply t_normal
          | (apply o_add; exact kc0; exact kc2; rfl; exact kc2; rfl; exact ke2)
          | (apply o_mpick; exact kc9; exact kd0; rfl; exact kd1; rfl; exact kd1; rfl)
          | (apply o_val; exact kc0; exact kc2)
          | (apply o_mem; exact kc0; rfl; exact kc1)
          | apply w_skip
          | apply b_normal
          | apply w_ret
          | apply w_exit
          | apply t_exit
          | apply b_here
          | (apply w_false; exact kc3)
          | (apply o_no; exact ke7)
          | (apply o_maybe; exact kc9; exact kd0)
          | (apply w_drawA; rfl; exact ke3; exact kc4; exact kc4)
          | (apply a_end; exact kc4)
          | (apply a_val; exact kc4; exact kc5; exact kd9; exact kc6)
          | (apply a_tie; exact kc4; exact kc5; exact ke0; exact kc7; exact kc6; exact kc4)
          | (apply a_mem; exact kc4; exact kc5; exact ke1; exact kd8; exact kc7; exact kc6; exact kc4)
          | fail)
        apply f_retf
        · simp [*]; rfl
        · simp
        · rfl
    · have hall' : ∀ x (hx : x < s.length), i + 1 ≤ x → x < k + 1 → isQuoted (s[x]'hx) = true := fun x hx hxi hxm => by
        rcases Nat.lt_or_ge x k with h | h
        · exact hall x hx hxi h
        · obtain rfl : x = k := by omega
          exact hp
      simp only [isQuoted] at hp
      clear hall c1 c0
      clear hw2
      repeat' (first
        | apply w_seq
        | apply w_region
        | apply o_end
        | apply t_normal
        | (apply o_add; exact kc0; exact kc2; rfl; exact kc2; rfl; exact ke2)
        | (apply o_mpick; exact kc9; exact kd0; rfl; exact kd1; rfl; exact kd1; rfl)
        | (apply o_val; exact kc0; exact kc2)
        | apply w_skip
        | apply w_block
        | apply b_normal
        | (apply w_true; exact kc3)
        | (apply o_maybe; exact kc9; exact kd0)
        | fail)
      exact ⟨s.length - (k + 1), by omega, k + 1, by omega, by omega, rfl, rfl, hall', by simp [*]⟩
  · obtain rfl : k = q := by
      have := runL_at hik hk hall (fun h => absurd h hlt)
      omega
    have hki : ¬ ((k : Int) < s.length) := by omega
    clear hall c1 c0 hq hik hqi
    omega
end Go.Proofs.Ytknkkfdkcemolaa.Vm
end
section
/- Walks: the reference's tokens. -/
set_option linter.unusedSimpArgs false
set_option linter.unusedVariables false
set_option maxRecDepth 100000
set_option maxHeartbeats 4000000
namespace Go.Proofs.Ytknkkfdkcemolaa.Vm
open Go
variable {m : Int}
attribute [local irreducible] wpD opsD thenD blockD planD planA
attribute [local simp] List.take_of_length_le List.drop_of_length_le bne mvD

theorem one_sign (s : List UInt8) (i : Nat) (hi : i < s.length) (hn : s.length < 1000000) (h1 : isSmall s[i] = false) (h2 : isCap s[i] = false) (h3 : isB s[i] 34 = false) (h4 : isSign s[i] = true) : Ans (L m) 37 [.str s, .int .i64 i] (rtD 4 i [s[i]] (i + 1) 0) := by
  have hx : (s.take (i + 1)).drop i = [s[i]] := by
    rw [List.drop_take, Nat.add_sub_cancel_left, List.drop_eq_getElem_cons hi]
    rfl
  have hi0 : (0 : Int) ≤ (i : Int) + 1 := by omega
  have hit : ((i : Int) + 1).toNat = i + 1 := by omega
  have hii : (i : Int) < s.length := by omega
  have hi1 : (i : Int) ≤ (i : Int) + 1 := by omega
  have hi2 : (i : Int) + 1 ≤ s.length := by omega
  refine fn_of_body L_ok (fn := Try.f37) rfl rfl rfl rfl (by kernel_rfl) ?_
  have c1 := rsmall_ok (m := m) s[i]
  rw [h1] at c1
  have c0 := rcaps_ok (m := m) s[i]
  rw [h2] at c0
  have hx' : ∀ h, [s[i]'h] = [s[i]'hi] := fun _ => rfl
  repeat' (first
    | apply w_seq
    | apply w_region
    | apply o_end
    | apply t_normal
    | (apply o_add; exact kc0; exact kc2; rfl; exact kc2; rfl; exact ke2)
    | (apply o_val; exact kc0; exact kc2)
    | (apply o_fn fine; exact kc0; exact kc1; exact c1; exact kc3)
    | (apply o_fn fine; exact kc0; exact kc1; exact c0; exact kc3)
    | (apply o_mem; exact kc0; rfl; exact kc1)
    | apply w_skip
    | apply w_block
    | apply b_normal
    | apply w_ret
    | apply t_ret
    | apply b_ret
    | (apply w_true; exact kc3)
    | (apply w_false; exact kc3)
    | ((apply w_cond; exact kc2; rfl) <;> (intro hc; have hc' := hc; try simp at hc'))
    | fail)
  all_goals first | (exfalso; simp_all [isSign]; done) | skip
  all_goals (apply f_retf; (focus (simp [*]; rfl)); (focus (simp; done)); (focus rfl))
theorem one_bad (s : List UInt8) (i : Nat) (hi : i < s.length) (hn : s.length < 1000000) (h1 : isSmall s[i] = false) (h2 : isCap s[i] = false) (h3 : isB s[i] 34 = false) (h4 : isSign s[i] = false) : Ans (L m) 37 [.str s, .int .i64 i] (rtD 0 i [] i 3) := by
  have hii : (i : Int) < s.length := by omega
  simp only [isSign, Bool.or_eq_false_iff] at h4
  obtain ⟨⟨⟨⟨⟨w1, w2⟩, w3⟩, w4⟩, w5⟩, w6⟩ := h4
  refine fn_of_body L_ok (fn := Try.f37) rfl rfl rfl rfl (by kernel_rfl) ?_
  have c1 := rsmall_ok (m := m) s[i]
  rw [h1] at c1
  have c0 := rcaps_ok (m := m) s[i]
  rw [h2] at c0
  repeat' (first
    | apply w_seq
    | apply w_region
    | apply o_end
    | apply t_normal
    | (apply o_val; exact kc0; exact kc2)
    | (apply o_fn fine; exact kc0; exact kc1; exact c1; exact kc3)
    | (apply o_fn fine; exact kc0; exact kc1; exact c0; exact kc3)
    | (apply o_mem; exact kc0; rfl; exact kc1)
    | apply w_skip
    | apply w_block
    | apply b_normal
    | apply w_ret
    | apply t_ret
    | apply b_ret
    | (apply w_false; exact kc3)
    | fail)
  · apply f_retf
    · simp [*]; rfl
    · simp
    · rfl
theorem rone_ok (s : List UInt8) (i : Nat) (hi : i < s.length) (hn : s.length < 1000000) : ∃ t a x k e, Ans (L m) 37 [.str s, .int .i64 i] (rtD t a x k e) ∧ OneIs s i t a x k e := by
  cases h1 : isSmall s[i]
  · cases h2 : isCap s[i]
    · have hd : s.drop i = s[i] :: s.drop (i + 1) := List.drop_eq_getElem_cons hi
      cases h3 : isB s[i] 34
      · have ht := tok_sign (r := s.drop (i + 1)) h1 h2 h3
        rw [← hd] at ht
        cases h4 : isSign s[i]
        · rw [h4] at ht
          exact ⟨_, _, _, _, _, one_bad s i hi hn h1 h2 h3 h4, by rw [OneIs, ht]; simp⟩
        · rw [h4] at ht
          exact ⟨_, _, _, _, _, one_sign s i hi hn h1 h2 h3 h4, by rw [OneIs, ht]; simp⟩
      · have ht := tok_quote (r := s.drop (i + 1)) h1 h2 h3
        rw [← hd] at ht
        have hle := runL_le isQuoted (s.drop (i + 1))
        rw [List.length_drop] at hle
        obtain ⟨n, hnn⟩ : ∃ n, runL isQuoted (s.drop (i + 1)) = n := ⟨_, rfl⟩
        rw [hnn] at hle ht
        have hl1 : (s.drop (i + 1)).length = s.length - (i + 1) := by simp
        have hq : runL isQuoted (s.drop (i + 1)) = (i + 1 + n) - (i + 1) := by omega
        by_cases hw : i + 1 + n = s.length
        · refine ⟨_, _, _, _, _, one_open s i (i + 1 + n) hi hn h1 h2 h3 hq (by omega) (by omega) hw, ?_⟩
          have e1 : (n + 1 == (s.drop (i + 1)).length + 1) = true := by rw [hl1]; simp; omega
          rw [OneIs, ht, e1]
          simp
        · have hw' : i + 1 + n < s.length := by omega
          have e1 : (n + 1 == (s.drop (i + 1)).length + 1) = false := by rw [hl1]; simp; omega
          have hg : (s.drop (i + 1)).getD n 0 = s[i + 1 + n] := by
            rw [List.getD_eq_getElem?_getD, List.getElem?_drop, List.getElem?_eq_getElem hw']
            rfl
          cases hw2 : isB s[i + 1 + n] 34
          · refine ⟨_, _, _, _, _, one_odd s i (i + 1 + n) hi hn h1 h2 h3 hq (by omega) (by omega) hw' hw2, ?_⟩
            rw [OneIs, ht, e1, hg, hw2]
            simp
          · refine ⟨_, _, _, _, _, one_text s i (i + 1 + n) hi hn h1 h2 h3 hq (by omega) (by omega) hw' hw2 _ rfl, ?_⟩
            have e2 : (s.take (i + 1 + n)).drop (i + 1) = (s.drop (i + 1)).take n := by
              rw [List.drop_take]; congr 1; omega
            have e3 : ((s.take (i + 1 + n)).drop (i + 1)).length = n := by simp; omega
            rw [OneIs, ht, e1, hg, hw2, e3, e2]
            refine ⟨by simp, fun _ => ⟨by simp, rfl, by simp, by simp; omega⟩⟩
    · exact one_caps s i hi hn h1 h2
  · exact one_small s i hi hn h1
theorem rTokens_ok (s : List UInt8) (hs : s.length < 1000000) : Ans (L m) 24 [.str s] (toksD (toks s)) := by
  refine fn_of_body L_ok (fn := Try.f24) rfl rfl rfl rfl (by kernel_rfl) ?_
  by_cases hbig : 8000 < s.length
  · have ht : toks s = ([], 6, 0) := by rw [toks, if_pos hbig]
    have hbig' : (8000 : Int) < s.length := by omega
    rw [ht]
    repeat' (first
      | apply w_seq
      | apply w_region
      | apply o_end
      | apply t_normal
      | (apply o_val; exact kc0; exact kc2)
      | (apply o_mem; exact kc0; rfl; exact kc1)
      | apply w_ret
      | apply t_ret
      | (apply w_true; exact kc3)
      | fail)
    apply f_ret
    · simp [*]; rfl
    · exact .tupleL ⟨.nil, .flat (by simp), trivial⟩
  · have ht : toks s = toksF s.length (s.drop (gapN s)) (gapN s) [] := by rw [toks, if_neg hbig]
    have hg0 := rgap_ok (m := m) s 0 (by omega) (by omega)
    rw [List.drop_zero, Nat.zero_add] at hg0
    have hgl := gapN_le s
    have hbig' : ¬ ((8000 : Int) < s.length) := by omega
    repeat' (first
      | apply w_seq
      | apply w_region
      | apply o_end
      | apply t_normal
      | (apply o_val; exact kc0; exact kc2)
      | (apply o_fn fine; exact kc0; exact kc1; exact hg0; exact kc3)
      | (apply o_mem; exact kc0; rfl; exact kc1)
      | apply w_skip
      | apply w_block
      | (apply w_false; exact kc3)
      | fail)
    refine w_loopD (fun n f H => ∃ (k a : Nat) (out : List Tok), a ≤ s.length ∧ n = s.length - a ∧ (s.drop a).length ≤ k ∧ out.length ≤ 2000 ∧ toks s = toksF k (s.drop a) a out ∧
        ((out = [] ∧ H = [.cells 0 2 false [[.int .i64 0, .int .i64 0]]] ∧ f 4 = .nilsl) ∨ (out ≠ [] ∧ ∃ g1 g, H = [.cells 0 2 false [[.int .i64 0, .int .i64 0]], .gone g1, .cells g 3 false (out.map encT)] ∧ f 4 = .slice 2 0 out.length g)) ∧
        f 0 = .str s ∧ f 3 = .ref 0 0 0 0 ∧ f 5 = .int .i64 a) (s.length - gapN s) ⟨s.length, gapN s, [], by omega, rfl, by simp, by simp, ht, .inl ⟨rfl, by simp, by simp⟩, by simp, by simp, by simp⟩ ?_
    clear hg0 hgl ht
    rintro n f H ⟨k, a, out, ha, rfl, hk, ho, ht, hS, h0, h3, h5⟩
    by_cases hlt : a < s.length
    · obtain ⟨c, r, hd⟩ : ∃ c r, s.drop a = c :: r := ⟨_, _, List.drop_eq_getElem_cons hlt⟩
      have hrl : r.length + 1 = s.length - a := by
        have := congrArg List.length hd
        rw [List.length_drop] at this
        simp at this
        omega
      obtain ⟨t1, a1, x1, k1, e1, htk, hone, hone2⟩ := rone_ok (m := m) s a hlt hs
      rw [hd] at ht hk hone hone2
      obtain ⟨k, rfl⟩ : ∃ k', k = k' + 1 := ⟨k - 1, by simp at hk; omega⟩
      have hal : (a : Int) < s.length := by omega
      have hal2 : (a : Int) ≤ s.length := by omega
      by_cases he : (tok (c :: r)).2.2.2 = 0
      · by_cases h2000 : out.length = 2000
        · rw [toksF_many he h2000] at ht
          rw [ht]
          clear ht
          rw [he] at hone
          subst hone
          clear hone2 hd
          rcases hS with ⟨rfl, rfl, h4⟩ | ⟨hne, g1, g, rfl, h4⟩
          · simp at h2000
          · skip
            repeat' (first
              | apply w_seq
              | apply w_region
              | apply o_end
              | apply t_normal
              | (apply o_mpick; exact kc9; exact kd0; rfl; exact kd1; rfl; exact kd1; rfl)
              | (apply o_val; exact kc0; exact kc2)
              | (apply o_into (dst := some 6) (p := 1); exact kc0; rfl; exact kc1; rfl; rfl; (focus (intro x hx e he; apply Under.flat; revert he; revert e; revert hx; revert x; simp; done)); (focus (exact .inl ⟨_, _, _, rfl⟩)))
              | (apply o_fn fine; exact kc0; exact kc1; exact htk; exact kc3)
              | (apply o_mem; exact kc0; rfl; exact kc1)
              | apply w_skip
              | apply w_block
              | apply w_ret
              | apply t_ret
              | apply b_ret
              | (apply w_true; exact kc3)
              | fail)
            apply f_ret
            · simp [*]; rfl
            · exact .tupleL ⟨.nil, .flat (by simp), trivial⟩
        · rw [toksF_more he h2000] at ht
          have hpos := tok_len (s := c :: r) (by simp) he
          rw [he] at hone
          subst hone
          obtain ⟨o1, o2, o3, o4⟩ := hone2 rfl
          generalize tok (c :: r) = T at *
          obtain ⟨kd, tx, nn, e⟩ := T
          obtain rfl : e = 0 := he
          simp only at ht htk hpos o1 o3 o4
          rw [o1, o2, o3, o4] at htk
          clear o1 o2 o3 o4 hone2
          have e1 : (c :: r).drop nn = s.drop (a + nn) := by rw [← hd, List.drop_drop]
          rw [e1, List.drop_drop] at ht
          clear e1
          have hln : (c :: r).length = s.length - a := by simp; omega
          rw [hln] at hpos
          have hgp := rgap_ok (m := m) s (a + nn) (by omega) (by omega)
          have hgl := gapN_le (s.drop (a + nn))
          rw [List.length_drop] at hgl
          generalize gapN (s.drop (a + nn)) = q at *
          have hn2 : ¬ ((out.length : Int) = 2000) := by omega
          have hn3 : ((out.length : Int) == 2000) = false := by simpa using hn2
          have hb : (a : Int) + nn ≤ s.length := by omega
          have hb0 : (0 : Int) ≤ (a : Int) + nn := by omega
          have hbt : ((a : Int) + nn).toNat = a + nn := by omega
          have b1 : (out.length + 1) * 32 ≤ 140737488355328 := by omega
          have b2 : out.length + 1 ≤ 140737488355328 := by omega
          have hkk : (s.drop (a + nn + q)).length ≤ k := by
            rw [hln] at hk
            rw [List.length_drop]
            omega
          have haa : a + nn + q ≤ s.length := by omega
          have hm : s.length - (a + nn + q) < s.length - a := by omega
          clear hk hln hgl
          rcases hS with ⟨rfl, rfl, h4⟩ | ⟨hne, g1, g, rfl, h4⟩
          · clear b1 b2 hn2 hn3 h2000
            repeat' (first
              | apply w_seq
              | apply w_region
              | apply o_end
              | apply t_normal
              | (apply o_mpick; exact kc9; exact kd0; rfl; exact kd1; rfl; exact kd1; rfl)
              | (apply o_val; exact kc0; exact kc2)
              | (apply o_fn fine; exact kc0; exact kc1; exact htk; exact kc3)
              | (apply o_fn fine; exact kc0; exact kc1; exact hgp; exact kc3)
              | (apply o_lit; exact kc0; exact kc1; (focus (simp; done)); exact kd7)
              | (apply o_mem; exact kc0; rfl; exact kc1)
              | apply w_skip
              | apply w_block
              | apply b_normal
              | (apply w_true; exact kc3)
              | (apply w_false; exact kc3)
              | fail)
            exact ⟨s.length - (a + nn + q), hm, _, drops_mid, k, a + nn + q, [] ++ [⟨kd, a, tx⟩], haa, rfl, hkk, by simp, ht, .inr ⟨by simp, _, 1, rfl, by simp⟩, by simp [*], by simp [*], by simp [*]⟩
          · skip
            repeat' (first
              | apply w_seq
              | apply w_region
              | apply o_end
              | apply t_normal
              | (apply o_mpick; exact kc9; exact kd0; rfl; exact kd1; rfl; exact kd1; rfl)
              | (apply o_val; exact kc0; exact kc2)
              | (apply o_into (dst := some 6) (p := 1); exact kc0; rfl; exact kc1; rfl; rfl; (focus (intro x hx e he; apply Under.flat; revert he; revert e; revert hx; revert x; simp; done)); (focus (exact .inl ⟨_, _, _, rfl⟩)))
              | (apply o_fn fine; exact kc0; exact kc1; exact htk; exact kc3)
              | (apply o_fn fine; exact kc0; exact kc1; exact hgp; exact kc3)
              | (apply o_lit; exact kc0; exact kc1; (focus (simp; done)); exact kd7)
              | (apply o_mem; exact kc0; rfl; exact kc1)
              | apply w_skip
              | apply w_block
              | apply b_normal
              | (apply w_true; exact kc3)
              | (apply w_false; exact kc3)
              | fail)
            exact ⟨s.length - (a + nn + q), hm, _, drops_mid, k, a + nn + q, out ++ [⟨kd, a, tx⟩], haa, rfl, hkk, by simp; omega, ht, .inr ⟨by simp, _, g + 1, by simp; rfl, by simp⟩, by simp [*], by simp [*], by simp [*]⟩
      · rw [toksF_wrong he] at ht
        rw [ht]
        clear ht
        rw [← hone] at he ⊢
        clear hone hone2 hd
        have he' : ((e1 : Int) == 0) = false := by simp; simpa using he
        rcases hS with ⟨rfl, rfl, h4⟩ | ⟨hne, g1, g, rfl, h4⟩
        · skip
          repeat' (first
            | apply w_seq
            | apply w_region
            | apply o_end
            | apply t_normal
            | (apply o_val; exact kc0; exact kc2)
            | (apply o_fn fine; exact kc0; exact kc1; exact htk; exact kc3)
            | (apply o_mem; exact kc0; rfl; exact kc1)
            | apply w_skip
            | apply w_block
            | apply w_ret
            | apply t_ret
            | apply b_ret
            | (apply w_true; exact kc3)
            | (apply w_false; exact kc3)
            | (apply o_no; exact ke7)
            | fail)
          apply f_ret
          · simp [*]; rfl
          · exact .tupleL ⟨.nil, .flat (by simp), trivial⟩
        · skip
          repeat' (first
            | apply w_seq
            | apply w_region
            | apply o_end
            | apply t_normal
            | (apply o_val; exact kc0; exact kc2)
            | (apply o_into (dst := some 6) (p := 1); exact kc0; rfl; exact kc1; rfl; rfl; (focus (intro x hx e he; apply Under.flat; revert he; revert e; revert hx; revert x; simp; done)); (focus (exact .inl ⟨_, _, _, rfl⟩)))
            | (apply o_fn fine; exact kc0; exact kc1; exact htk; exact kc3)
            | (apply o_mem; exact kc0; rfl; exact kc1)
            | apply w_skip
            | apply w_block
            | apply w_ret
            | apply t_ret
            | apply b_ret
            | (apply w_true; exact kc3)
            | (apply w_false; exact kc3)
            | (apply o_no; exact ke7)
            | fail)
          apply f_ret
          · simp [*]; rfl
          · exact .tupleL ⟨.nil, .flat (by simp), trivial⟩
    · have hd : s.drop a = [] := List.drop_of_length_le (by omega)
      rw [hd, toksF_nil] at ht
      rw [ht]
      clear ht hk hd
      have hal : ¬ ((a : Int) < s.length) := by omega
      rcases hS with ⟨rfl, rfl, h4⟩ | ⟨hne, g1, g, rfl, h4⟩
      · skip
        repeat' (first
          | apply w_seq
          | apply w_region
          | apply o_end
          | apply t_normal
          | (apply o_val; exact kc0; exact kc2)
          | (apply o_mem; exact kc0; rfl; exact kc1)
          | apply w_ret
          | apply w_exit
          | apply t_exit
          | apply b_here
          | (apply w_false; exact kc3)
          | fail)
        apply f_ret
        · simp [*]; rfl
        · exact .tupleL ⟨.nil, .flat (by simp), trivial⟩
      · skip
        repeat' (first
          | apply w_seq
          | apply w_region
          | apply o_end
          | apply t_normal
          | (apply o_val; exact kc0; exact kc2)
          | (apply o_mem; exact kc0; rfl; exact kc1)
          | apply w_ret
          | apply w_exit
          | apply t_exit
          | apply b_here
          | (apply w_false; exact kc3)
          | fail)
        apply f_ret
        · simp [*]; rfl
        · exact .tupleL ⟨.slice_flat trivial rfl (by simp) (by simp) flat_toks, .flat (by simp), trivial⟩
end Go.Proofs.Ytknkkfdkcemolaa.Vm
end
section
/- The document's reader of descriptions: what it takes. -/
set_option linter.unusedSimpArgs false
set_option linter.unusedVariables false
set_option maxRecDepth 100000
set_option maxHeartbeats 4000000
namespace Go.Proofs.Ytknkkfdkcemolaa.Vm
open Go
variable {m : Int}
attribute [local irreducible] wpD opsD thenD blockD planD planA LoopD

/-- Where it is: the tokens that are gone by, those that come, what is wrong (-1: at the end). -/
abbrev PS := List Tok × List Tok × Option Int
def codeO : Option Int → Int
  | none => 0
  | some _ => 4
def atO : Option Int → Int
  | none => 0
  | some b => b
attribute [local simp] codeO atO List.take_of_length_le List.drop_of_length_le bne mvD
abbrev pH (s : PS) : Heap := [.cells 0 4 false [[tokL (s.1 ++ s.2.1), .int .i64 s.1.length, .int .i64 (codeO s.2.2), .int .i64 (atO s.2.2)]]]
abbrev pR : D := .ref 0 0 0 0
def rFail : PS → PS
  | (pre, r, b) => match b with
    | some b => (pre, r, some b)
    | none => (pre, r, some (match r with
      | [] => -1
      | t :: _ => t.at_))
def rIs (x : List UInt8) : PS → Bool
  | (_, r, b) => match b with
    | some _ => false
    | none => match r with
      | [] => false
      | t :: _ => ((t.kind : Int) == 4 || (t.kind : Int) == 2) && t.text == x
def rNext : PS → PS
  | (pre, r, b) => match r with
    | [] => (pre, [], b)
    | t :: r => (pre ++ [t], r, b)
def rNeed (x : List UInt8) (s : PS) : PS := if rIs x s = true then rNext s else rFail s
def rKind (k : Nat) : PS → Tok × PS
  | (pre, r, b) => match b with
    | some b => (zeroTok, pre, r, some b)
    | none => match r with
      | [] => (zeroTok, pre, [], some (-1))
      | t :: r => if t.kind = k then (t, pre ++ [t], r, none) else (zeroTok, pre, t :: r, some t.at_)
/-- So few tokens that all is small. -/
abbrev Few (s : PS) : Prop := s.1.length + s.2.1.length ≤ 1000000
@[simp] theorem flat_tokL2 (a b : List Tok) : Flat (.isl 3 (List.map encT a ++ List.map encT b)) := by
  rw [← List.map_append]
  exact .isl _ _ flat_toks
@[simp] theorem flat_tokL3 (a b : List Tok) (t : Tok) : Flat (.isl 3 (List.map encT a ++ encT t :: List.map encT b)) := by
  have : List.map encT a ++ encT t :: List.map encT b = List.map encT (a ++ t :: b) := by simp
  rw [this]
  exact .isl _ _ flat_toks
@[simp] theorem flat_tokL (a : List Tok) : Flat (tokL a) := .isl _ _ flat_toks
theorem at_facts (pre : List Tok) (t : Tok) (r : List Tok) : (0 : Int) < (r.length : Int) + 1 ∧ (pre.length : Int) < (pre.length : Int) + ((r.length : Int) + 1) ∧ (List.map encT pre ++ encT t :: List.map encT r)[pre.length]? = some (encT t) ∧ (List.map encT pre ++ encT t :: List.map encT r).getD pre.length [] = encT t := by
  have h : (List.map encT pre ++ encT t :: List.map encT r)[pre.length]? = some (encT t) := by
    rw [List.getElem?_append_right (by simp)]
    simp
  exact ⟨by omega, by omega, h, by rw [List.getD_eq_getElem?_getD, h]; rfl⟩
theorem rfail_ok (s : PS) (hs : Few s) : CallsV (L m) 44 [pR] (pH s) (Turns (.tuple []) (pH (rFail s))) := by
  refine turns_of_body L_ok (fn := Try.f44) rfl rfl rfl rfl (by kernel_rfl) ?_
  obtain ⟨pre, r, b⟩ := s
  have hs : pre.length + r.length ≤ 1000000 := hs
  cases b with
  | some b =>
    simp only [rFail, codeO, atO]
    repeat' (first
      | apply w_seq
      | apply w_region
      | apply o_end
      | apply t_normal
      | (apply o_val; exact kc0; exact kc2)
      | apply w_skip
      | (apply w_false; exact kc3)
      | fail)
    exact t_normT rfl rfl (by simp)
  | none =>
    cases r with
    | nil =>
      simp only [rFail, codeO, atO]
      repeat' (first
        | apply w_seq
        | apply w_region
        | apply o_end
        | apply t_normal
        | (apply o_val; exact kc0; exact kc2)
        | (apply o_mem; exact kc0; rfl; exact kc1)
        | apply w_skip
        | (apply w_true; exact kc3)
        | (apply w_false; exact kc3)
        | (apply w_drawA; rfl; exact ke3; exact kc4; exact kc4)
        | (apply a_end; exact kc4)
        | (apply a_val; exact kc4; exact kc5; exact kd9; exact kc6)
        | (apply a_tie; exact kc4; exact kc5; exact ke0; exact kc7; exact kc6; exact kc4)
        | fail)
      exact t_normT rfl rfl (by simp)
    | cons t r =>
      simp only [rFail, codeO, atO]
      obtain ⟨hc, hc2, hg1, hg2⟩ := at_facts pre t r
      repeat' (first
        | apply w_seq
        | apply w_region
        | apply o_end
        | apply t_normal
        | (apply o_val; exact kc0; exact kc2)
        | (apply o_mem; exact kc0; rfl; exact kc1)
        | (apply w_true; exact kc3)
        | (apply w_drawA; rfl; exact ke3; exact kc4; exact kc4)
        | (apply a_end; exact kc4)
        | (apply a_val; exact kc4; exact kc5; exact kd9; exact kc6)
        | (apply a_tie; exact kc4; exact kc5; exact ke0; exact kc7; exact kc6; exact kc4)
        | (apply a_mem; exact kc4; exact kc5; exact ke1; exact kd8; exact kc7; exact kc6; exact kc4)
        | fail)
      exact t_normT rfl rfl (by simp)
theorem rok_ok (s : PS) : CallsV (L m) 25 [pR] (pH s) (Turns (.bool s.2.2.isNone) (pH s)) := by
  refine turns_of_body L_ok (fn := Try.f25) rfl rfl rfl rfl (by kernel_rfl) ?_
  obtain ⟨pre, r, b⟩ := s
  cases b with
  | some b =>
    simp only [codeO, atO, Option.isNone]
    repeat' (first
      | apply w_seq
      | apply w_region
      | apply o_end
      | apply t_normal
      | (apply o_val; exact kc0; exact kc2)
      | apply w_ret
      | fail)
    exact t_retT rfl rfl rfl
  | none =>
    simp only [codeO, atO, Option.isNone]
    repeat' (first
      | apply w_seq
      | apply w_region
      | apply o_end
      | apply t_normal
      | (apply o_val; exact kc0; exact kc2)
      | apply w_ret
      | fail)
    exact t_retT rfl rfl rfl
theorem ris_ok (x : List UInt8) (s : PS) (hs : Few s) : CallsV (L m) 41 [pR, .str x] (pH s) (Turns (.bool (rIs x s)) (pH s)) := by
  refine turns_of_body L_ok (fn := Try.f41) rfl rfl rfl rfl (by kernel_rfl) ?_
  have a1 := rok_ok (m := m) s
  obtain ⟨pre, r, b⟩ := s
  have hs : pre.length + r.length ≤ 1000000 := hs
  cases b with
  | some b =>
    simp only [rIs, Option.isNone] at a1 ⊢
    repeat' (first
      | apply w_seq
      | apply w_region
      | apply o_end
      | apply t_normal
      | (apply o_val; exact kc0; exact kc2)
      | apply w_ret
      | (apply w_drawA; rfl; exact ke3; exact kc4; exact kc4)
      | (apply a_end; exact kc4)
      | (apply a_val; exact kc4; exact kc5; exact kd9; exact kc6)
      | (apply a_turns; exact kc4; exact kc5; exact kd8; exact a1; exact kc7; exact kc6; exact kc4)
      | (apply a_no; exact kc4; exact ke8; exact kc6)
      | fail)
    exact t_retT rfl rfl rfl
  | none =>
    cases r with
    | nil =>
      simp only [rIs, Option.isNone] at a1 ⊢
      repeat' (first
        | apply w_seq
        | apply w_region
        | apply o_end
        | apply t_normal
        | (apply o_val; exact kc0; exact kc2)
        | apply w_ret
        | (apply w_drawA; rfl; exact ke3; exact kc4; exact kc4)
        | (apply a_end; exact kc4)
        | (apply a_val; exact kc4; exact kc5; exact kd9; exact kc6)
        | (apply a_turns; exact kc4; exact kc5; exact kd8; exact a1; exact kc7; exact kc6; exact kc4)
        | (apply a_tie; exact kc4; exact kc5; exact ke0; exact kc7; exact kc6; exact kc4)
        | (apply a_no; exact kc4; exact ke8; exact kc6)
        | fail)
      exact t_retT rfl rfl rfl
    | cons t r =>
      obtain ⟨hc, hc2, hg1, hg2⟩ := at_facts pre t r
      simp only [rIs, Option.isNone] at a1 ⊢
      cases h4 : ((t.kind : Int) == 4)
      · cases h2 : ((t.kind : Int) == 2)
        · skip
          repeat' (first
            | apply w_seq
            | apply w_region
            | apply o_end
            | apply t_normal
            | (apply o_val; exact kc0; exact kc2)
            | apply w_ret
            | (apply w_drawA; rfl; exact ke3; exact kc4; exact kc4)
            | (apply a_end; exact kc4)
            | (apply a_val; exact kc4; exact kc5; exact kd9; exact kc6)
            | (apply a_turns; exact kc4; exact kc5; exact kd8; exact a1; exact kc7; exact kc6; exact kc4)
            | (apply a_tie; exact kc4; exact kc5; exact ke0; exact kc7; exact kc6; exact kc4)
            | (apply a_no; exact kc4; exact ke8; exact kc6)
            | fail)
          exact t_retT rfl rfl rfl
        · skip
          repeat' (first
            | apply w_seq
            | apply w_region
            | apply o_end
            | apply t_normal
            | (apply o_val; exact kc0; exact kc2)
            | apply w_ret
            | (apply w_drawA; rfl; exact ke3; exact kc4; exact kc4)
            | (apply a_end; exact kc4)
            | (apply a_val; exact kc4; exact kc5; exact kd9; exact kc6)
            | (apply a_turns; exact kc4; exact kc5; exact kd8; exact a1; exact kc7; exact kc6; exact kc4)
            | (apply a_tie; exact kc4; exact kc5; exact ke0; exact kc7; exact kc6; exact kc4)
            | fail)
          exact t_retT rfl rfl rfl
      · skip
        repeat' (first
          | apply w_seq
          | apply w_region
          | apply o_end
          | apply t_normal
          | (apply o_val; exact kc0; exact kc2)
          | apply w_ret
          | (apply w_drawA; rfl; exact ke3; exact kc4; exact kc4)
          | (apply a_end; exact kc4)
          | (apply a_val; exact kc4; exact kc5; exact kd9; exact kc6)
          | (apply a_turns; exact kc4; exact kc5; exact kd8; exact a1; exact kc7; exact kc6; exact kc4)
          | (apply a_tie; exact kc4; exact kc5; exact ke0; exact kc7; exact kc6; exact kc4)
          | (apply a_no; exact kc4; exact ke8; exact kc6)
          | fail)
        exact t_retT rfl rfl rfl
theorem rnext_few {s : PS} (h : Few s) : Few (rNext s) := by
  obtain ⟨pre, r, b⟩ := s
  cases r with
  | nil => exact h
  | cons t r =>
    have h : pre.length + (r.length + 1) ≤ 1000000 := h
    show (pre ++ [t]).length + r.length ≤ 1000000
    simp; omega
theorem rfail_few {s : PS} (h : Few s) : Few (rFail s) := by
  obtain ⟨pre, r, b⟩ := s
  cases b with
  | some b => exact h
  | none => cases r with
    | nil => exact h
    | cons t r => exact h
theorem rneed_few {s : PS} (x : List UInt8) (h : Few s) : Few (rNeed x s) := by
  unfold rNeed
  split
  · exact rnext_few h
  · exact rfail_few h
theorem rkind_few {s : PS} (k : Nat) (h : Few s) : Few (rKind k s).2 := by
  obtain ⟨pre, r, b⟩ := s
  cases b with
  | some b => exact h
  | none => cases r with
    | nil => exact h
    | cons t r =>
      have h0 : pre.length + (r.length + 1) ≤ 1000000 := h
      simp only [rKind]
      split
      · show (pre ++ [t]).length + r.length ≤ 1000000
        simp; omega
      · exact h
theorem rIs_ex {x : List UInt8} {s : PS} (h : rIs x s = true) : ∃ pre t r, s = (pre, t :: r, none) ∧ t.text = x := by
  obtain ⟨pre, r, b⟩ := s
  cases b with
  | some b => cases h
  | none => cases r with
    | nil => cases h
    | cons t r =>
      simp only [rIs, Bool.and_eq_true, beq_iff_eq] at h
      exact ⟨pre, t, r, rfl, h.2⟩
theorem rtake_yes {x : List UInt8} {s : PS} (hs : Few s) (h : rIs x s = true) : CallsV (L m) 38 [pR, .str x] (pH s) (Turns (.bool true) (pH (rNext s))) := by
  refine turns_of_body L_ok (fn := Try.f38) rfl rfl rfl rfl (by kernel_rfl) ?_
  have a1 := ris_ok (m := m) x s hs
  rw [h] at a1
  obtain ⟨pre, t, r, rfl, _⟩ := rIs_ex h
  have hs : pre.length + (r.length + 1) ≤ 1000000 := hs
  have hp : (pre.length : Int) ≤ 1000000 := by omega
  repeat' (first
    | apply w_seq
    | apply w_region
    | apply o_end
    | apply t_normal
    | (apply o_add; exact kc0; exact kc2; rfl; exact kc2; rfl; exact ke2)
    | (apply o_val; exact kc0; exact kc2)
    | (apply o_turns; exact kc0; exact kc1; exact a1)
    | (apply o_mem; exact kc0; rfl; exact kc1)
    | apply w_ret
    | apply t_ret
    | (apply w_true; exact kc3)
    | fail)
  exact t_retT rfl rfl (by simp [rNext])
theorem rtake_no {x : List UInt8} {s : PS} (hs : Few s) (h : rIs x s = false) : CallsV (L m) 38 [pR, .str x] (pH s) (Turns (.bool false) (pH s)) := by
  refine turns_of_body L_ok (fn := Try.f38) rfl rfl rfl rfl (by kernel_rfl) ?_
  have a1 := ris_ok (m := m) x s hs
  rw [h] at a1
  repeat' (first
    | apply w_seq
    | apply w_region
    | apply o_end
    | apply t_normal
    | (apply o_val; exact kc0; exact kc2)
    | (apply o_turns; exact kc0; exact kc1; exact a1)
    | apply w_skip
    | apply w_ret
    | (apply w_false; exact kc3)
    | fail)
  exact t_retT rfl rfl rfl
theorem rneed_ok (x : List UInt8) (s : PS) (hs : Few s) : CallsV (L m) 40 [pR, .str x] (pH s) (Turns (.tuple []) (pH (rNeed x s))) := by
  refine turns_of_body L_ok (fn := Try.f40) rfl rfl rfl rfl (by kernel_rfl) ?_
  unfold rNeed
  cases h : rIs x s
  · have a1 := rtake_no (m := m) hs h
    have a2 := rfail_ok (m := m) s hs
    simp only [Bool.false_eq_true, if_false]
    repeat' (first
      | apply w_seq
      | apply w_region
      | apply o_end
      | apply t_normal
      | (apply o_val; exact kc0; exact kc2)
      | (apply o_turns; exact kc0; exact kc1; exact a1)
      | (apply o_turns; exact kc0; exact kc1; exact a2)
      | (apply w_true; exact kc3)
      | fail)
    exact t_normT rfl rfl rfl
  · have a1 := rtake_yes (m := m) hs h
    simp only [if_true]
    repeat' (first
      | apply w_seq
      | apply w_region
      | apply o_end
      | apply t_normal
      | (apply o_val; exact kc0; exact kc2)
      | (apply o_turns; exact kc0; exact kc1; exact a1)
      | apply w_skip
      | (apply w_false; exact kc3)
      | fail)
    exact t_normT rfl rfl rfl
end Go.Proofs.Ytknkkfdkcemolaa.Vm
end
section
/- The document's reader of descriptions: a token of a kind. -/
set_option linter.unusedSimpArgs false
set_option linter.unusedVariables false
set_option maxRecDepth 100000
set_option maxHeartbeats 4000000
namespace Go.Proofs.Ytknkkfdkcemolaa.Vm
open Go
variable {m : Int}
attribute [local irreducible] wpD opsD thenD blockD planD planA LoopD
attribute [local simp] List.take_of_length_le List.drop_of_length_le bne mvD codeO atO
@[simp high] theorem under_tokL (n : Nat) (a : List Tok) : Under n (tokL a) := .flat (flat_tokL a)
theorem pH_under (s : PS) : ∀ k, k ∈ pH s → k.under 1 := by
  intro k hk
  obtain rfl := List.mem_singleton.1 hk
  intro x hx d hd
  obtain rfl := List.mem_singleton.1 hx
  apply Under.flat
  simp only [List.mem_cons, List.not_mem_nil, or_false] at hd
  rcases hd with rfl | rfl | rfl | rfl
  · exact flat_tokL _
  · exact .int _ _
  · exact .int _ _
  · exact .int _ _
theorem rkind_ok (k : Nat) (s : PS) (hs : Few s) : CallsV (L m) 39 [pR, .int .i64 k] (pH s) (Turns (.agg (encT (rKind k s).1)) (pH (rKind k s).2)) := by
  refine gives_of_body L_ok (by rfl) (pH_under _) (fn := Try.f39) rfl rfl rfl rfl (by kernel_rfl) ?_
  have a1 := rok_ok (m := m) s
  have a2 := rfail_ok (m := m) s hs
  obtain ⟨pre, r, b⟩ := s
  have hs : pre.length + r.length ≤ 1000000 := hs
  cases b with
  | some b =>
    simp only [rKind, rFail, Option.isNone, zeroTok, pH, codeO, atO, List.append_nil] at a1 a2 ⊢
    repeat' (first
      | apply w_seq
      | apply w_region
      | apply o_end
      | apply t_normal
      | (apply o_val; exact kc0; exact kc2)
      | (apply o_beside fine; exact kc0; exact kc1; exact a2; rfl; rfl; exact kd4; exact kd3)
      | (apply o_mem; exact kc0; rfl; exact kc1)
      | apply w_ret
      | apply t_ret
      | (apply w_true; exact kc3)
      | (apply w_drawA; rfl; exact ke3; exact kc4; exact kc4)
      | (apply a_end; exact kc4)
      | (apply a_val; exact kc4; exact kc5; exact kd9; exact kc6)
      | (apply a_besideG fine; exact kc4; exact kc5; exact kd8; exact a1; rfl; rfl; exact kd4; exact kd3; exact kc7; exact kc8; exact kc6; exact kc4)
      | (apply a_no; exact kc4; exact ke8; exact kc6)
      | fail)
    apply g_ret (by simp [*]; done) rfl (Snap.flat (by simp; done))
  | none =>
    cases r with
    | nil =>
      simp only [rKind, rFail, Option.isNone, zeroTok, pH, codeO, atO, List.append_nil] at a1 a2 ⊢
      repeat' (first
        | apply w_seq
        | apply w_region
        | apply o_end
        | apply t_normal
        | (apply o_val; exact kc0; exact kc2)
        | (apply o_beside fine; exact kc0; exact kc1; exact a2; rfl; rfl; exact kd4; exact kd3)
        | (apply o_mem; exact kc0; rfl; exact kc1)
        | apply w_ret
        | apply t_ret
        | (apply w_true; exact kc3)
        | (apply w_drawA; rfl; exact ke3; exact kc4; exact kc4)
        | (apply a_end; exact kc4)
        | (apply a_val; exact kc4; exact kc5; exact kd9; exact kc6)
        | (apply a_besideG fine; exact kc4; exact kc5; exact kd8; exact a1; rfl; rfl; exact kd4; exact kd3; exact kc7; exact kc8; exact kc6; exact kc4)
        | (apply a_tie; exact kc4; exact kc5; exact ke0; exact kc7; exact kc6; exact kc4)
        | (apply a_no; exact kc4; exact ke8; exact kc6)
        | fail)
      apply g_ret (by simp [*]; done) rfl (Snap.flat (by simp; done))
    | cons t r =>
      obtain ⟨hc, hc2, hg1, hg2⟩ := at_facts pre t r
      have hc3 : decide ((pre.length : Int) + ((r.length : Int) + 1) ≤ (pre.length : Int)) = false := by simp; omega
      simp only [rKind, rFail, Option.isNone, zeroTok, pH, codeO, atO, List.append_nil] at a1 a2 ⊢
      by_cases hk : t.kind = k
      · have hb : ((t.kind : Int) == k) = true := by simp; omega
        have hp : (pre.length : Int) ≤ 1000000 := by omega
        have hw : IntKind.i64.wrap (pre.length : Int) = (pre.length : Int) := wrap_i64 (by omega) (by omega)
        have hw2 : IntKind.i64.wrap ((pre.length : Int) + 1 - 1) = (pre.length : Int) := by rw [show (pre.length : Int) + 1 - 1 = (pre.length : Int) from by omega]; exact hw
        have hpos : (0 : Int) ≤ (pre.length : Int) := by omega
        rw [if_pos hk]
        repeat' (first
          | apply w_seq
          | apply w_region
          | apply o_end
          | apply t_normal
          | (apply o_add; exact kc0; exact kc2; rfl; exact kc2; rfl; exact ke2)
          | (apply o_val; exact kc0; exact kc2)
          | (apply o_mem; exact kc0; rfl; exact kc1)
          | apply w_skip
          | apply w_ret
          | (apply w_false; exact kc3)
          | (apply w_drawA; rfl; exact ke3; exact kc4; exact kc4)
          | (apply a_end; exact kc4)
          | (apply a_val; exact kc4; exact kc5; exact kd9; exact kc6)
          | (apply a_besideG fine; exact kc4; exact kc5; exact kd8; exact a1; rfl; rfl; exact kd4; exact kd3; exact kc7; exact kc8; exact kc6; exact kc4)
          | (apply a_tie; exact kc4; exact kc5; exact ke0; exact kc7; exact kc6; exact kc4)
          | (apply a_mem; exact kc4; exact kc5; exact ke1; exact kd8; exact kc7; exact kc6; exact kc4)
          | fail)
        apply g_ret (Hn := pH (pre ++ [t], r, none)) (by simp [*]; done) (by simp; rfl) (Snap.flat (by simp; done))
      · have hb : ((t.kind : Int) == k) = false := by simp; omega
        rw [if_neg hk]
        repeat' (first
          | apply w_seq
          | apply w_region
          | apply o_end
          | apply t_normal
          | (apply o_val; exact kc0; exact kc2)
          | (apply o_beside fine; exact kc0; exact kc1; exact a2; rfl; rfl; exact kd4; exact kd3)
          | (apply o_mem; exact kc0; rfl; exact kc1)
          | apply w_ret
          | apply t_ret
          | (apply w_true; exact kc3)
          | (apply w_drawA; rfl; exact ke3; exact kc4; exact kc4)
          | (apply a_end; exact kc4)
          | (apply a_val; exact kc4; exact kc5; exact kd9; exact kc6)
          | (apply a_besideG fine; exact kc4; exact kc5; exact kd8; exact a1; rfl; rfl; exact kd4; exact kd3; exact kc7; exact kc8; exact kc6; exact kc4)
          | (apply a_tie; exact kc4; exact kc5; exact ke0; exact kc7; exact kc6; exact kc4)
          | fail)
        apply g_ret (by simp [*]; done) rfl (Snap.flat (by simp; done))
end Go.Proofs.Ytknkkfdkcemolaa.Vm
end
section
/- The document's reader of descriptions: formulas. -/
set_option linter.unusedSimpArgs false
set_option linter.unusedVariables false
set_option maxRecDepth 100000
set_option maxHeartbeats 4000000
namespace Go.Proofs.Ytknkkfdkcemolaa.Vm
open Go
variable {m : Int}
attribute [local irreducible] wpD opsD thenD blockD planD planA LoopD
attribute [local simp] List.take_of_length_le List.drop_of_length_le bne mvD codeO atO

inductive RT where
  | leaf (k s : List UInt8) (a : Nat)
  | un (k : List UInt8) (x : RT)
  | bin (k : List UInt8) (x y : RT)
def rtrD : RT → D
  | .leaf k s a => .box [.str k, .str s, .int .i64 a, .nilsl]
  | .un k x => .box [.str k, .str [], .int .i64 0, .isl 1 [[rtrD x]]]
  | .bin k x y => .box [.str k, .str [], .int .i64 0, .isl 1 [[rtrD x], [rtrD y]]]
@[simp] theorem rtD_flat (t : RT) : Flat (rtrD t) := by
  induction t with
  | leaf k s a => unfold rtrD; simp
  | un k x ih => unfold rtrD; simp [ih]
  | bin k x y ihx ihy => unfold rtrD; simp [ihx, ihy]
def isRT (t : RT) (cs : List D) : Prop := rtrD t = .box cs
theorem isRT_ex (t : RT) : ∃ cs, isRT t cs := by cases t <;> exact ⟨_, rfl⟩
def rMore (next : PS → RT × PS) (word : List UInt8) : Nat → RT → PS → RT × PS
  | 0, a, s => (a, s)
  | k + 1, a, s => if rIs word s = true then rMore next word k (.bin word a (next (rNext s)).1) (next (rNext s)).2 else (a, s)
def rLeaf (w : List UInt8) (s : PS) : RT × PS := (.leaf w (rKind 1 (rNext s)).1.text (rKind 1 (rNext s)).1.at_, (rKind 1 (rNext s)).2)
/-- l: 0 a factor, 1 a term, 2 a formula. -/
def rForm : Nat → Nat → PS → RT × PS
  | 0, _, s => (.leaf [] [] 0, s)
  | n + 1, 2, s => rMore (rForm n 1) [111, 114] ((rForm n 1 s).2.2.1.length + 1) (rForm n 1 s).1 (rForm n 1 s).2
  | n + 1, 1, s => rMore (rForm n 0) [97, 110, 100] ((rForm n 0 s).2.2.1.length + 1) (rForm n 0 s).1 (rForm n 0 s).2
  | n + 1, _, s => if rIs [110, 111, 116] s = true then (.un [110, 111, 116] (rForm n 0 (rNext s)).1, (rForm n 0 (rNext s)).2)
    else if rIs [40] s = true then ((rForm n 2 (rNext s)).1, rNeed [41] (rForm n 2 (rNext s)).2)
    else if rIs [99, 104, 97, 110, 103, 101, 100] s = true then rLeaf [99, 104, 97, 110, 103, 101, 100] s
    else if rIs [102, 111, 114, 103, 101, 100] s = true then rLeaf [102, 111, 114, 103, 101, 100] s
    else if rIs [107, 110, 111, 119, 115] s = true then rLeaf [107, 110, 111, 119, 115] s
    else if rIs [115, 116, 111, 108, 101, 110] s = true then rLeaf [115, 116, 111, 108, 101, 110] s
    else if rIs [114, 97, 110] s = true then rLeaf [114, 97, 110] s
    else (.leaf [] [] 0, rFail s)
/-- How many tokens there are in all; it stays. -/
def allOf (s : PS) : Nat := s.1.length + s.2.1.length
theorem rnext_all (s : PS) : allOf (rNext s) = allOf s ∧ (rNext s).2.1.length ≤ s.2.1.length := by
  obtain ⟨pre, r, b⟩ := s
  cases r with
  | nil => exact ⟨rfl, Nat.le_refl _⟩
  | cons t r => simp [rNext, allOf]; omega
theorem rfail_all (s : PS) : allOf (rFail s) = allOf s ∧ (rFail s).2.1 = s.2.1 := by
  obtain ⟨pre, r, b⟩ := s
  cases b with
  | some b => exact ⟨rfl, rfl⟩
  | none => exact ⟨rfl, rfl⟩
theorem rneed_all (x : List UInt8) (s : PS) : allOf (rNeed x s) = allOf s ∧ (rNeed x s).2.1.length ≤ s.2.1.length := by
  unfold rNeed
  split
  · exact rnext_all s
  · exact ⟨(rfail_all s).1, Nat.le_of_eq (congrArg List.length (rfail_all s).2)⟩
theorem rkind_all (k : Nat) (s : PS) : allOf (rKind k s).2 = allOf s ∧ (rKind k s).2.2.1.length ≤ s.2.1.length := by
  obtain ⟨pre, r, b⟩ := s
  cases b with
  | some b => exact ⟨rfl, Nat.le_refl _⟩
  | none => cases r with
    | nil => exact ⟨rfl, Nat.le_refl _⟩
    | cons t r =>
      simp only [rKind]
      split
      · simp [allOf]; omega
      · exact ⟨rfl, Nat.le_refl _⟩
theorem rmore_all {next : PS → RT × PS} {word : List UInt8} (hn : ∀ s, allOf (next s).2 = allOf s ∧ (next s).2.2.1.length ≤ s.2.1.length) : ∀ (k : Nat) (a : RT) (s : PS), allOf (rMore next word k a s).2 = allOf s ∧ (rMore next word k a s).2.2.1.length ≤ s.2.1.length := by
  intro k
  induction k with
  | zero => intro a s; exact ⟨rfl, Nat.le_refl _⟩
  | succ k ih =>
    intro a s
    rw [rMore]
    split
    · have h1 := ih (.bin word a (next (rNext s)).1) (next (rNext s)).2
      have h2 := hn (rNext s)
      have h3 := rnext_all s
      exact ⟨h1.1.trans (h2.1.trans h3.1), by omega⟩
    · exact ⟨rfl, Nat.le_refl _⟩
theorem rleaf_all (w : List UInt8) (s : PS) : allOf (rLeaf w s).2 = allOf s ∧ (rLeaf w s).2.2.1.length ≤ s.2.1.length := by
  have h1 := rkind_all 1 (rNext s)
  have h2 := rnext_all s
  exact ⟨h1.1.trans h2.1, by show (rKind 1 (rNext s)).2.2.1.length ≤ _; omega⟩
theorem rform_all : ∀ (n l : Nat) (s : PS), allOf (rForm n l s).2 = allOf s ∧ (rForm n l s).2.2.1.length ≤ s.2.1.length := by
  intro n
  induction n with
  | zero => intro l s; cases l <;> exact ⟨rfl, Nat.le_refl _⟩
  | succ n ih =>
    intro l s
    have more : ∀ l word, allOf (rMore (rForm n l) word ((rForm n l s).2.2.1.length + 1) (rForm n l s).1 (rForm n l s).2).2 = allOf s ∧ (rMore (rForm n l) word ((rForm n l s).2.2.1.length + 1) (rForm n l s).1 (rForm n l s).2).2.2.1.length ≤ s.2.1.length := fun l word => by
      have h1 := rmore_all (word := word) (ih l) ((rForm n l s).2.2.1.length + 1) (rForm n l s).1 (rForm n l s).2
      have h2 := ih l s
      exact ⟨h1.1.trans h2.1, by omega⟩
    have fac : allOf (rForm (n + 1) 0 s).2 = allOf s ∧ (rForm (n + 1) 0 s).2.2.1.length ≤ s.2.1.length := by
      rw [rForm]
      case x_4 => decide
      case x_5 => decide
      have h2 := rnext_all s
      split
      · have h1 := ih 0 (rNext s)
        exact ⟨h1.1.trans h2.1, by show (rForm n 0 (rNext s)).2.2.1.length ≤ _; omega⟩
      split
      · have h1 := ih 2 (rNext s)
        have h3 := rneed_all [41] (rForm n 2 (rNext s)).2
        exact ⟨h3.1.trans (h1.1.trans h2.1), by show (rNeed _ (rForm n 2 (rNext s)).2).2.1.length ≤ _; omega⟩
      repeat (split; exact rleaf_all _ s)
      exact ⟨(rfail_all s).1, Nat.le_of_eq (congrArg List.length (rfail_all s).2)⟩
    match l with
    | 0 => exact fac
    | 1 => exact more 0 _
    | 2 => exact more 1 _
    | l + 3 => exact fac
abbrev Fac (n : Nat) (m : Int) : Prop := ∀ s : PS, Few s → 3 * s.2.1.length < n → CallsV (L m) 71 [pR] (pH s) (Turns (rtrD (rForm n 0 s).1) (pH (rForm n 0 s).2))
abbrev Ter (n : Nat) (m : Int) : Prop := ∀ s : PS, Few s → 3 * s.2.1.length + 1 < n → CallsV (L m) 54 [pR] (pH s) (Turns (rtrD (rForm n 1 s).1) (pH (rForm n 1 s).2))
abbrev Fml (n : Nat) (m : Int) : Prop := ∀ s : PS, Few s → 3 * s.2.1.length + 2 < n → CallsV (L m) 43 [pR] (pH s) (Turns (rtrD (rForm n 2 s).1) (pH (rForm n 2 s).2))
theorem few_of {s s' : PS} (h : Few s) (he : allOf s' = allOf s) : Few s' := by
  show allOf s' ≤ _
  rw [he]
  exact h
theorem ris_len {x : List UInt8} {s : PS} (h : rIs x s = true) : (rNext s).2.1.length + 1 = s.2.1.length := by
  obtain ⟨pre, t, r, rfl, _⟩ := rIs_ex h
  simp [rNext]
theorem term_of {n : Nat} (hF : Fac n m) : Ter (n + 1) m := by
  intro s hs hn
  have h1 := hF s hs (by omega)
  rw [rForm]
  have ha := rform_all n 0 s
  have hs1 := few_of hs ha.1
  generalize rForm n 0 s = x at h1 ha hs1 ⊢
  obtain ⟨a, s1⟩ := x
  simp only at h1 ha hs1 ⊢
  generalize hE : rMore (rForm n 0) [97, 110, 100] (s1.2.1.length + 1) a s1 = E
  refine gives_of_body L_ok (by rfl) (pH_under _) (fn := Try.f54) rfl rfl rfl rfl (by kernel_rfl) ?_
  repeat' (first
    | apply w_seq
    | apply w_region
    | apply o_end
    | apply t_normal
    | (apply o_val; exact kc0; exact kc2)
    | (apply o_turns; exact kc0; exact kc1; exact h1)
    | apply w_block
    | fail)
  refine w_loop (fun k f H => ∃ (a : RT) (s1 : PS), H = pH s1 ∧ Few s1 ∧ s1.2.1.length < k ∧ s1.2.1.length ≤ s.2.1.length ∧ rMore (rForm n 0) [97, 110, 100] k a s1 = E ∧ f 0 = pR ∧ f 3 = rtrD a) (s1.2.1.length + 1) ⟨a, s1, rfl, hs1, by omega, ha.2, hE, by simp, by simp⟩ ?_
  clear hE h1 ha hs1
  rintro k f H ⟨a, s1, rfl, hs1, hk, hle, hE, g0, g3⟩
  obtain ⟨k, rfl⟩ : ∃ j, k = j + 1 := ⟨k - 1, by omega⟩
  rw [rMore] at hE
  obtain ⟨ca, hca⟩ := isRT_ex a
  have hfa := rtD_flat a
  rw [show rtrD a = .box ca from hca] at g3 hfa
  cases hi : rIs [97, 110, 100] s1
  · rw [hi] at hE
    simp only [Bool.false_eq_true, if_false] at hE
    have a1 := rtake_no (m := m) hs1 hi
    subst hE
    repeat' (first
      | apply w_seq
      | apply w_region
      | apply o_end
      | apply t_normal
      | (apply o_val; exact kc0; exact kc2)
      | (apply o_turns; exact kc0; exact kc1; exact a1)
      | apply w_ret
      | apply w_exit
      | apply t_exit
      | apply b_here
      | (apply w_false; exact kc3)
      | fail)
    apply g_ret (d := rtrD a) (d0 := .box ca) (by simp [*]; done) (by simp; rfl) (by rw [show rtrD a = .box ca from hca]; exact Snap.flat hfa)
  · rw [hi] at hE
    simp only [if_true] at hE
    have a1 := rtake_yes (m := m) hs1 hi
    have hl := ris_len hi
    have hs2 := few_of hs1 (rnext_all s1).1
    have a2 := hF (rNext s1) hs2 (by omega)
    have hb := rform_all n 0 (rNext s1)
    have hs3 := few_of hs2 hb.1
    generalize rForm n 0 (rNext s1) = y at a2 hb hs3 hE
    obtain ⟨b, s3⟩ := y
    simp only at a2 hb hs3 hE
    obtain ⟨cb, hcb⟩ := isRT_ex b
    have hfb := rtD_flat b
    rw [show rtrD b = .box cb from hcb] at a2 hfb
    generalize rNext s1 = s2 at a1 a2 hl hb
    repeat' (first
      | apply w_seq
      | apply w_region
      | apply o_end
      | apply t_normal
      | (apply o_val; exact kc0; exact kc2)
      | (apply o_frz; exact kc0; rfl; exact kc1; (focus (simp; done)); exact kd7)
      | (apply o_turns; exact kc0; exact kc1; exact a1)
      | (apply o_turns; exact kc0; exact kc1; exact a2)
      | apply w_skip
      | apply w_block
      | apply b_normal
      | (apply w_true; exact kc3)
      | fail)
    exact ⟨k, by omega, .bin [97, 110, 100] a b, s3, rfl, hs3, by omega, by omega, hE, by simp [*], by rw [rtrD, show rtrD a = .box ca from hca, show rtrD b = .box cb from hcb]; simp⟩
theorem formula_of {n : Nat} (hF : Ter n m) : Fml (n + 1) m := by
  intro s hs hn
  have h1 := hF s hs (by omega)
  rw [rForm]
  have ha := rform_all n 1 s
  have hs1 := few_of hs ha.1
  generalize rForm n 1 s = x at h1 ha hs1 ⊢
  obtain ⟨a, s1⟩ := x
  simp only at h1 ha hs1 ⊢
  generalize hE : rMore (rForm n 1) [111, 114] (s1.2.1.length + 1) a s1 = E
  refine gives_of_body L_ok (by rfl) (pH_under _) (fn := Try.f43) rfl rfl rfl rfl (by kernel_rfl) ?_
  repeat' (first
    | apply w_seq
    | apply w_region
    | apply o_end
    | apply t_normal
    | (apply o_val; exact kc0; exact kc2)
    | (apply o_turns; exact kc0; exact kc1; exact h1)
    | apply w_block
    | fail)
  refine w_loop (fun k f H => ∃ (a : RT) (s1 : PS), H = pH s1 ∧ Few s1 ∧ s1.2.1.length < k ∧ s1.2.1.length ≤ s.2.1.length ∧ rMore (rForm n 1) [111, 114] k a s1 = E ∧ f 0 = pR ∧ f 3 = rtrD a) (s1.2.1.length + 1) ⟨a, s1, rfl, hs1, by omega, ha.2, hE, by simp, by simp⟩ ?_
  clear hE h1 ha hs1
  rintro k f H ⟨a, s1, rfl, hs1, hk, hle, hE, g0, g3⟩
  obtain ⟨k, rfl⟩ : ∃ j, k = j + 1 := ⟨k - 1, by omega⟩
  rw [rMore] at hE
  obtain ⟨ca, hca⟩ := isRT_ex a
  have hfa := rtD_flat a
  rw [show rtrD a = .box ca from hca] at g3 hfa
  cases hi : rIs [111, 114] s1
  · rw [hi] at hE
    simp only [Bool.false_eq_true, if_false] at hE
    have a1 := rtake_no (m := m) hs1 hi
    subst hE
    repeat' (first
      | apply w_seq
      | apply w_region
      | apply o_end
      | apply t_normal
      | (apply o_val; exact kc0; exact kc2)
      | (apply o_turns; exact kc0; exact kc1; exact a1)
      | apply w_ret
      | apply w_exit
      | apply t_exit
      | apply b_here
      | (apply w_false; exact kc3)
      | fail)
    apply g_ret (d := rtrD a) (d0 := .box ca) (by simp [*]; done) (by simp; rfl) (by rw [show rtrD a = .box ca from hca]; exact Snap.flat hfa)
  · rw [hi] at hE
    simp only [if_true] at hE
    have a1 := rtake_yes (m := m) hs1 hi
    have hl := ris_len hi
    have hs2 := few_of hs1 (rnext_all s1).1
    have a2 := hF (rNext s1) hs2 (by omega)
    have hb := rform_all n 1 (rNext s1)
    have hs3 := few_of hs2 hb.1
    generalize rForm n 1 (rNext s1) = y at a2 hb hs3 hE
    obtain ⟨b, s3⟩ := y
    simp only at a2 hb hs3 hE
    obtain ⟨cb, hcb⟩ := isRT_ex b
    have hfb := rtD_flat b
    rw [show rtrD b = .box cb from hcb] at a2 hfb
    generalize rNext s1 = s2 at a1 a2 hl hb
    repeat' (first
      | apply w_seq
      | apply w_region
      | apply o_end
      | apply t_normal
      | (apply o_val; exact kc0; exact kc2)
      | (apply o_frz; exact kc0; rfl; exact kc1; (focus (simp; done)); exact kd7)
      | (apply o_turns; exact kc0; exact kc1; exact a1)
      | (apply o_turns; exact kc0; exact kc1; exact a2)
      | apply w_skip
      | apply w_block
      | apply b_normal
      | (apply w_true; exact kc3)
      | fail)
    exact ⟨k, by omega, .bin [111, 114] a b, s3, rfl, hs3, by omega, by omega, hE, by simp [*], by rw [rtrD, show rtrD a = .box ca from hca, show rtrD b = .box cb from hcb]; simp⟩
theorem factor_of {n : Nat} (hF : Fac n m) (hM : Fml n m) : Fac (n + 1) m := by
  intro s hs hn
  rw [rForm]
  case x_4 => decide
  case x_5 => decide
  refine gives_of_body L_ok (by rfl) (pH_under _) (fn := Try.f71) rfl rfl rfl rfl (by kernel_rfl) ?_
  cases i0 : rIs [110, 111, 116] s
  case true =>
    have t0 := rtake_yes (m := m) hs i0
    have hl := ris_len i0
    have hs2 := few_of hs (rnext_all s).1
    have a2 := hF (rNext s) hs2 (by omega)
    simp only [if_true]
    generalize rForm n 0 (rNext s) = y at a2 ⊢
    obtain ⟨b, s3⟩ := y
    simp only at a2 ⊢
    obtain ⟨cb, hcb⟩ := isRT_ex b
    have hfb := rtD_flat b
    rw [show rtrD b = .box cb from hcb] at a2 hfb
    generalize rNext s = s2 at t0 a2 hl hs2
    repeat' (first
      | apply w_seq
      | apply w_region
      | apply o_end
      | apply t_normal
      | (apply o_val; exact kc0; exact kc2)
      | (apply o_frz; exact kc0; rfl; exact kc1; (focus (simp; done)); exact kd7)
      | (apply o_turns; exact kc0; exact kc1; exact t0)
      | (apply o_turns; exact kc0; exact kc1; exact a2)
      | apply w_ret
      | apply t_ret
      | (apply w_true; exact kc3)
      | fail)
    apply g_ret (d := rtrD (.un [110, 111, 116] b)) (d0 := .box [.str [110, 111, 116], .str [], .int .i64 0, .isl 1 [[.box cb]]]) (by simp [*]; done) (by simp; rfl) (by rw [rtrD, show rtrD b = .box cb from hcb]; exact Snap.flat (by simp [hfb]))
  have t0 := rtake_no (m := m) hs i0
  simp only [Bool.false_eq_true, if_false]
  cases i1 : rIs [40] s
  case true =>
    have t1 := rtake_yes (m := m) hs i1
    have hl := ris_len i1
    have hs2 := few_of hs (rnext_all s).1
    have a2 := hM (rNext s) hs2 (by omega)
    have hb := rform_all n 2 (rNext s)
    have hs3 := few_of hs2 hb.1
    have a3 := rneed_ok (m := m) [41] _ hs3
    simp only [if_true]
    generalize rForm n 2 (rNext s) = y at a2 a3 ⊢
    obtain ⟨b, s3⟩ := y
    simp only at a2 a3 ⊢
    obtain ⟨cb, hcb⟩ := isRT_ex b
    have hfb := rtD_flat b
    rw [show rtrD b = .box cb from hcb] at a2 hfb
    generalize rNeed [41] s3 = s4 at a3 ⊢
    generalize rNext s = s2 at t1 a2 hl hs2
    repeat' (first
      | apply w_seq
      | apply w_region
      | apply o_end
      | apply t_normal
      | (apply o_val; exact kc0; exact kc2)
      | (apply o_turns; exact kc0; exact kc1; exact t0)
      | (apply o_turns; exact kc0; exact kc1; exact t1)
      | (apply o_turns; exact kc0; exact kc1; exact a2)
      | (apply o_turns; exact kc0; exact kc1; exact a3)
      | apply w_skip
      | apply w_ret
      | apply t_ret
      | (apply w_true; exact kc3)
      | (apply w_false; exact kc3)
      | fail)
    apply g_ret (d := rtrD b) (d0 := .box cb) (by simp [*]; done) (by simp; rfl) (by rw [show rtrD b = .box cb from hcb]; exact Snap.flat hfb)
  have t1 := rtake_no (m := m) hs i1
  simp only [Bool.false_eq_true, if_false]
  cases j0 : rIs [99, 104, 97, 110, 103, 101, 100] s
  case true =>
    have u0 := rtake_yes (m := m) hs j0
    have hs2 := few_of hs (rnext_all s).1
    have a2 := rkind_ok (m := m) 1 (rNext s) hs2
    simp only [if_true, rLeaf]
    generalize rKind 1 (rNext s) = y at a2 ⊢
    obtain ⟨⟨tk, ta, tx⟩, s3⟩ := y
    simp only at a2 ⊢
    generalize rNext s = s2 at u0 a2 hs2
    repeat' (first
      | apply w_seq
      | apply w_region
      | apply o_end
      | apply t_normal
      | (apply o_val; exact kc0; exact kc2)
      | (apply o_frz; exact kc0; rfl; exact kc1; (focus (simp; done)); exact kd7)
      | (apply o_turns; exact kc0; exact kc1; exact t0)
      | (apply o_turns; exact kc0; exact kc1; exact t1)
      | apply w_skip
      | apply w_block
      | (apply w_false; exact kc3)
      | fail)
    apply loop_is
    apply loop_unfold
    repeat' (first
      | apply w_seq
      | apply w_region
      | apply o_end
      | apply t_normal
      | (apply o_val; exact kc0; exact kc2)
      | (apply o_fuse; exact kc0; rfl; (focus (simp [*]; first | rfl | exact ⟨rfl, rfl⟩)); exact kc0; rfl; (focus (simp [*]; first | rfl | exact ⟨rfl, rfl⟩ | exact ⟨rfl, rfl, rfl⟩)); (focus (intro d hd; apply Under.flat; revert hd; revert d; simp; done)))
      | (apply o_turns; exact kc0; exact kc1; exact u0)
      | (apply o_turns; exact kc0; exact kc1; exact a2)
      | apply w_skip
      | apply w_block
      | apply w_ret
      | apply t_ret
      | apply b_ret
      | (apply w_true; exact kc3)
      | (apply w_drawA; rfl; exact ke3; exact kc4; exact kc4)
      | (apply a_end; exact kc4)
      | (apply a_val; exact kc4; exact kc5; exact kd9; exact kc6)
      | (apply a_mem; exact kc4; exact kc5; exact ke1; exact kd8; exact kc7; exact kc6; exact kc4)
      | fail)
    apply g_ret
    · simp [*]; rfl
    · rfl
    · rw [rtrD]; exact Snap.ref_flat (by simp) rfl rfl rfl (by simp) (by simp)
  have u0 := rtake_no (m := m) hs j0
  simp only [Bool.false_eq_true, if_false]
  cases j1 : rIs [102, 111, 114, 103, 101, 100] s
  case true =>
    have u1 := rtake_yes (m := m) hs j1
    have hs2 := few_of hs (rnext_all s).1
    have a2 := rkind_ok (m := m) 1 (rNext s) hs2
    simp only [if_true, rLeaf]
    generalize rKind 1 (rNext s) = y at a2 ⊢
    obtain ⟨⟨tk, ta, tx⟩, s3⟩ := y
    simp only at a2 ⊢
    generalize rNext s = s2 at u1 a2 hs2
    repeat' (first
      | apply w_seq
      | apply w_region
      | apply o_end
      | apply t_normal
      | (apply o_val; exact kc0; exact kc2)
      | (apply o_frz; exact kc0; rfl; exact kc1; (focus (simp; done)); exact kd7)
      | (apply o_turns; exact kc0; exact kc1; exact t0)
      | (apply o_turns; exact kc0; exact kc1; exact t1)
      | apply w_skip
      | apply w_block
      | (apply w_false; exact kc3)
      | fail)
    apply loop_is
    apply loop_unfold
    repeat' (first
      | apply w_seq
      | apply w_region
      | apply o_end
      | apply t_normal
      | (apply o_add; exact kc0; exact kc2; rfl; exact kc2; rfl; exact ke2)
      | (apply o_val; exact kc0; exact kc2)
      | (apply o_turns; exact kc0; exact kc1; exact u0)
      | apply w_skip
      | apply w_block
      | apply b_normal
      | (apply w_true; exact kc3)
      | (apply w_false; exact kc3)
      | fail)
    apply loop_unfold
    repeat' (first
      | apply w_seq
      | apply w_region
      | apply o_end
      | apply t_normal
      | (apply o_val; exact kc0; exact kc2)
      | (apply o_fuse; exact kc0; rfl; (focus (simp [*]; first | rfl | exact ⟨rfl, rfl⟩)); exact kc0; rfl; (focus (simp [*]; first | rfl | exact ⟨rfl, rfl⟩ | exact ⟨rfl, rfl, rfl⟩)); (focus (intro d hd; apply Under.flat; revert hd; revert d; simp; done)))
      | (apply o_turns; exact kc0; exact kc1; exact u1)
      | (apply o_turns; exact kc0; exact kc1; exact a2)
      | apply w_skip
      | apply w_block
      | apply w_ret
      | apply t_ret
      | apply b_ret
      | (apply w_true; exact kc3)
      | (apply w_drawA; rfl; exact ke3; exact kc4; exact kc4)
      | (apply a_end; exact kc4)
      | (apply a_val; exact kc4; exact kc5; exact kd9; exact kc6)
      | (apply a_mem; exact kc4; exact kc5; exact ke1; exact kd8; exact kc7; exact kc6; exact kc4)
      | fail)
    apply g_ret
    · simp [*]; rfl
    · rfl
    · rw [rtrD]; exact Snap.ref_flat (by simp) rfl rfl rfl (by simp) (by simp)
  have u1 := rtake_no (m := m) hs j1
  simp only [Bool.false_eq_true, if_false]
  cases j2 : rIs [107, 110, 111, 119, 115] s
  case true =>
    have u2 := rtake_yes (m := m) hs j2
    have hs2 := few_of hs (rnext_all s).1
    have a2 := rkind_ok (m := m) 1 (rNext s) hs2
    simp only [if_true, rLeaf]
    generalize rKind 1 (rNext s) = y at a2 ⊢
    obtain ⟨⟨tk, ta, tx⟩, s3⟩ := y
    simp only at a2 ⊢
    generalize rNext s = s2 at u2 a2 hs2
    repeat' (first
      | apply w_seq
      | apply w_region
      | apply o_end
      | apply t_normal
      | (apply o_val; exact kc0; exact kc2)
      | (apply o_frz; exact kc0; rfl; exact kc1; (focus (simp; done)); exact kd7)
      | (apply o_turns; exact kc0; exact kc1; exact t0)
      | (apply o_turns; exact kc0; exact kc1; exact t1)
      | apply w_skip
      | apply w_block
      | (apply w_false; exact kc3)
      | fail)
    apply loop_is
    apply loop_unfold
    repeat' (first
      | apply w_seq
      | apply w_region
      | apply o_end
      | apply t_normal
      | (apply o_add; exact kc0; exact kc2; rfl; exact kc2; rfl; exact ke2)
      | (apply o_val; exact kc0; exact kc2)
      | (apply o_turns; exact kc0; exact kc1; exact u0)
      | apply w_skip
      | apply w_block
      | apply b_normal
      | (apply w_true; exact kc3)
      | (apply w_false; exact kc3)
      | fail)
    apply loop_unfold
    repeat' (first
      | apply w_seq
      | apply w_region
      | apply o_end
      | apply t_normal
      | (apply o_add; exact kc0; exact kc2; rfl; exact kc2; rfl; exact ke2)
      | (apply o_val; exact kc0; exact kc2)
      | (apply o_turns; exact kc0; exact kc1; exact u1)
      | apply w_skip
      | apply w_block
      | apply b_normal
      | (apply w_true; exact kc3)
      | (apply w_false; exact kc3)
      | fail)
    apply loop_unfold
    repeat' (first
      | apply w_seq
      | apply w_region
      | apply o_end
      | apply t_normal
      | (apply o_val; exact kc0; exact kc2)
      | (apply o_fuse; exact kc0; rfl; (focus (simp [*]; first | rfl | exact ⟨rfl, rfl⟩)); exact kc0; rfl; (focus (simp [*]; first | rfl | exact ⟨rfl, rfl⟩ | exact ⟨rfl, rfl, rfl⟩)); (focus (intro d hd; apply Under.flat; revert hd; revert d; simp; done)))
      | (apply o_turns; exact kc0; exact kc1; exact u2)
      | (apply o_turns; exact kc0; exact kc1; exact a2)
      | apply w_skip
      | apply w_block
      | apply w_ret
      | apply t_ret
      | apply b_ret
      | (apply w_true; exact kc3)
      | (apply w_drawA; rfl; exact ke3; exact kc4; exact kc4)
      | (apply a_end; exact kc4)
      | (apply a_val; exact kc4; exact kc5; exact kd9; exact kc6)
      | (apply a_mem; exact kc4; exact kc5; exact ke1; exact kd8; exact kc7; exact kc6; exact kc4)
      | fail)
    apply g_ret
    · simp [*]; rfl
    · rfl
    · rw [rtrD]; exact Snap.ref_flat (by simp) rfl rfl rfl (by simp) (by simp)
  have u2 := rtake_no (m := m) hs j2
  simp only [Bool.false_eq_true, if_false]
  cases j3 : rIs [115, 116, 111, 108, 101, 110] s
  case true =>
    have u3 := rtake_yes (m := m) hs j3
    have hs2 := few_of hs (rnext_all s).1
    have a2 := rkind_ok (m := m) 1 (rNext s) hs2
    simp only [if_true, rLeaf]
    generalize rKind 1 (rNext s) = y at a2 ⊢
    obtain ⟨⟨tk, ta, tx⟩, s3⟩ := y
    simp only at a2 ⊢
    generalize rNext s = s2 at u3 a2 hs2
    repeat' (first
      | apply w_seq
      | apply w_region
      | apply o_end
      | apply t_normal
      | (apply o_val; exact kc0; exact kc2)
      | (apply o_frz; exact kc0; rfl; exact kc1; (focus (simp; done)); exact kd7)
      | (apply o_turns; exact kc0; exact kc1; exact t0)
      | (apply o_turns; exact kc0; exact kc1; exact t1)
      | apply w_skip
      | apply w_block
      | (apply w_false; exact kc3)
      | fail)
    apply loop_is
    apply loop_unfold
    repeat' (first
      | apply w_seq
      | apply w_region
      | apply o_end
      | apply t_normal
      | (apply o_add; exact kc0; exact kc2; rfl; exact kc2; rfl; exact ke2)
      | (apply o_val; exact kc0; exact kc2)
      | (apply o_turns; exact kc0; exact kc1; exact u0)
      | apply w_skip
      | apply w_block
      | apply b_normal
      | (apply w_true; exact kc3)
      | (apply w_false; exact kc3)
      | fail)
    apply loop_unfold
    repeat' (first
      | apply w_seq
      | apply w_region
      | apply o_end
      | apply t_normal
      | (apply o_add; exact kc0; exact kc2; rfl; exact kc2; rfl; exact ke2)
      | (apply o_val; exact kc0; exact kc2)
      | (apply o_turns; exact kc0; exact kc1; exact u1)
      | apply w_skip
      | apply w_block
      | apply b_normal
      | (apply w_true; exact kc3)
      | (apply w_false; exact kc3)
      | fail)
    apply loop_unfold
    repeat' (first
      | apply w_seq
      | apply w_region
      | apply o_end
      | apply t_normal
      | (apply o_add; exact kc0; exact kc2; rfl; exact kc2; rfl; exact ke2)
      | (apply o_val; exact kc0; exact kc2)
      | (apply o_turns; exact kc0; exact kc1; exact u2)
      | apply w_skip
      | apply w_block
      | apply b_normal
      | (apply w_true; exact kc3)
      | (apply w_false; exact kc3)
      | fail)
    apply loop_unfold
    repeat' (first
      | apply w_seq
      | apply w_region
      | apply o_end
      | apply t_normal
      | (apply o_val; exact kc0; exact kc2)
      | (apply o_fuse; exact kc0; rfl; (focus (simp [*]; first | rfl | exact ⟨rfl, rfl⟩)); exact kc0; rfl; (focus (simp [*]; first | rfl | exact ⟨rfl, rfl⟩ | exact ⟨rfl, rfl, rfl⟩)); (focus (intro d hd; apply Under.flat; revert hd; revert d; simp; done)))
      | (apply o_turns; exact kc0; exact kc1; exact u3)
      | (apply o_turns; exact kc0; exact kc1; exact a2)
      | apply w_skip
      | apply w_block
      | apply w_ret
      | apply t_ret
      | apply b_ret
      | (apply w_true; exact kc3)
      | (apply w_drawA; rfl; exact ke3; exact kc4; exact kc4)
      | (apply a_end; exact kc4)
      | (apply a_val; exact kc4; exact kc5; exact kd9; exact kc6)
      | (apply a_mem; exact kc4; exact kc5; exact ke1; exact kd8; exact kc7; exact kc6; exact kc4)
      | fail)
    apply g_ret
    · simp [*]; rfl
    · rfl
    · rw [rtrD]; exact Snap.ref_flat (by simp) rfl rfl rfl (by simp) (by simp)
  have u3 := rtake_no (m := m) hs j3
  simp only [Bool.false_eq_true, if_false]
  cases j4 : rIs [114, 97, 110] s
  case true =>
    have u4 := rtake_yes (m := m) hs j4
    have hs2 := few_of hs (rnext_all s).1
    have a2 := rkind_ok (m := m) 1 (rNext s) hs2
    simp only [if_true, rLeaf]
    generalize rKind 1 (rNext s) = y at a2 ⊢
    obtain ⟨⟨tk, ta, tx⟩, s3⟩ := y
    simp only at a2 ⊢
    generalize rNext s = s2 at u4 a2 hs2
    repeat' (first
      | apply w_seq
      | apply w_region
      | apply o_end
      | apply t_normal
      | (apply o_val; exact kc0; exact kc2)
      | (apply o_frz; exact kc0; rfl; exact kc1; (focus (simp; done)); exact kd7)
      | (apply o_turns; exact kc0; exact kc1; exact t0)
      | (apply o_turns; exact kc0; exact kc1; exact t1)
      | apply w_skip
      | apply w_block
      | (apply w_false; exact kc3)
      | fail)
    apply loop_is
    apply loop_unfold
    repeat' (first
      | apply w_seq
      | apply w_region
      | apply o_end
      | apply t_normal
      | (apply o_add; exact kc0; exact kc2; rfl; exact kc2; rfl; exact ke2)
      | (apply o_val; exact kc0; exact kc2)
      | (apply o_turns; exact kc0; exact kc1; exact u0)
      | apply w_skip
      | apply w_block
      | apply b_normal
      | (apply w_true; exact kc3)
      | (apply w_false; exact kc3)
      | fail)
    apply loop_unfold
    repeat' (first
      | apply w_seq
      | apply w_region
      | apply o_end
      | apply t_normal
      | (apply o_add; exact kc0; exact kc2; rfl; exact kc2; rfl; exact ke2)
      | (apply o_val; exact kc0; exact kc2)
      | (apply o_turns; exact kc0; exact kc1; exact u1)
      | apply w_skip
      | apply w_block
      | apply b_normal
      | (apply w_true; exact kc3)
      | (apply w_false; exact kc3)
      | fail)
    apply loop_unfold
    repeat' (first
      | apply w_seq
      | apply w_region
      | apply o_end
      | apply t_normal
      | (apply o_add; exact kc0; exact kc2; rfl; exact kc2; rfl; exact ke2)
      | (apply o_val; exact kc0; exact kc2)
      | (apply o_turns; exact kc0; exact kc1; exact u2)
      | apply w_skip
      | apply w_block
      | apply b_normal
      | (apply w_true; exact kc3)
      | (apply w_false; exact kc3)
      | fail)
    apply loop_unfold
    repeat' (first
      | apply w_seq
      | apply w_region
      | apply o_end
      | apply t_normal
      | (apply o_add; exact kc0; exact kc2; rfl; exact kc2; rfl; exact ke2)
      | (apply o_val; exact kc0; exact kc2)
      | (apply o_turns; exact kc0; exact kc1; exact u3)
      | apply w_skip
      | apply w_block
      | apply b_normal
      | (apply w_true; exact kc3)
      | (apply w_false; exact kc3)
      | fail)
    apply loop_unfold
    repeat' (first
      | apply w_seq
      | apply w_region
      | apply o_end
      | apply t_normal
      | (apply o_val; exact kc0; exact kc2)
      | (apply o_fuse; exact kc0; rfl; (focus (simp [*]; first | rfl | exact ⟨rfl, rfl⟩)); exact kc0; rfl; (focus (simp [*]; first | rfl | exact ⟨rfl, rfl⟩ | exact ⟨rfl, rfl, rfl⟩)); (focus (intro d hd; apply Under.flat; revert hd; revert d; simp; done)))
      | (apply o_turns; exact kc0; exact kc1; exact u4)
      | (apply o_turns; exact kc0; exact kc1; exact a2)
      | apply w_skip
      | apply w_block
      | apply w_ret
      | apply t_ret
      | apply b_ret
      | (apply w_true; exact kc3)
      | (apply w_drawA; rfl; exact ke3; exact kc4; exact kc4)
      | (apply a_end; exact kc4)
      | (apply a_val; exact kc4; exact kc5; exact kd9; exact kc6)
      | (apply a_mem; exact kc4; exact kc5; exact ke1; exact kd8; exact kc7; exact kc6; exact kc4)
      | fail)
    apply g_ret
    · simp [*]; rfl
    · rfl
    · rw [rtrD]; exact Snap.ref_flat (by simp) rfl rfl rfl (by simp) (by simp)
  have u4 := rtake_no (m := m) hs j4
  simp only [Bool.false_eq_true, if_false]
  have a2 := rfail_ok (m := m) s hs
  generalize rFail s = s2 at a2 ⊢
  repeat' (first
    | apply w_seq
    | apply w_region
    | apply o_end
    | apply t_normal
    | (apply o_val; exact kc0; exact kc2)
    | (apply o_frz; exact kc0; rfl; exact kc1; (focus (simp; done)); exact kd7)
    | (apply o_turns; exact kc0; exact kc1; exact t0)
    | (apply o_turns; exact kc0; exact kc1; exact t1)
    | apply w_skip
    | apply w_block
    | (apply w_false; exact kc3)
    | fail)
  apply loop_is
  apply loop_unfold
  repeat' (first
    | apply w_seq
    | apply w_region
    | apply o_end
    | apply t_normal
    | (apply o_add; exact kc0; exact kc2; rfl; exact kc2; rfl; exact ke2)
    | (apply o_val; exact kc0; exact kc2)
    | (apply o_turns; exact kc0; exact kc1; exact u0)
    | apply w_skip
    | apply w_block
    | apply b_normal
    | (apply w_true; exact kc3)
    | (apply w_false; exact kc3)
    | fail)
  apply loop_unfold
  repeat' (first
    | apply w_seq
    | apply w_region
    | apply o_end
    | apply t_normal
    | (apply o_add; exact kc0; exact kc2; rfl; exact kc2; rfl; exact ke2)
    | (apply o_val; exact kc0; exact kc2)
    | (apply o_turns; exact kc0; exact kc1; exact u1)
    | apply w_skip
    | apply w_block
    | apply b_normal
    | (apply w_true; exact kc3)
    | (apply w_false; exact kc3)
    | fail)
  apply loop_unfold
  repeat' (first
    | apply w_seq
    | apply w_region
    | apply o_end
    | apply t_normal
    | (apply o_add; exact kc0; exact kc2; rfl; exact kc2; rfl; exact ke2)
    | (apply o_val; exact kc0; exact kc2)
    | (apply o_turns; exact kc0; exact kc1; exact u2)
    | apply w_skip
    | apply w_block
    | apply b_normal
    | (apply w_true; exact kc3)
    | (apply w_false; exact kc3)
    | fail)
  apply loop_unfold
  repeat' (first
    | apply w_seq
    | apply w_region
    | apply o_end
    | apply t_normal
    | (apply o_add; exact kc0; exact kc2; rfl; exact kc2; rfl; exact ke2)
    | (apply o_val; exact kc0; exact kc2)
    | (apply o_turns; exact kc0; exact kc1; exact u3)
    | apply w_skip
    | apply w_block
    | apply b_normal
    | (apply w_true; exact kc3)
    | (apply w_false; exact kc3)
    | fail)
  apply loop_unfold
  repeat' (first
    | apply w_seq
    | apply w_region
    | apply o_end
    | apply t_normal
    | (apply o_add; exact kc0; exact kc2; rfl; exact kc2; rfl; exact ke2)
    | (apply o_val; exact kc0; exact kc2)
    | (apply o_turns; exact kc0; exact kc1; exact u4)
    | apply w_skip
    | apply w_block
    | apply b_normal
    | (apply w_true; exact kc3)
    | (apply w_false; exact kc3)
    | fail)
  apply loop_unfold
  repeat' (first
    | apply w_seq
    | apply w_region
    | apply o_end
    | apply t_normal
    | (apply o_val; exact kc0; exact kc2)
    | (apply o_frz; exact kc0; rfl; exact kc1; (focus (simp; done)); exact kd7)
    | (apply o_turns; exact kc0; exact kc1; exact a2)
    | apply w_ret
    | apply w_exit
    | apply t_exit
    | apply b_here
    | (apply w_false; exact kc3)
    | fail)
  apply g_ret
  · simp [*]; rfl
  · rfl
  · exact Snap.flat (rtD_flat (.leaf _ _ _))
theorem rforms_ok (n : Nat) : Fac n m ∧ Ter n m ∧ Fml n m := by
  induction n with
  | zero => exact ⟨fun s _ h => absurd h (by omega), fun s _ h => absurd h (by omega), fun s _ h => absurd h (by omega)⟩
  | succ n ih => exact ⟨factor_of ih.1 ih.2.2, term_of ih.1, formula_of ih.2.1⟩
theorem formula_ok (s : PS) (hs : Few s) : CallsV (L m) 43 [pR] (pH s) (Turns (rtrD (rForm (3 * s.2.1.length + 3) 2 s).1) (pH (rForm (3 * s.2.1.length + 3) 2 s).2)) := (rforms_ok (3 * s.2.1.length + 3)).2.2 s hs (by omega)
end Go.Proofs.Ytknkkfdkcemolaa.Vm
end
section
/- The document's reader of descriptions: attributes. -/
set_option linter.unusedSimpArgs false
set_option linter.unusedVariables false
set_option maxRecDepth 100000
set_option maxHeartbeats 4000000
namespace Go.Proofs.Ytknkkfdkcemolaa.Vm
open Go
variable {m : Int}
attribute [local irreducible] wpD opsD thenD blockD planD planA LoopD
attribute [local simp] List.take_of_length_le List.drop_of_length_le bne mvD

structure RA where
  k : List UInt8
  at_ : Nat
  t : Tok
abbrev raC (a : RA) : List D := [.str a.k, .int .i64 a.at_] ++ encT a.t
def rArg (t : Tok) (k : Nat) (s : PS) : RA × PS := (⟨t.text, t.at_, (rKind k s).1⟩, (rKind k s).2)
def rAttrK (t : Tok) (s : PS) : RA × PS :=
  if rIs [112, 97, 103, 101] s = true then (⟨t.text, t.at_, zeroTok⟩, rNext s) else
  if rIs [105, 110, 106, 101, 99, 116] s = true then (⟨t.text, t.at_, zeroTok⟩, rNext s) else
  if rIs [111, 119, 110] s = true then (⟨t.text, t.at_, zeroTok⟩, rNext s) else
  if rIs [99, 104, 97, 110, 103, 101, 115] s = true then (⟨t.text, t.at_, zeroTok⟩, rNext s) else
  if rIs [111, 112, 101, 110] s = true then (⟨t.text, t.at_, zeroTok⟩, rNext s) else
  if rIs [99, 114, 101, 100, 101, 110, 116, 105, 97, 108, 115] s = true then (⟨t.text, t.at_, zeroTok⟩, rNext s) else
  if rIs [115, 99, 114, 105, 112, 116] s = true then rArg t 1 (rNext s) else
  if rIs [110, 101, 101, 100, 115] s = true then rArg t 1 (rNext s) else
  if rIs [115, 101, 116, 115] s = true then rArg t 1 (rNext s) else
  if rIs [103, 105, 118, 101, 115] s = true then rArg t 1 (rNext s) else
  if rIs [114, 101, 100, 105, 114, 101, 99, 116] s = true then rArg t 1 (rNext s) else
  if rIs [99, 111, 114, 115] s = true then (if rIs [97, 110, 121] (rNext s) = true then rArg t 2 (rNext s) else rArg t 1 (rNext s)) else
  if rIs [104, 101, 97, 100, 101, 114] s = true then rArg t 3 (rNext s) else
  if rIs [97, 108, 108, 111, 119] s = true then rArg t 3 (rNext s) else
  if rIs [109, 101, 116, 104, 111, 100, 115] s = true then rArg t 3 (rNext s) else
  if rIs [99, 115, 112] s = true then rArg t 3 (rNext s) else
  (⟨t.text, t.at_, zeroTok⟩, rFail s)
def rAttr (s : PS) : RA × PS := match s.2.1 with
  | [] => (⟨[], 0, zeroTok⟩, rFail s)
  | t :: _ => rAttrK t s
theorem attrK_ok (pre : List Tok) (t : Tok) (r : List Tok) (b : Option Int) (hs : Few (pre, t :: r, b)) : CallsV (L m) 42 [pR] (pH (pre, t :: r, b)) (Turns (.agg (raC (rAttrK t (pre, t :: r, b)).1)) (pH (rAttrK t (pre, t :: r, b)).2)) := by
  unfold rAttrK
  refine gives_of_body L_ok (by rfl) (pH_under _) (fn := Try.f42) rfl rfl rfl rfl (by kernel_rfl) ?_
  obtain ⟨hc, hc2, hg1, hg2⟩ := at_facts pre t r
  have hc3 : decide ((pre.length : Int) + ((r.length : Int) + 1) ≤ (pre.length : Int)) = false := by simp; omega
  generalize hS : ((pre, t :: r, b) : PS) = s at hs ⊢
  have hH : pH s = [.cells 0 4 false [[tokL (pre ++ t :: r), .int .i64 pre.length, .int .i64 (codeO b), .int .i64 (atO b)]]] := by rw [← hS]
  have hs2 := few_of hs (rnext_all s).1
  cases i0 : rIs [112, 97, 103, 101] s
  case true =>
    have y := rtake_yes (m := m) hs i0
    simp only [if_true]
    generalize rNext s = s2 at y hs2 ⊢
    subst hS
    repeat' (first
      | apply w_seq
      | apply w_region
      | apply o_end
      | apply t_normal
      | (apply o_val; exact kc0; exact kc2)
      | (apply o_beside fine; exact kc0; exact kc1; exact y; rfl; rfl; exact kd4; exact kd3)
      | (apply o_mem; exact kc0; rfl; exact kc1)
      | apply w_skip
      | apply w_block
      | apply b_normal
      | apply w_ret
      | (apply w_true; exact kc3)
      | (apply w_false; exact kc3)
      | (apply w_drawA; rfl; exact ke3; exact kc4; exact kc4)
      | (apply a_end; exact kc4)
      | (apply a_val; exact kc4; exact kc5; exact kd9; exact kc6)
      | (apply a_tie; exact kc4; exact kc5; exact ke0; exact kc7; exact kc6; exact kc4)
      | (apply a_mem; exact kc4; exact kc5; exact ke1; exact kd8; exact kc7; exact kc6; exact kc4)
      | (apply a_memG; exact kc4; exact kc5; exact ke1; exact kd8; exact kc7; exact kc8; exact kc6; exact kc4)
      | fail)
    apply g_ret
    · simp [*]; rfl
    · rfl
    · exact Snap.flat (by simp [zeroTok])
  have n0 := rtake_no (m := m) hs i0
  simp only [Bool.false_eq_true, if_false]
  clear i0
  cases i1 : rIs [105, 110, 106, 101, 99, 116] s
  case true =>
    have y := rtake_yes (m := m) hs i1
    simp only [if_true]
    generalize rNext s = s2 at y hs2 ⊢
    subst hS
    repeat' (first
      | apply w_seq
      | apply w_region
      | apply o_end
      | apply t_normal
      | (apply o_val; exact kc0; exact kc2)
      | (apply o_beside fine; exact kc0; exact kc1; exact n0; rfl; rfl; exact kd4; exact kd3)
      | (apply o_beside fine; exact kc0; exact kc1; exact y; rfl; rfl; exact kd4; exact kd3)
      | (apply o_mem; exact kc0; rfl; exact kc1)
      | apply w_skip
      | apply w_block
      | apply b_normal
      | apply w_ret
      | (apply w_true; exact kc3)
      | (apply w_false; exact kc3)
      | (apply w_drawA; rfl; exact ke3; exact kc4; exact kc4)
      | (apply a_end; exact kc4)
      | (apply a_val; exact kc4; exact kc5; exact kd9; exact kc6)
      | (apply a_tie; exact kc4; exact kc5; exact ke0; exact kc7; exact kc6; exact kc4)
      | (apply a_mem; exact kc4; exact kc5; exact ke1; exact kd8; exact kc7; exact kc6; exact kc4)
      | (apply a_memG; exact kc4; exact kc5; exact ke1; exact kd8; exact kc7; exact kc8; exact kc6; exact kc4)
      | fail)
    apply g_ret
    · simp [*]; rfl
    · rfl
    · exact Snap.flat (by simp [zeroTok])
  have n1 := rtake_no (m := m) hs i1
  simp only [Bool.false_eq_true, if_false]
  clear i1
  cases i2 : rIs [111, 119, 110] s
  case true =>
    have y := rtake_yes (m := m) hs i2
    simp only [if_true]
    generalize rNext s = s2 at y hs2 ⊢
    subst hS
    repeat' (first
      | apply w_seq
      | apply w_region
      | apply o_end
      | apply t_normal
      | (apply o_val; exact kc0; exact kc2)
      | (apply o_beside fine; exact kc0; exact kc1; exact n0; rfl; rfl; exact kd4; exact kd3)
      | (apply o_beside fine; exact kc0; exact kc1; exact n1; rfl; rfl; exact kd4; exact kd3)
      | (apply o_beside fine; exact kc0; exact kc1; exact y; rfl; rfl; exact kd4; exact kd3)
      | (apply o_mem; exact kc0; rfl; exact kc1)
      | apply w_skip
      | apply w_block
      | apply b_normal
      | apply w_ret
      | (apply w_true; exact kc3)
      | (apply w_false; exact kc3)
      | (apply w_drawA; rfl; exact ke3; exact kc4; exact kc4)
      | (apply a_end; exact kc4)
      | (apply a_val; exact kc4; exact kc5; exact kd9; exact kc6)
      | (apply a_tie; exact kc4; exact kc5; exact ke0; exact kc7; exact kc6; exact kc4)
      | (apply a_mem; exact kc4; exact kc5; exact ke1; exact kd8; exact kc7; exact kc6; exact kc4)
      | (apply a_memG; exact kc4; exact kc5; exact ke1; exact kd8; exact kc7; exact kc8; exact kc6; exact kc4)
      | fail)
    apply g_ret
    · simp [*]; rfl
    · rfl
    · exact Snap.flat (by simp [zeroTok])
  have n2 := rtake_no (m := m) hs i2
  simp only [Bool.false_eq_true, if_false]
  clear i2
  cases i3 : rIs [99, 104, 97, 110, 103, 101, 115] s
  case true =>
    have y := rtake_yes (m := m) hs i3
    simp only [if_true]
    generalize rNext s = s2 at y hs2 ⊢
    subst hS
    repeat' (first
      | apply w_seq
      | apply w_region
      | apply o_end
      | apply t_normal
      | (apply o_val; exact kc0; exact kc2)
      | (apply o_beside fine; exact kc0; exact kc1; exact n0; rfl; rfl; exact kd4; exact kd3)
      | (apply o_beside fine; exact kc0; exact kc1; exact n1; rfl; rfl; exact kd4; exact kd3)
      | (apply o_beside fine; exact kc0; exact kc1; exact n2; rfl; rfl; exact kd4; exact kd3)
      | (apply o_beside fine; exact kc0; exact kc1; exact y; rfl; rfl; exact kd4; exact kd3)
      | (apply o_mem; exact kc0; rfl; exact kc1)
      | apply w_skip
      | apply w_block
      | apply b_normal
      | apply w_ret
      | (apply w_true; exact kc3)
      | (apply w_false; exact kc3)
      | (apply w_drawA; rfl; exact ke3; exact kc4; exact kc4)
      | (apply a_end; exact kc4)
      | (apply a_val; exact kc4; exact kc5; exact kd9; exact kc6)
      | (apply a_tie; exact kc4; exact kc5; exact ke0; exact kc7; exact kc6; exact kc4)
      | (apply a_mem; exact kc4; exact kc5; exact ke1; exact kd8; exact kc7; exact kc6; exact kc4)
      | (apply a_memG; exact kc4; exact kc5; exact ke1; exact kd8; exact kc7; exact kc8; exact kc6; exact kc4)
      | fail)
    apply g_ret
    · simp [*]; rfl
    · rfl
    · exact Snap.flat (by simp [zeroTok])
  have n3 := rtake_no (m := m) hs i3
  simp only [Bool.false_eq_true, if_false]
  clear i3
  cases i4 : rIs [111, 112, 101, 110] s
  case true =>
    have y := rtake_yes (m := m) hs i4
    simp only [if_true]
    generalize rNext s = s2 at y hs2 ⊢
    subst hS
    repeat' (first
      | apply w_seq
      | apply w_region
      | apply o_end
      | apply t_normal
      | (apply o_val; exact kc0; exact kc2)
      | (apply o_beside fine; exact kc0; exact kc1; exact n0; rfl; rfl; exact kd4; exact kd3)
      | (apply o_beside fine; exact kc0; exact kc1; exact n1; rfl; rfl; exact kd4; exact kd3)
      | (apply o_beside fine; exact kc0; exact kc1; exact n2; rfl; rfl; exact kd4; exact kd3)
      | (apply o_beside fine; exact kc0; exact kc1; exact n3; rfl; rfl; exact kd4; exact kd3)
      | (apply o_beside fine; exact kc0; exact kc1; exact y; rfl; rfl; exact kd4; exact kd3)
      | (apply o_mem; exact kc0; rfl; exact kc1)
      | apply w_skip
      | apply w_block
      | apply b_normal
      | apply w_ret
      | (apply w_true; exact kc3)
      | (apply w_false; exact kc3)
      | (apply w_drawA; rfl; exact ke3; exact kc4; exact kc4)
      | (apply a_end; exact kc4)
      | (apply a_val; exact kc4; exact kc5; exact kd9; exact kc6)
      | (apply a_tie; exact kc4; exact kc5; exact ke0; exact kc7; exact kc6; exact kc4)
      | (apply a_mem; exact kc4; exact kc5; exact ke1; exact kd8; exact kc7; exact kc6; exact kc4)
      | (apply a_memG; exact kc4; exact kc5; exact ke1; exact kd8; exact kc7; exact kc8; exact kc6; exact kc4)
      | fail)
    apply g_ret
    · simp [*]; rfl
    · rfl
    · exact Snap.flat (by simp [zeroTok])
  have n4 := rtake_no (m := m) hs i4
  simp only [Bool.false_eq_true, if_false]
  clear i4
  cases i5 : rIs [99, 114, 101, 100, 101, 110, 116, 105, 97, 108, 115] s
  case true =>
    have y := rtake_yes (m := m) hs i5
    simp only [if_true]
    generalize rNext s = s2 at y hs2 ⊢
    subst hS
    repeat' (first
      | apply w_seq
      | apply w_region
      | apply o_end
      | apply t_normal
      | (apply o_val; exact kc0; exact kc2)
      | (apply o_beside fine; exact kc0; exact kc1; exact n0; rfl; rfl; exact kd4; exact kd3)
      | (apply o_beside fine; exact kc0; exact kc1; exact n1; rfl; rfl; exact kd4; exact kd3)
      | (apply o_beside fine; exact kc0; exact kc1; exact n2; rfl; rfl; exact kd4; exact kd3)
      | (apply o_beside fine; exact kc0; exact kc1; exact n3; rfl; rfl; exact kd4; exact kd3)
      | (apply o_beside fine; exact kc0; exact kc1; exact n4; rfl; rfl; exact kd4; exact kd3)
      | (apply o_beside fine; exact kc0; exact kc1; exact y; rfl; rfl; exact kd4; exact kd3)
      | (apply o_mem; exact kc0; rfl; exact kc1)
      | apply w_skip
      | apply w_block
      | apply b_normal
      | apply w_ret
      | (apply w_true; exact kc3)
      | (apply w_false; exact kc3)
      | (apply w_drawA; rfl; exact ke3; exact kc4; exact kc4)
      | (apply a_end; exact kc4)
      | (apply a_val; exact kc4; exact kc5; exact kd9; exact kc6)
      | (apply a_tie; exact kc4; exact kc5; exact ke0; exact kc7; exact kc6; exact kc4)
      | (apply a_mem; exact kc4; exact kc5; exact ke1; exact kd8; exact kc7; exact kc6; exact kc4)
      | (apply a_memG; exact kc4; exact kc5; exact ke1; exact kd8; exact kc7; exact kc8; exact kc6; exact kc4)
      | fail)
    apply g_ret
    · simp [*]; rfl
    · rfl
    · exact Snap.flat (by simp [zeroTok])
  have n5 := rtake_no (m := m) hs i5
  simp only [Bool.false_eq_true, if_false]
  clear i5
  cases i6 : rIs [115, 99, 114, 105, 112, 116] s
  case true =>
    have y := rtake_yes (m := m) hs i6
    have k1 := rkind_ok (m := m) 1 (rNext s) hs2
    simp only [if_true, rArg]
    generalize rKind 1 (rNext s) = y2 at k1 ⊢
    obtain ⟨⟨tk, ta, tx⟩, s3⟩ := y2
    simp only at k1 ⊢
    generalize rNext s = s2 at y k1 hs2
    subst hS
    repeat' (first
      | apply w_seq
      | apply w_region
      | apply o_end
      | apply t_normal
      | (apply o_val; exact kc0; exact kc2)
      | (apply o_beside fine; exact kc0; exact kc1; exact n0; rfl; rfl; exact kd4; exact kd3)
      | (apply o_beside fine; exact kc0; exact kc1; exact n1; rfl; rfl; exact kd4; exact kd3)
      | (apply o_beside fine; exact kc0; exact kc1; exact n2; rfl; rfl; exact kd4; exact kd3)
      | (apply o_beside fine; exact kc0; exact kc1; exact n3; rfl; rfl; exact kd4; exact kd3)
      | (apply o_beside fine; exact kc0; exact kc1; exact n4; rfl; rfl; exact kd4; exact kd3)
      | (apply o_beside fine; exact kc0; exact kc1; exact n5; rfl; rfl; exact kd4; exact kd3)
      | (apply o_beside fine; exact kc0; exact kc1; exact y; rfl; rfl; exact kd4; exact kd3)
      | (apply o_beside fine; exact kc0; exact kc1; exact k1; rfl; rfl; exact kd4; exact kd3)
      | (apply o_mem; exact kc0; rfl; exact kc1)
      | apply w_skip
      | apply w_block
      | apply b_normal
      | apply w_ret
      | (apply w_true; exact kc3)
      | (apply w_false; exact kc3)
      | (apply w_drawA; rfl; exact ke3; exact kc4; exact kc4)
      | (apply a_end; exact kc4)
      | (apply a_val; exact kc4; exact kc5; exact kd9; exact kc6)
      | (apply a_tie; exact kc4; exact kc5; exact ke0; exact kc7; exact kc6; exact kc4)
      | (apply a_mem; exact kc4; exact kc5; exact ke1; exact kd8; exact kc7; exact kc6; exact kc4)
      | (apply a_memG; exact kc4; exact kc5; exact ke1; exact kd8; exact kc7; exact kc8; exact kc6; exact kc4)
      | fail)
    apply g_ret
    · simp [*]; rfl
    · rfl
    · exact Snap.flat (by simp [zeroTok])
  have n6 := rtake_no (m := m) hs i6
  simp only [Bool.false_eq_true, if_false]
  clear i6
  cases i7 : rIs [110, 101, 101, 100, 115] s
  case true =>
    have y := rtake_yes (m := m) hs i7
    have k1 := rkind_ok (m := m) 1 (rNext s) hs2
    simp only [if_true, rArg]
    generalize rKind 1 (rNext s) = y2 at k1 ⊢
    obtain ⟨⟨tk, ta, tx⟩, s3⟩ := y2
    simp only at k1 ⊢
    generalize rNext s = s2 at y k1 hs2
    subst hS
    repeat' (first
      | apply w_seq
      | apply w_region
      | apply o_end
      | apply t_normal
      | (apply o_val; exact kc0; exact kc2)
      | (apply o_beside fine; exact kc0; exact kc1; exact n0; rfl; rfl; exact kd4; exact kd3)
      | (apply o_beside fine; exact kc0; exact kc1; exact n1; rfl; rfl; exact kd4; exact kd3)
      | (apply o_beside fine; exact kc0; exact kc1; exact n2; rfl; rfl; exact kd4; exact kd3)
      | (apply o_beside fine; exact kc0; exact kc1; exact n3; rfl; rfl; exact kd4; exact kd3)
      | (apply o_beside fine; exact kc0; exact kc1; exact n4; rfl; rfl; exact kd4; exact kd3)
      | (apply o_beside fine; exact kc0; exact kc1; exact n5; rfl; rfl; exact kd4; exact kd3)
      | (apply o_beside fine; exact kc0; exact kc1; exact n6; rfl; rfl; exact kd4; exact kd3)
      | (apply o_beside fine; exact kc0; exact kc1; exact y; rfl; rfl; exact kd4; exact kd3)
      | (apply o_beside fine; exact kc0; exact kc1; exact k1; rfl; rfl; exact kd4; exact kd3)
      | (apply o_mem; exact kc0; rfl; exact kc1)
      | apply w_skip
      | apply w_block
      | apply b_normal
      | apply w_ret
      | (apply w_true; exact kc3)
      | (apply w_false; exact kc3)
      | (apply w_drawA; rfl; exact ke3; exact kc4; exact kc4)
      | (apply a_end; exact kc4)
      | (apply a_val; exact kc4; exact kc5; exact kd9; exact kc6)
      | (apply a_tie; exact kc4; exact kc5; exact ke0; exact kc7; exact kc6; exact kc4)
      | (apply a_mem; exact kc4; exact kc5; exact ke1; exact kd8; exact kc7; exact kc6; exact kc4)
      | (apply a_memG; exact kc4; exact kc5; exact ke1; exact kd8; exact kc7; exact kc8; exact kc6; exact kc4)
      | fail)
    apply g_ret
    · simp [*]; rfl
    · rfl
    · exact Snap.flat (by simp [zeroTok])
  have n7 := rtake_no (m := m) hs i7
  simp only [Bool.false_eq_true, if_false]
  clear i7
  cases i8 : rIs [115, 101, 116, 115] s
  case true =>
    have y := rtake_yes (m := m) hs i8
    have k1 := rkind_ok (m := m) 1 (rNext s) hs2
    simp only [if_true, rArg]
    generalize rKind 1 (rNext s) = y2 at k1 ⊢
    obtain ⟨⟨tk, ta, tx⟩, s3⟩ := y2
    simp only at k1 ⊢
    generalize rNext s = s2 at y k1 hs2
    subst hS
    repeat' (first
      | apply w_seq
      | apply w_region
      | apply o_end
      | apply t_normal
      | (apply o_val; exact kc0; exact kc2)
      | (apply o_beside fine; exact kc0; exact kc1; exact n0; rfl; rfl; exact kd4; exact kd3)
      | (apply o_beside fine; exact kc0; exact kc1; exact n1; rfl; rfl; exact kd4; exact kd3)
      | (apply o_beside fine; exact kc0; exact kc1; exact n2; rfl; rfl; exact kd4; exact kd3)
      | (apply o_beside fine; exact kc0; exact kc1; exact n3; rfl; rfl; exact kd4; exact kd3)
      | (apply o_beside fine; exact kc0; exact kc1; exact n4; rfl; rfl; exact kd4; exact kd3)
      | (apply o_beside fine; exact kc0; exact kc1; exact n5; rfl; rfl; exact kd4; exact kd3)
      | (apply o_beside fine; exact kc0; exact kc1; exact n6; rfl; rfl; exact kd4; exact kd3)
      | (apply o_beside fine; exact kc0; exact kc1; exact n7; rfl; rfl; exact kd4; exact kd3)
      | (apply o_beside fine; exact kc0; exact kc1; exact y; rfl; rfl; exact kd4; exact kd3)
      | (apply o_beside fine; exact kc0; exact kc1; exact k1; rfl; rfl; exact kd4; exact kd3)
      | (apply o_mem; exact kc0; rfl; exact kc1)
      | apply w_skip
      | apply w_block
      | apply b_normal
      | apply w_ret
      | (apply w_true; exact kc3)
      | (apply w_false; exact kc3)
      | (apply w_drawA; rfl; exact ke3; exact kc4; exact kc4)
      | (apply a_end; exact kc4)
      | (apply a_val; exact kc4; exact kc5; exact kd9; exact kc6)
      | (apply a_tie; exact kc4; exact kc5; exact ke0; exact kc7; exact kc6; exact kc4)
      | (apply a_mem; exact kc4; exact kc5; exact ke1; exact kd8; exact kc7; exact kc6; exact kc4)
      | (apply a_memG; exact kc4; exact kc5; exact ke1; exact kd8; exact kc7; exact kc8; exact kc6; exact kc4)
      | fail)
    apply g_ret
    · simp [*]; rfl
    · rfl
    · exact Snap.flat (by simp [zeroTok])
  have n8 := rtake_no (m := m) hs i8
  simp only [Bool.false_eq_true, if_false]
  clear i8
  cases i9 : rIs [103, 105, 118, 101, 115] s
  case true =>
    have y := rtake_yes (m := m) hs i9
    have k1 := rkind_ok (m := m) 1 (rNext s) hs2
    simp only [if_true, rArg]
    generalize rKind 1 (rNext s) = y2 at k1 ⊢
    obtain ⟨⟨tk, ta, tx⟩, s3⟩ := y2
    simp only at k1 ⊢
    generalize rNext s = s2 at y k1 hs2
    subst hS
    repeat' (first
      | apply w_seq
      | apply w_region
      | apply o_end
      | apply t_normal
      | (apply o_val; exact kc0; exact kc2)
      | (apply o_beside fine; exact kc0; exact kc1; exact n0; rfl; rfl; exact kd4; exact kd3)
      | (apply o_beside fine; exact kc0; exact kc1; exact n1; rfl; rfl; exact kd4; exact kd3)
      | (apply o_beside fine; exact kc0; exact kc1; exact n2; rfl; rfl; exact kd4; exact kd3)
      | (apply o_beside fine; exact kc0; exact kc1; exact n3; rfl; rfl; exact kd4; exact kd3)
      | (apply o_beside fine; exact kc0; exact kc1; exact n4; rfl; rfl; exact kd4; exact kd3)
      | (apply o_beside fine; exact kc0; exact kc1; exact n5; rfl; rfl; exact kd4; exact kd3)
      | (apply o_beside fine; exact kc0; exact kc1; exact n6; rfl; rfl; exact kd4; exact kd3)
      | (apply o_beside fine; exact kc0; exact kc1; exact n7; rfl; rfl; exact kd4; exact kd3)
      | (apply o_beside fine; exact kc0; exact kc1; exact n8; rfl; rfl; exact kd4; exact kd3)
      | (apply o_beside fine; exact kc0; exact kc1; exact y; rfl; rfl; exact kd4; exact kd3)
      | (apply o_beside fine; exact kc0; exact kc1; exact k1; rfl; rfl; exact kd4; exact kd3)
      | (apply o_mem; exact kc0; rfl; exact kc1)
      | apply w_skip
      | apply w_block
      | apply b_normal
      | apply w_ret
      | (apply w_true; exact kc3)
      | (apply w_false; exact kc3)
      | (apply w_drawA; rfl; exact ke3; exact kc4; exact kc4)
      | (apply a_end; exact kc4)
      | (apply a_val; exact kc4; exact kc5; exact kd9; exact kc6)
      | (apply a_tie; exact kc4; exact kc5; exact ke0; exact kc7; exact kc6; exact kc4)
      | (apply a_mem; exact kc4; exact kc5; exact ke1; exact kd8; exact kc7; exact kc6; exact kc4)
      | (apply a_memG; exact kc4; exact kc5; exact ke1; exact kd8; exact kc7; exact kc8; exact kc6; exact kc4)
      | fail)
    apply g_ret
    · simp [*]; rfl
    · rfl
    · exact Snap.flat (by simp [zeroTok])
  have n9 := rtake_no (m := m) hs i9
  simp only [Bool.false_eq_true, if_false]
  clear i9
  cases i10 : rIs [114, 101, 100, 105, 114, 101, 99, 116] s
  case true =>
    have y := rtake_yes (m := m) hs i10
    have k1 := rkind_ok (m := m) 1 (rNext s) hs2
    simp only [if_true, rArg]
    generalize rKind 1 (rNext s) = y2 at k1 ⊢
    obtain ⟨⟨tk, ta, tx⟩, s3⟩ := y2
    simp only at k1 ⊢
    generalize rNext s = s2 at y k1 hs2
    subst hS
    repeat' (first
      | apply w_seq
      | apply w_region
      | apply o_end
      | apply t_normal
      | (apply o_val; exact kc0; exact kc2)
      | (apply o_beside fine; exact kc0; exact kc1; exact n0; rfl; rfl; exact kd4; exact kd3)
      | (apply o_beside fine; exact kc0; exact kc1; exact n1; rfl; rfl; exact kd4; exact kd3)
      | (apply o_beside fine; exact kc0; exact kc1; exact n2; rfl; rfl; exact kd4; exact kd3)
      | (apply o_beside fine; exact kc0; exact kc1; exact n3; rfl; rfl; exact kd4; exact kd3)
      | (apply o_beside fine; exact kc0; exact kc1; exact n4; rfl; rfl; exact kd4; exact kd3)
      | (apply o_beside fine; exact kc0; exact kc1; exact n5; rfl; rfl; exact kd4; exact kd3)
      | (apply o_beside fine; exact kc0; exact kc1; exact n6; rfl; rfl; exact kd4; exact kd3)
      | (apply o_beside fine; exact kc0; exact kc1; exact n7; rfl; rfl; exact kd4; exact kd3)
      | (apply o_beside fine; exact kc0; exact kc1; exact n8; rfl; rfl; exact kd4; exact kd3)
      | (apply o_beside fine; exact kc0; exact kc1; exact n9; rfl; rfl; exact kd4; exact kd3)
      | (apply o_beside fine; exact kc0; exact kc1; exact y; rfl; rfl; exact kd4; exact kd3)
      | (apply o_beside fine; exact kc0; exact kc1; exact k1; rfl; rfl; exact kd4; exact kd3)
      | (apply o_mem; exact kc0; rfl; exact kc1)
      | apply w_skip
      | apply w_block
      | apply b_normal
      | apply w_ret
      | (apply w_true; exact kc3)
      | (apply w_false; exact kc3)
      | (apply w_drawA; rfl; exact ke3; exact kc4; exact kc4)
      | (apply a_end; exact kc4)
      | (apply a_val; exact kc4; exact kc5; exact kd9; exact kc6)
      | (apply a_tie; exact kc4; exact kc5; exact ke0; exact kc7; exact kc6; exact kc4)
      | (apply a_mem; exact kc4; exact kc5; exact ke1; exact kd8; exact kc7; exact kc6; exact kc4)
      | (apply a_memG; exact kc4; exact kc5; exact ke1; exact kd8; exact kc7; exact kc8; exact kc6; exact kc4)
      | fail)
    apply g_ret
    · simp [*]; rfl
    · rfl
    · exact Snap.flat (by simp [zeroTok])
  have n10 := rtake_no (m := m) hs i10
  simp only [Bool.false_eq_true, if_false]
  clear i10
  cases i11 : rIs [99, 111, 114, 115] s
  case true =>
    have y := rtake_yes (m := m) hs i11
    have z := ris_ok (m := m) [97, 110, 121] (rNext s) hs2
    have k1 := rkind_ok (m := m) 1 (rNext s) hs2
    have k2 := rkind_ok (m := m) 2 (rNext s) hs2
    simp only [if_true, rArg]
    cases ia : rIs [97, 110, 121] (rNext s)
    case false =>
      rw [ia] at z
      simp only [if_true, Bool.false_eq_true, if_false]
      generalize rKind 1 (rNext s) = y2 at k1 ⊢
      obtain ⟨⟨tk, ta, tx⟩, s3⟩ := y2
      simp only at k1 ⊢
      generalize rNext s = s2 at y z k1 hs2
      clear k2 ia
      subst hS
      repeat' (first
        | apply w_seq
        | apply w_region
        | apply o_end
        | apply t_normal
        | (apply o_val; exact kc0; exact kc2)
        | (apply o_beside fine; exact kc0; exact kc1; exact n0; rfl; rfl; exact kd4; exact kd3)
        | (apply o_beside fine; exact kc0; exact kc1; exact n1; rfl; rfl; exact kd4; exact kd3)
        | (apply o_beside fine; exact kc0; exact kc1; exact n2; rfl; rfl; exact kd4; exact kd3)
        | (apply o_beside fine; exact kc0; exact kc1; exact n3; rfl; rfl; exact kd4; exact kd3)
        | (apply o_beside fine; exact kc0; exact kc1; exact n4; rfl; rfl; exact kd4; exact kd3)
        | (apply o_beside fine; exact kc0; exact kc1; exact n5; rfl; rfl; exact kd4; exact kd3)
        | (apply o_beside fine; exact kc0; exact kc1; exact n6; rfl; rfl; exact kd4; exact kd3)
        | (apply o_beside fine; exact kc0; exact kc1; exact n7; rfl; rfl; exact kd4; exact kd3)
        | (apply o_beside fine; exact kc0; exact kc1; exact n8; rfl; rfl; exact kd4; exact kd3)
        | (apply o_beside fine; exact kc0; exact kc1; exact n9; rfl; rfl; exact kd4; exact kd3)
        | (apply o_beside fine; exact kc0; exact kc1; exact n10; rfl; rfl; exact kd4; exact kd3)
        | (apply o_beside fine; exact kc0; exact kc1; exact y; rfl; rfl; exact kd4; exact kd3)
        | (apply o_beside fine; exact kc0; exact kc1; exact z; rfl; rfl; exact kd4; exact kd3)
        | (apply o_beside fine; exact kc0; exact kc1; exact k1; rfl; rfl; exact kd4; exact kd3)
        | (apply o_mem; exact kc0; rfl; exact kc1)
        | apply w_skip
        | apply w_block
        | apply b_normal
        | apply w_ret
        | (apply w_true; exact kc3)
        | (apply w_false; exact kc3)
        | (apply w_drawA; rfl; exact ke3; exact kc4; exact kc4)
        | (apply a_end; exact kc4)
        | (apply a_val; exact kc4; exact kc5; exact kd9; exact kc6)
        | (apply a_tie; exact kc4; exact kc5; exact ke0; exact kc7; exact kc6; exact kc4)
        | (apply a_mem; exact kc4; exact kc5; exact ke1; exact kd8; exact kc7; exact kc6; exact kc4)
        | (apply a_memG; exact kc4; exact kc5; exact ke1; exact kd8; exact kc7; exact kc8; exact kc6; exact kc4)
        | fail)
      apply g_ret
      · simp [*]; rfl
      · rfl
      · exact Snap.flat (by simp [zeroTok])
    case true =>
      rw [ia] at z
      simp only [if_true, Bool.false_eq_true, if_false]
      generalize rKind 2 (rNext s) = y2 at k2 ⊢
      obtain ⟨⟨tk, ta, tx⟩, s3⟩ := y2
      simp only at k2 ⊢
      generalize rNext s = s2 at y z k2 hs2
      clear k1 ia
      subst hS
      repeat' (first
        | apply w_seq
        | apply w_region
        | apply o_end
        | apply t_normal
        | (apply o_val; exact kc0; exact kc2)
        | (apply o_beside fine; exact kc0; exact kc1; exact n0; rfl; rfl; exact kd4; exact kd3)
        | (apply o_beside fine; exact kc0; exact kc1; exact n1; rfl; rfl; exact kd4; exact kd3)
        | (apply o_beside fine; exact kc0; exact kc1; exact n2; rfl; rfl; exact kd4; exact kd3)
        | (apply o_beside fine; exact kc0; exact kc1; exact n3; rfl; rfl; exact kd4; exact kd3)
        | (apply o_beside fine; exact kc0; exact kc1; exact n4; rfl; rfl; exact kd4; exact kd3)
        | (apply o_beside fine; exact kc0; exact kc1; exact n5; rfl; rfl; exact kd4; exact kd3)
        | (apply o_beside fine; exact kc0; exact kc1; exact n6; rfl; rfl; exact kd4; exact kd3)
        | (apply o_beside fine; exact kc0; exact kc1; exact n7; rfl; rfl; exact kd4; exact kd3)
        | (apply o_beside fine; exact kc0; exact kc1; exact n8; rfl; rfl; exact kd4; exact kd3)
        | (apply o_beside fine; exact kc0; exact kc1; exact n9; rfl; rfl; exact kd4; exact kd3)
        | (apply o_beside fine; exact kc0; exact kc1; exact n10; rfl; rfl; exact kd4; exact kd3)
        | (apply o_beside fine; exact kc0; exact kc1; exact y; rfl; rfl; exact kd4; exact kd3)
        | (apply o_beside fine; exact kc0; exact kc1; exact z; rfl; rfl; exact kd4; exact kd3)
        | (apply o_beside fine; exact kc0; exact kc1; exact k2; rfl; rfl; exact kd4; exact kd3)
        | (apply o_mem; exact kc0; rfl; exact kc1)
        | apply w_skip
        | apply w_block
        | apply b_normal
        | apply w_ret
        | (apply w_true; exact kc3)
        | (apply w_false; exact kc3)
        | (apply w_drawA; rfl; exact ke3; exact kc4; exact kc4)
        | (apply a_end; exact kc4)
        | (apply a_val; exact kc4; exact kc5; exact kd9; exact kc6)
        | (apply a_tie; exact kc4; exact kc5; exact ke0; exact kc7; exact kc6; exact kc4)
        | (apply a_mem; exact kc4; exact kc5; exact ke1; exact kd8; exact kc7; exact kc6; exact kc4)
        | (apply a_memG; exact kc4; exact kc5; exact ke1; exact kd8; exact kc7; exact kc8; exact kc6; exact kc4)
        | fail)
      apply g_ret
      · simp [*]; rfl
      · rfl
      · exact Snap.flat (by simp [zeroTok])
  have n11 := rtake_no (m := m) hs i11
  simp only [Bool.false_eq_true, if_false]
  clear i11
  cases i12 : rIs [104, 101, 97, 100, 101, 114] s
  case true =>
    have y := rtake_yes (m := m) hs i12
    have k1 := rkind_ok (m := m) 3 (rNext s) hs2
    simp only [if_true, rArg]
    generalize rKind 3 (rNext s) = y2 at k1 ⊢
    obtain ⟨⟨tk, ta, tx⟩, s3⟩ := y2
    simp only at k1 ⊢
    generalize rNext s = s2 at y k1 hs2
    subst hS
    repeat' (first
      | apply w_seq
      | apply w_region
      | apply o_end
      | apply t_normal
      | (apply o_val; exact kc0; exact kc2)
      | (apply o_beside fine; exact kc0; exact kc1; exact n0; rfl; rfl; exact kd4; exact kd3)
      | (apply o_beside fine; exact kc0; exact kc1; exact n1; rfl; rfl; exact kd4; exact kd3)
      | (apply o_beside fine; exact kc0; exact kc1; exact n2; rfl; rfl; exact kd4; exact kd3)
      | (apply o_beside fine; exact kc0; exact kc1; exact n3; rfl; rfl; exact kd4; exact kd3)
      | (apply o_beside fine; exact kc0; exact kc1; exact n4; rfl; rfl; exact kd4; exact kd3)
      | (apply o_beside fine; exact kc0; exact kc1; exact n5; rfl; rfl; exact kd4; exact kd3)
      | (apply o_beside fine; exact kc0; exact kc1; exact n6; rfl; rfl; exact kd4; exact kd3)
      | (apply o_beside fine; exact kc0; exact kc1; exact n7; rfl; rfl; exact kd4; exact kd3)
      | (apply o_beside fine; exact kc0; exact kc1; exact n8; rfl; rfl; exact kd4; exact kd3)
      | (apply o_beside fine; exact kc0; exact kc1; exact n9; rfl; rfl; exact kd4; exact kd3)
      | (apply o_beside fine; exact kc0; exact kc1; exact n10; rfl; rfl; exact kd4; exact kd3)
      | (apply o_beside fine; exact kc0; exact kc1; exact n11; rfl; rfl; exact kd4; exact kd3)
      | (apply o_beside fine; exact kc0; exact kc1; exact y; rfl; rfl; exact kd4; exact kd3)
      | (apply o_beside fine; exact kc0; exact kc1; exact k1; rfl; rfl; exact kd4; exact kd3)
      | (apply o_mem; exact kc0; rfl; exact kc1)
      | apply w_skip
      | apply w_block
      | apply b_normal
      | apply w_ret
      | (apply w_true; exact kc3)
      | (apply w_false; exact kc3)
      | (apply w_drawA; rfl; exact ke3; exact kc4; exact kc4)
      | (apply a_end; exact kc4)
      | (apply a_val; exact kc4; exact kc5; exact kd9; exact kc6)
      | (apply a_tie; exact kc4; exact kc5; exact ke0; exact kc7; exact kc6; exact kc4)
      | (apply a_mem; exact kc4; exact kc5; exact ke1; exact kd8; exact kc7; exact kc6; exact kc4)
      | (apply a_memG; exact kc4; exact kc5; exact ke1; exact kd8; exact kc7; exact kc8; exact kc6; exact kc4)
      | fail)
    apply g_ret
    · simp [*]; rfl
    · rfl
    · exact Snap.flat (by simp [zeroTok])
  have n12 := rtake_no (m := m) hs i12
  simp only [Bool.false_eq_true, if_false]
  clear i12
  cases i13 : rIs [97, 108, 108, 111, 119] s
  case true =>
    have y := rtake_yes (m := m) hs i13
    have k1 := rkind_ok (m := m) 3 (rNext s) hs2
    simp only [if_true, rArg]
    generalize rKind 3 (rNext s) = y2 at k1 ⊢
    obtain ⟨⟨tk, ta, tx⟩, s3⟩ := y2
    simp only at k1 ⊢
    generalize rNext s = s2 at y k1 hs2
    subst hS
    repeat' (first
      | apply w_seq
      | apply w_region
      | apply o_end
      | apply t_normal
      | (apply o_val; exact kc0; exact kc2)
      | (apply o_beside fine; exact kc0; exact kc1; exact n0; rfl; rfl; exact kd4; exact kd3)
      | (apply o_beside fine; exact kc0; exact kc1; exact n1; rfl; rfl; exact kd4; exact kd3)
      | (apply o_beside fine; exact kc0; exact kc1; exact n2; rfl; rfl; exact kd4; exact kd3)
      | (apply o_beside fine; exact kc0; exact kc1; exact n3; rfl; rfl; exact kd4; exact kd3)
      | (apply o_beside fine; exact kc0; exact kc1; exact n4; rfl; rfl; exact kd4; exact kd3)
      | (apply o_beside fine; exact kc0; exact kc1; exact n5; rfl; rfl; exact kd4; exact kd3)
      | (apply o_beside fine; exact kc0; exact kc1; exact n6; rfl; rfl; exact kd4; exact kd3)
      | (apply o_beside fine; exact kc0; exact kc1; exact n7; rfl; rfl; exact kd4; exact kd3)
      | (apply o_beside fine; exact kc0; exact kc1; exact n8; rfl; rfl; exact kd4; exact kd3)
      | (apply o_beside fine; exact kc0; exact kc1; exact n9; rfl; rfl; exact kd4; exact kd3)
      | (apply o_beside fine; exact kc0; exact kc1; exact n10; rfl; rfl; exact kd4; exact kd3)
      | (apply o_beside fine; exact kc0; exact kc1; exact n11; rfl; rfl; exact kd4; exact kd3)
      | (apply o_beside fine; exact kc0; exact kc1; exact n12; rfl; rfl; exact kd4; exact kd3)
      | (apply o_beside fine; exact kc0; exact kc1; exact y; rfl; rfl; exact kd4; exact kd3)
      | (apply o_beside fine; exact kc0; exact kc1; exact k1; rfl; rfl; exact kd4; exact kd3)
      | (apply o_mem; exact kc0; rfl; exact kc1)
      | apply w_skip
      | apply w_block
      | apply b_normal
      | apply w_ret
      | (apply w_true; exact kc3)
      | (apply w_false; exact kc3)
      | (apply w_drawA; rfl; exact ke3; exact kc4; exact kc4)
      | (apply a_end; exact kc4)
      | (apply a_val; exact kc4; exact kc5; exact kd9; exact kc6)
      | (apply a_tie; exact kc4; exact kc5; exact ke0; exact kc7; exact kc6; exact kc4)
      | (apply a_mem; exact kc4; exact kc5; exact ke1; exact kd8; exact kc7; exact kc6; exact kc4)
      | (apply a_memG; exact kc4; exact kc5; exact ke1; exact kd8; exact kc7; exact kc8; exact kc6; exact kc4)
      | fail)
    apply g_ret
    · simp [*]; rfl
    · rfl
    · exact Snap.flat (by simp [zeroTok])
  have n13 := rtake_no (m := m) hs i13
  simp only [Bool.false_eq_true, if_false]
  clear i13
  cases i14 : rIs [109, 101, 116, 104, 111, 100, 115] s
  case true =>
    have y := rtake_yes (m := m) hs i14
    have k1 := rkind_ok (m := m) 3 (rNext s) hs2
    simp only [if_true, rArg]
    generalize rKind 3 (rNext s) = y2 at k1 ⊢
    obtain ⟨⟨tk, ta, tx⟩, s3⟩ := y2
    simp only at k1 ⊢
    generalize rNext s = s2 at y k1 hs2
    subst hS
    repeat' (first
      | apply w_seq
      | apply w_region
      | apply o_end
      | apply t_normal
      | (apply o_val; exact kc0; exact kc2)
      | (apply o_beside fine; exact kc0; exact kc1; exact n0; rfl; rfl; exact kd4; exact kd3)
      | (apply o_beside fine; exact kc0; exact kc1; exact n1; rfl; rfl; exact kd4; exact kd3)
      | (apply o_beside fine; exact kc0; exact kc1; exact n2; rfl; rfl; exact kd4; exact kd3)
      | (apply o_beside fine; exact kc0; exact kc1; exact n3; rfl; rfl; exact kd4; exact kd3)
      | (apply o_beside fine; exact kc0; exact kc1; exact n4; rfl; rfl; exact kd4; exact kd3)
      | (apply o_beside fine; exact kc0; exact kc1; exact n5; rfl; rfl; exact kd4; exact kd3)
      | (apply o_beside fine; exact kc0; exact kc1; exact n6; rfl; rfl; exact kd4; exact kd3)
      | (apply o_beside fine; exact kc0; exact kc1; exact n7; rfl; rfl; exact kd4; exact kd3)
      | (apply o_beside fine; exact kc0; exact kc1; exact n8; rfl; rfl; exact kd4; exact kd3)
      | (apply o_beside fine; exact kc0; exact kc1; exact n9; rfl; rfl; exact kd4; exact kd3)
      | (apply o_beside fine; exact kc0; exact kc1; exact n10; rfl; rfl; exact kd4; exact kd3)
      | (apply o_beside fine; exact kc0; exact kc1; exact n11; rfl; rfl; exact kd4; exact kd3)
      | (apply o_beside fine; exact kc0; exact kc1; exact n12; rfl; rfl; exact kd4; exact kd3)
      | (apply o_beside fine; exact kc0; exact kc1; exact n13; rfl; rfl; exact kd4; exact kd3)
      | (apply o_beside fine; exact kc0; exact kc1; exact y; rfl; rfl; exact kd4; exact kd3)
      | (apply o_beside fine; exact kc0; exact kc1; exact k1; rfl; rfl; exact kd4; exact kd3)
      | (apply o_mem; exact kc0; rfl; exact kc1)
      | apply w_skip
      | apply w_block
      | apply b_normal
      | apply w_ret
      | (apply w_true; exact kc3)
      | (apply w_false; exact kc3)
      | (apply w_drawA; rfl; exact ke3; exact kc4; exact kc4)
      | (apply a_end; exact kc4)
      | (apply a_val; exact kc4; exact kc5; exact kd9; exact kc6)
      | (apply a_tie; exact kc4; exact kc5; exact ke0; exact kc7; exact kc6; exact kc4)
      | (apply a_mem; exact kc4; exact kc5; exact ke1; exact kd8; exact kc7; exact kc6; exact kc4)
      | (apply a_memG; exact kc4; exact kc5; exact ke1; exact kd8; exact kc7; exact kc8; exact kc6; exact kc4)
      | fail)
    apply g_ret
    · simp [*]; rfl
    · rfl
    · exact Snap.flat (by simp [zeroTok])
  have n14 := rtake_no (m := m) hs i14
  simp only [Bool.false_eq_true, if_false]
  clear i14
  cases i15 : rIs [99, 115, 112] s
  case true =>
    have y := rtake_yes (m := m) hs i15
    have k1 := rkind_ok (m := m) 3 (rNext s) hs2
    simp only [if_true, rArg]
    generalize rKind 3 (rNext s) = y2 at k1 ⊢
    obtain ⟨⟨tk, ta, tx⟩, s3⟩ := y2
    simp only at k1 ⊢
    generalize rNext s = s2 at y k1 hs2
    subst hS
    repeat' (first
      | apply w_seq
      | apply w_region
      | apply o_end
      | apply t_normal
      | (apply o_val; exact kc0; exact kc2)
      | (apply o_beside fine; exact kc0; exact kc1; exact n0; rfl; rfl; exact kd4; exact kd3)
      | (apply o_beside fine; exact kc0; exact kc1; exact n1; rfl; rfl; exact kd4; exact kd3)
      | (apply o_beside fine; exact kc0; exact kc1; exact n2; rfl; rfl; exact kd4; exact kd3)
      | (apply o_beside fine; exact kc0; exact kc1; exact n3; rfl; rfl; exact kd4; exact kd3)
      | (apply o_beside fine; exact kc0; exact kc1; exact n4; rfl; rfl; exact kd4; exact kd3)
      | (apply o_beside fine; exact kc0; exact kc1; exact n5; rfl; rfl; exact kd4; exact kd3)
      | (apply o_beside fine; exact kc0; exact kc1; exact n6; rfl; rfl; exact kd4; exact kd3)
      | (apply o_beside fine; exact kc0; exact kc1; exact n7; rfl; rfl; exact kd4; exact kd3)
      | (apply o_beside fine; exact kc0; exact kc1; exact n8; rfl; rfl; exact kd4; exact kd3)
      | (apply o_beside fine; exact kc0; exact kc1; exact n9; rfl; rfl; exact kd4; exact kd3)
      | (apply o_beside fine; exact kc0; exact kc1; exact n10; rfl; rfl; exact kd4; exact kd3)
      | (apply o_beside fine; exact kc0; exact kc1; exact n11; rfl; rfl; exact kd4; exact kd3)
      | (apply o_beside fine; exact kc0; exact kc1; exact n12; rfl; rfl; exact kd4; exact kd3)
      | (apply o_beside fine; exact kc0; exact kc1; exact n13; rfl; rfl; exact kd4; exact kd3)
      | (apply o_beside fine; exact kc0; exact kc1; exact n14; rfl; rfl; exact kd4; exact kd3)
      | (apply o_beside fine; exact kc0; exact kc1; exact y; rfl; rfl; exact kd4; exact kd3)
      | (apply o_beside fine; exact kc0; exact kc1; exact k1; rfl; rfl; exact kd4; exact kd3)
      | (apply o_mem; exact kc0; rfl; exact kc1)
      | apply w_skip
      | apply w_block
      | apply b_normal
      | apply w_ret
      | (apply w_true; exact kc3)
      | (apply w_false; exact kc3)
      | (apply w_drawA; rfl; exact ke3; exact kc4; exact kc4)
      | (apply a_end; exact kc4)
      | (apply a_val; exact kc4; exact kc5; exact kd9; exact kc6)
      | (apply a_tie; exact kc4; exact kc5; exact ke0; exact kc7; exact kc6; exact kc4)
      | (apply a_mem; exact kc4; exact kc5; exact ke1; exact kd8; exact kc7; exact kc6; exact kc4)
      | (apply a_memG; exact kc4; exact kc5; exact ke1; exact kd8; exact kc7; exact kc8; exact kc6; exact kc4)
      | fail)
    apply g_ret
    · simp [*]; rfl
    · rfl
    · exact Snap.flat (by simp [zeroTok])
  have n15 := rtake_no (m := m) hs i15
  simp only [Bool.false_eq_true, if_false]
  clear i15
  have y := rfail_ok (m := m) s hs
  generalize rFail s = s2 at y ⊢
  subst hS
  repeat' (first
    | apply w_seq
    | apply w_region
    | apply o_end
    | apply t_normal
    | (apply o_val; exact kc0; exact kc2)
    | (apply o_beside fine; exact kc0; exact kc1; exact n0; rfl; rfl; exact kd4; exact kd3)
    | (apply o_beside fine; exact kc0; exact kc1; exact n1; rfl; rfl; exact kd4; exact kd3)
    | (apply o_beside fine; exact kc0; exact kc1; exact n2; rfl; rfl; exact kd4; exact kd3)
    | (apply o_beside fine; exact kc0; exact kc1; exact n3; rfl; rfl; exact kd4; exact kd3)
    | (apply o_beside fine; exact kc0; exact kc1; exact n4; rfl; rfl; exact kd4; exact kd3)
    | (apply o_beside fine; exact kc0; exact kc1; exact n5; rfl; rfl; exact kd4; exact kd3)
    | (apply o_beside fine; exact kc0; exact kc1; exact n6; rfl; rfl; exact kd4; exact kd3)
    | (apply o_beside fine; exact kc0; exact kc1; exact n7; rfl; rfl; exact kd4; exact kd3)
    | (apply o_beside fine; exact kc0; exact kc1; exact n8; rfl; rfl; exact kd4; exact kd3)
    | (apply o_beside fine; exact kc0; exact kc1; exact n9; rfl; rfl; exact kd4; exact kd3)
    | (apply o_beside fine; exact kc0; exact kc1; exact n10; rfl; rfl; exact kd4; exact kd3)
    | (apply o_beside fine; exact kc0; exact kc1; exact n11; rfl; rfl; exact kd4; exact kd3)
    | (apply o_beside fine; exact kc0; exact kc1; exact n12; rfl; rfl; exact kd4; exact kd3)
    | (apply o_beside fine; exact kc0; exact kc1; exact n13; rfl; rfl; exact kd4; exact kd3)
    | (apply o_beside fine; exact kc0; exact kc1; exact n14; rfl; rfl; exact kd4; exact kd3)
    | (apply o_beside fine; exact kc0; exact kc1; exact n15; rfl; rfl; exact kd4; exact kd3)
    | (apply o_beside fine; exact kc0; exact kc1; exact y; rfl; rfl; exact kd4; exact kd3)
    | (apply o_mem; exact kc0; rfl; exact kc1)
    | apply w_skip
    | apply w_block
    | apply b_normal
    | apply w_ret
    | (apply w_false; exact kc3)
    | (apply w_drawA; rfl; exact ke3; exact kc4; exact kc4)
    | (apply a_end; exact kc4)
    | (apply a_val; exact kc4; exact kc5; exact kd9; exact kc6)
    | (apply a_tie; exact kc4; exact kc5; exact ke0; exact kc7; exact kc6; exact kc4)
    | (apply a_mem; exact kc4; exact kc5; exact ke1; exact kd8; exact kc7; exact kc6; exact kc4)
    | (apply a_memG; exact kc4; exact kc5; exact ke1; exact kd8; exact kc7; exact kc8; exact kc6; exact kc4)
    | fail)
  apply g_ret
  · simp [*]; rfl
  · rfl
  · exact Snap.flat (by simp [zeroTok])
end Go.Proofs.Ytknkkfdkcemolaa.Vm
end
section
/- The document's reader of descriptions: any attribute. -/
set_option linter.unusedSimpArgs false
set_option linter.unusedVariables false
set_option maxRecDepth 100000
set_option maxHeartbeats 4000000
namespace Go.Proofs.Ytknkkfdkcemolaa.Vm
open Go
variable {m : Int}
attribute [local irreducible] wpD opsD thenD blockD planD planA LoopD
attribute [local simp] List.take_of_length_le List.drop_of_length_le bne mvD

theorem rattr_ok (s : PS) (hs : Few s) : CallsV (L m) 42 [pR] (pH s) (Turns (.agg (raC (rAttr s).1)) (pH (rAttr s).2)) := by
  obtain ⟨pre, r, b⟩ := s
  cases r with
  | cons t r => exact attrK_ok pre t r b hs
  | nil =>
    refine gives_of_body L_ok (by rfl) (pH_under _) (fn := Try.f42) rfl rfl rfl rfl (by kernel_rfl) ?_
    have y := rfail_ok (m := m) (pre, [], b) hs
    simp only [rAttr, pH, List.append_nil] at y ⊢
    generalize rFail (pre, [], b) = s2 at y ⊢
    repeat' (first
      | apply w_seq
      | apply w_region
      | apply o_end
      | apply t_normal
      | (apply o_val; exact kc0; exact kc2)
      | (apply o_beside fine; exact kc0; exact kc1; exact y; rfl; rfl; exact kd4; exact kd3)
      | (apply o_mem; exact kc0; rfl; exact kc1)
      | apply w_ret
      | apply t_ret
      | (apply w_true; exact kc3)
      | (apply w_drawA; rfl; exact ke3; exact kc4; exact kc4)
      | (apply a_end; exact kc4)
      | (apply a_val; exact kc4; exact kc5; exact kd9; exact kc6)
      | (apply a_tie; exact kc4; exact kc5; exact ke0; exact kc7; exact kc6; exact kc4)
      | fail)
    apply g_ret
    · simp [*]; rfl
    · rfl
    · exact Snap.flat (by simp [zeroTok])
end Go.Proofs.Ytknkkfdkcemolaa.Vm
end
section
/- The document's reader of descriptions: items. -/
set_option linter.unusedSimpArgs false
set_option linter.unusedVariables false
set_option maxRecDepth 100000
set_option maxHeartbeats 4000000
namespace Go.Proofs.Ytknkkfdkcemolaa.Vm
open Go
variable {m : Int}
attribute [local irreducible] wpD opsD thenD blockD planD planA LoopD
attribute [local simp] List.take_of_length_le List.drop_of_length_le bne mvD

structure RI where
  k : List UInt8
  at_ : Nat
  name : Tok := zeroTok
  whr : Tok := zeroTok
  caps : Tok := zeroTok
  txt : Tok := zeroTok
  al : List RA := []
  form : Option RT := none
def rasD : List RA → D
  | [] => .nilsl
  | a :: l => .isl 5 ((a :: l).map raC)
theorem rasD_some {l : List RA} (h : l ≠ []) : rasD l = .isl 5 (l.map raC) := by cases l with
  | nil => exact absurd rfl h
  | cons a l => rfl
def rfD : Option RT → D
  | none => .nilptr
  | some t => rtrD t
abbrev riC (i : RI) : List D := [.str i.k, .int .i64 i.at_] ++ encT i.name ++ encT i.whr ++ encT i.caps ++ encT i.txt ++ [rasD i.al, rfD i.form]
def rAttrs : Nat → List RA → PS → List RA × PS
  | 0, out, s => (out, s)
  | k + 1, out, s => if (s.2.2.isNone && !rIs [125] s) = true then rAttrs k (out ++ [(rAttr s).1]) (rNeed [59] (rAttr s).2) else (out, s)
def rFml (s : PS) : RT × PS := rForm (3 * s.2.1.length + 3) 2 s
def mu (s : PS) : Nat := if s.2.2.isNone then s.2.1.length + 1 else 0
def r_origin (t : Tok) (s : PS) : RI × PS := ({ k := t.text, at_ := t.at_, name := (rKind 1 s).1, txt := (rKind 3 (rKind 1 s).2).1 }, rNeed [59] (rKind 3 (rKind 1 s).2).2)
def r_cookie (t : Tok) (s : PS) : RI × PS := ({ k := t.text, at_ := t.at_, name := (rKind 1 s).1, whr := (rKind 1 (rNeed [97, 116] (rKind 1 s).2)).1, txt := (rKind 3 (rKind 1 (rNeed [97, 116] (rKind 1 s).2)).2).1 }, rNeed [59] (rKind 3 (rKind 1 (rNeed [97, 116] (rKind 1 s).2)).2).2)
def r_secret (t : Tok) (s : PS) : RI × PS := ({ k := t.text, at_ := t.at_, name := (rKind 1 s).1 }, rNeed [59] (rKind 1 s).2)
def r_network (t : Tok) (s : PS) : RI × PS := ({ k := t.text, at_ := t.at_ }, rNeed [59] s)
def r_endpoint (t : Tok) (s : PS) : RI × PS := ({ k := t.text, at_ := t.at_, name := (rKind 1 s).1, whr := (rKind 1 (rNeed [97, 116] (rKind 1 s).2)).1, caps := (rKind 5 (rKind 1 (rNeed [97, 116] (rKind 1 s).2)).2).1, txt := (rKind 3 (rKind 5 (rKind 1 (rNeed [97, 116] (rKind 1 s).2)).2).2).1, al := (rAttrs (((rNeed [123] (rKind 3 (rKind 5 (rKind 1 (rNeed [97, 116] (rKind 1 s).2)).2).2).2)).2.1.length + 2) [] (rNeed [123] (rKind 3 (rKind 5 (rKind 1 (rNeed [97, 116] (rKind 1 s).2)).2).2).2)).1 }, rNeed [125] (rAttrs (((rNeed [123] (rKind 3 (rKind 5 (rKind 1 (rNeed [97, 116] (rKind 1 s).2)).2).2).2)).2.1.length + 2) [] (rNeed [123] (rKind 3 (rKind 5 (rKind 1 (rNeed [97, 116] (rKind 1 s).2)).2).2).2)).2)
def r_property (t : Tok) (s : PS) : RI × PS := ({ k := t.text, at_ := t.at_, name := (rKind 1 s).1, form := some (rFml (rNeed [61] (rKind 1 s).2)).1 }, rNeed [59] (rFml (rNeed [61] (rKind 1 s).2)).2)
def rItemK (t : Tok) (s : PS) : RI × PS :=
  if rIs [111, 114, 105, 103, 105, 110] s = true then r_origin t (rNext s) else
  if rIs [99, 111, 111, 107, 105, 101] s = true then r_cookie t (rNext s) else
  if rIs [115, 101, 99, 114, 101, 116] s = true then r_secret t (rNext s) else
  if rIs [110, 101, 116, 119, 111, 114, 107] s = true then r_network t (rNext s) else
  if rIs [101, 110, 100, 112, 111, 105, 110, 116] s = true then r_endpoint t (rNext s) else
  if rIs [112, 114, 111, 112, 101, 114, 116, 121] s = true then r_property t (rNext s) else
  ({ k := t.text, at_ := t.at_ }, rNeed [59] (rFail s))
def rItem (s : PS) : RI × PS := match s.2.1 with
  | [] => ({ k := [], at_ := 0 }, s)
  | t :: _ => rItemK t s
@[simp] theorem flat_rasD (l : List RA) : Flat (rasD l) := by
  cases l with
  | nil => exact .nilsl
  | cons a l => simp [rasD]
@[simp] theorem flat_rfD (o : Option RT) : Flat (rfD o) := by
  cases o with
  | none => exact .nilptr
  | some t => exact rtD_flat t
@[simp] theorem oneD_rasD (H : Heap) (l : List RA) : oneD H (rasD l) = true := by cases l <;> rfl
@[simp] theorem oneD_rfD (H : Heap) (o : Option RT) : oneD H (rfD o) = true := by
  cases o with
  | none => rfl
  | some t => cases t <;> rfl
/-! ### all comes to an end -/
theorem rfail_bad (s : PS) : (rFail s).2.2.isNone = false := by
  obtain ⟨pre, r, b⟩ := s
  cases b <;> rfl
theorem rneed_mu (x : List UInt8) (s : PS) : mu (rNeed x s) ≤ mu s := by
  unfold rNeed
  split
  · rename_i h
    obtain ⟨pre, t, r, rfl, _⟩ := rIs_ex h
    simp [mu, rNext]
  · simp [mu, rfail_bad]
theorem rkind_mu (k : Nat) (s : PS) : mu (rKind k s).2 ≤ mu s := by
  obtain ⟨pre, r, b⟩ := s
  cases b with
  | some b => exact Nat.le_refl _
  | none => cases r with
    | nil => simp [mu, rKind]
    | cons t r =>
      simp only [rKind]
      split
      · simp [mu]
      · simp [mu]
theorem rnext_mu {x : List UInt8} {s : PS} (h : rIs x s = true) : mu (rNext s) < mu s := by
  obtain ⟨pre, t, r, rfl, _⟩ := rIs_ex h
  simp [mu, rNext]
theorem rarg_mu (t : Tok) (k : Nat) (s : PS) : mu (rArg t k s).2 ≤ mu s := rkind_mu k s
theorem rarg_all (t : Tok) (k : Nat) (s : PS) : allOf (rArg t k s).2 = allOf s := (rkind_all k s).1
theorem ite_both {α : Type} {p : α → Prop} {c : Prop} [Decidable c] {x y : α} (hx : c → p x) (hy : p y) : p (if c then x else y) := by
  by_cases h : c
  · rw [if_pos h]; exact hx h
  · rw [if_neg h]; exact hy
theorem rattr_mu {s : PS} (h : s.2.2.isNone = true) : mu (rAttr s).2 < mu s := by
  have hpos : 0 < mu s := by simp [mu, h]
  have hf : mu (rFail s) < mu s := by simp [mu, rfail_bad, h]
  unfold rAttr
  split
  · exact hf
  · rename_i t _ _
    show (fun x : RA × PS => mu x.2 < mu s) (rAttrK t s)
    unfold rAttrK
    repeat (refine ite_both (p := fun x : RA × PS => mu x.2 < mu s) (fun hx => ?_) ?_; first | exact rnext_mu hx | exact Nat.lt_of_le_of_lt (rarg_mu _ _ _) (rnext_mu hx) | exact ite_both (p := fun x : RA × PS => mu x.2 < mu s) (fun _ => Nat.lt_of_le_of_lt (rarg_mu _ _ _) (rnext_mu hx)) (Nat.lt_of_le_of_lt (rarg_mu _ _ _) (rnext_mu hx)))
    exact hf
theorem rattr_all (s : PS) : allOf (rAttr s).2 = allOf s := by
  have hn := (rnext_all s).1
  unfold rAttr
  split
  · exact (rfail_all s).1
  · rename_i t _ _
    show (fun x : RA × PS => allOf x.2 = allOf s) (rAttrK t s)
    unfold rAttrK
    repeat (refine ite_both (p := fun x : RA × PS => allOf x.2 = allOf s) (fun hx => ?_) ?_; first | exact hn | exact (rarg_all _ _ _).trans hn | exact ite_both (p := fun x : RA × PS => allOf x.2 = allOf s) (fun _ => (rarg_all _ _ _).trans hn) ((rarg_all _ _ _).trans hn))
    exact (rfail_all s).1
theorem rattrs_all : ∀ (k : Nat) (out : List RA) (s : PS), allOf (rAttrs k out s).2 = allOf s ∧ mu (rAttrs k out s).2 ≤ mu s := by
  intro k
  induction k with
  | zero => intro out s; exact ⟨rfl, Nat.le_refl _⟩
  | succ k ih =>
    intro out s
    rw [rAttrs]
    split
    · rename_i h
      have h0 : s.2.2.isNone = true := by
        simp only [Bool.and_eq_true] at h
        exact h.1
      have h1 := ih (out ++ [(rAttr s).1]) (rNeed [59] (rAttr s).2)
      have h2 := rattr_mu h0
      have h3 := rneed_mu [59] (rAttr s).2
      exact ⟨h1.1.trans ((rneed_all _ _).1.trans (rattr_all s)), by omega⟩
    · exact ⟨rfl, Nat.le_refl _⟩
theorem fml_ok (s : PS) (hs : Few s) : CallsV (L m) 43 [pR] (pH s) (Turns (rtrD (rFml s).1) (pH (rFml s).2)) := formula_ok s hs
theorem rfml_all (s : PS) : allOf (rFml s).2 = allOf s := (rform_all _ _ s).1
end Go.Proofs.Ytknkkfdkcemolaa.Vm
end
section
/- The document's reader of descriptions: items, walked. -/
set_option linter.unusedSimpArgs false
set_option linter.unusedVariables false
set_option maxRecDepth 100000
set_option maxHeartbeats 4000000
namespace Go.Proofs.Ytknkkfdkcemolaa.Vm
open Go
variable {m : Int}
attribute [local irreducible] wpD opsD thenD blockD planD planA LoopD
attribute [local simp] List.take_of_length_le List.drop_of_length_le bne mvD
theorem item_rorigin_ok (pre : List Tok) (t : Tok) (r : List Tok) (bb : Option Int) (hs : Few (pre, t :: r, bb)) (hi : rIs [111, 114, 105, 103, 105, 110] (pre, t :: r, bb) = true) : CallsV (L m) 26 [pR] (pH (pre, t :: r, bb)) (Turns (.agg (riC (r_origin t (rNext (pre, t :: r, bb))).1)) (pH (r_origin t (rNext (pre, t :: r, bb))).2)) := by
  refine gives_of_body L_ok (by rfl) (pH_under _) (fn := Try.f26) rfl rfl rfl rfl (by kernel_rfl) ?_
  obtain ⟨hc, hc2, hg1, hg2⟩ := at_facts pre t r
  generalize hS : ((pre, t :: r, bb) : PS) = s at *
  have y := rtake_yes (m := m) hs hi
  have hs0 := few_of hs (rnext_all s).1
  clear hi
  unfold r_origin
  generalize rNext s = s0 at y hs0 ⊢
  have c0 := rkind_ok (m := m) 1 s0 hs0
  have hs1 := few_of hs0 (rkind_all 1 s0).1
  generalize rKind 1 s0 = y0 at c0 hs1 ⊢
  obtain ⟨⟨k0, a0, x0⟩, s1⟩ := y0
  simp only at c0 hs1 ⊢
  have c1 := rkind_ok (m := m) 3 s1 hs1
  have hs2 := few_of hs1 (rkind_all 3 s1).1
  generalize rKind 3 s1 = y1 at c1 hs2 ⊢
  obtain ⟨⟨k1, a1, x1⟩, s2⟩ := y1
  simp only at c1 hs2 ⊢
  have c2 := rneed_ok (m := m) [59] s2 hs2
  have hs3 := few_of hs2 (rneed_all [59] s2).1
  generalize rNeed [59] s2 = s3 at c2 hs3 ⊢
  subst hS
  repeat' (first
    | apply w_seq
    | apply w_region
    | apply o_end
    | apply t_normal
    | (apply o_val; exact kc0; exact kc2)
    | (apply o_beside fine; exact kc0; exact kc1; exact y; rfl; rfl; exact kd5; exact kd3)
    | (apply o_beside fine; exact kc0; exact kc1; exact c0; rfl; rfl; exact kd5; exact kd3)
    | (apply o_beside fine; exact kc0; exact kc1; exact c1; rfl; rfl; exact kd5; exact kd3)
    | (apply o_beside fine; exact kc0; exact kc1; exact c2; rfl; rfl; exact kd5; exact kd3)
    | (apply o_mem; exact kc0; rfl; exact kc1)
    | apply w_block
    | apply b_normal
    | apply w_ret
    | (apply w_true; exact kc3)
    | (apply w_drawA; rfl; exact ke3; exact kc4; exact kc4)
    | (apply a_end; exact kc4)
    | (apply a_val; exact kc4; exact kc5; exact kd9; exact kc6)
    | (apply a_tie; exact kc4; exact kc5; exact ke0; exact kc7; exact kc6; exact kc4)
    | (apply a_mem; exact kc4; exact kc5; exact ke1; exact kd8; exact kc7; exact kc6; exact kc4)
    | (apply a_memG; exact kc4; exact kc5; exact ke1; exact kd8; exact kc7; exact kc8; exact kc6; exact kc4)
    | fail)
  apply g_ret
  · simp [*]; rfl
  · rfl
  · exact Snap.flat (by simp [zeroTok, rasD, rfD, *])
theorem item_rcookie_ok (pre : List Tok) (t : Tok) (r : List Tok) (bb : Option Int) (hs : Few (pre, t :: r, bb)) (i0 : rIs [111, 114, 105, 103, 105, 110] (pre, t :: r, bb) = false) (hi : rIs [99, 111, 111, 107, 105, 101] (pre, t :: r, bb) = true) : CallsV (L m) 26 [pR] (pH (pre, t :: r, bb)) (Turns (.agg (riC (r_cookie t (rNext (pre, t :: r, bb))).1)) (pH (r_cookie t (rNext (pre, t :: r, bb))).2)) := by
  refine gives_of_body L_ok (by rfl) (pH_under _) (fn := Try.f26) rfl rfl rfl rfl (by kernel_rfl) ?_
  obtain ⟨hc, hc2, hg1, hg2⟩ := at_facts pre t r
  generalize hS : ((pre, t :: r, bb) : PS) = s at *
  have y := rtake_yes (m := m) hs hi
  have hs0 := few_of hs (rnext_all s).1
  have n0 := rtake_no (m := m) hs i0
  clear hi i0
  unfold r_cookie
  generalize rNext s = s0 at y hs0 ⊢
  have c0 := rkind_ok (m := m) 1 s0 hs0
  have hs1 := few_of hs0 (rkind_all 1 s0).1
  generalize rKind 1 s0 = y0 at c0 hs1 ⊢
  obtain ⟨⟨k0, a0, x0⟩, s1⟩ := y0
  simp only at c0 hs1 ⊢
  have c1 := rneed_ok (m := m) [97, 116] s1 hs1
  have hs2 := few_of hs1 (rneed_all [97, 116] s1).1
  generalize rNeed [97, 116] s1 = s2 at c1 hs2 ⊢
  have c2 := rkind_ok (m := m) 1 s2 hs2
  have hs3 := few_of hs2 (rkind_all 1 s2).1
  generalize rKind 1 s2 = y2 at c2 hs3 ⊢
  obtain ⟨⟨k2, a2, x2⟩, s3⟩ := y2
  simp only at c2 hs3 ⊢
  have c3 := rkind_ok (m := m) 3 s3 hs3
  have hs4 := few_of hs3 (rkind_all 3 s3).1
  generalize rKind 3 s3 = y3 at c3 hs4 ⊢
  obtain ⟨⟨k3, a3, x3⟩, s4⟩ := y3
  simp only at c3 hs4 ⊢
  have c4 := rneed_ok (m := m) [59] s4 hs4
  have hs5 := few_of hs4 (rneed_all [59] s4).1
  generalize rNeed [59] s4 = s5 at c4 hs5 ⊢
  subst hS
  repeat' (first
    | apply w_seq
    | apply w_region
    | apply o_end
    | apply t_normal
    | (apply o_val; exact kc0; exact kc2)
    | (apply o_beside fine; exact kc0; exact kc1; exact n0; rfl; rfl; exact kd5; exact kd3)
    | (apply o_beside fine; exact kc0; exact kc1; exact y; rfl; rfl; exact kd5; exact kd3)
    | (apply o_beside fine; exact kc0; exact kc1; exact c0; rfl; rfl; exact kd5; exact kd3)
    | (apply o_beside fine; exact kc0; exact kc1; exact c1; rfl; rfl; exact kd5; exact kd3)
    | (apply o_beside fine; exact kc0; exact kc1; exact c2; rfl; rfl; exact kd5; exact kd3)
    | (apply o_beside fine; exact kc0; exact kc1; exact c3; rfl; rfl; exact kd5; exact kd3)
    | (apply o_beside fine; exact kc0; exact kc1; exact c4; rfl; rfl; exact kd5; exact kd3)
    | (apply o_mem; exact kc0; rfl; exact kc1)
    | apply w_block
    | apply b_normal
    | apply w_ret
    | (apply w_true; exact kc3)
    | (apply w_false; exact kc3)
    | (apply w_drawA; rfl; exact ke3; exact kc4; exact kc4)
    | (apply a_end; exact kc4)
    | (apply a_val; exact kc4; exact kc5; exact kd9; exact kc6)
    | (apply a_tie; exact kc4; exact kc5; exact ke0; exact kc7; exact kc6; exact kc4)
    | (apply a_mem; exact kc4; exact kc5; exact ke1; exact kd8; exact kc7; exact kc6; exact kc4)
    | (apply a_memG; exact kc4; exact kc5; exact ke1; exact kd8; exact kc7; exact kc8; exact kc6; exact kc4)
    | fail)
  apply g_ret
  · simp [*]; rfl
  · rfl
  · exact Snap.flat (by simp [zeroTok, rasD, rfD, *])
theorem item_rsecret_ok (pre : List Tok) (t : Tok) (r : List Tok) (bb : Option Int) (hs : Few (pre, t :: r, bb)) (i0 : rIs [111, 114, 105, 103, 105, 110] (pre, t :: r, bb) = false) (i1 : rIs [99, 111, 111, 107, 105, 101] (pre, t :: r, bb) = false) (hi : rIs [115, 101, 99, 114, 101, 116] (pre, t :: r, bb) = true) : CallsV (L m) 26 [pR] (pH (pre, t :: r, bb)) (Turns (.agg (riC (r_secret t (rNext (pre, t :: r, bb))).1)) (pH (r_secret t (rNext (pre, t :: r, bb))).2)) := by
  refine gives_of_body L_ok (by rfl) (pH_under _) (fn := Try.f26) rfl rfl rfl rfl (by kernel_rfl) ?_
  obtain ⟨hc, hc2, hg1, hg2⟩ := at_facts pre t r
  generalize hS : ((pre, t :: r, bb) : PS) = s at *
  have y := rtake_yes (m := m) hs hi
  have hs0 := few_of hs (rnext_all s).1
  have n0 := rtake_no (m := m) hs i0
  have n1 := rtake_no (m := m) hs i1
  clear hi i0 i1
  unfold r_secret
  generalize rNext s = s0 at y hs0 ⊢
  have c0 := rkind_ok (m := m) 1 s0 hs0
  have hs1 := few_of hs0 (rkind_all 1 s0).1
  generalize rKind 1 s0 = y0 at c0 hs1 ⊢
  obtain ⟨⟨k0, a0, x0⟩, s1⟩ := y0
  simp only at c0 hs1 ⊢
  have c1 := rneed_ok (m := m) [59] s1 hs1
  have hs2 := few_of hs1 (rneed_all [59] s1).1
  generalize rNeed [59] s1 = s2 at c1 hs2 ⊢
  subst hS
  repeat' (first
    | apply w_seq
    | apply w_region
    | apply o_end
    | apply t_normal
    | (apply o_val; exact kc0; exact kc2)
    | (apply o_beside fine; exact kc0; exact kc1; exact n0; rfl; rfl; exact kd5; exact kd3)
    | (apply o_beside fine; exact kc0; exact kc1; exact n1; rfl; rfl; exact kd5; exact kd3)
    | (apply o_beside fine; exact kc0; exact kc1; exact y; rfl; rfl; exact kd5; exact kd3)
    | (apply o_beside fine; exact kc0; exact kc1; exact c0; rfl; rfl; exact kd5; exact kd3)
    | (apply o_beside fine; exact kc0; exact kc1; exact c1; rfl; rfl; exact kd5; exact kd3)
    | (apply o_mem; exact kc0; rfl; exact kc1)
    | apply w_block
    | apply b_normal
    | apply w_ret
    | (apply w_true; exact kc3)
    | (apply w_false; exact kc3)
    | (apply w_drawA; rfl; exact ke3; exact kc4; exact kc4)
    | (apply a_end; exact kc4)
    | (apply a_val; exact kc4; exact kc5; exact kd9; exact kc6)
    | (apply a_tie; exact kc4; exact kc5; exact ke0; exact kc7; exact kc6; exact kc4)
    | (apply a_mem; exact kc4; exact kc5; exact ke1; exact kd8; exact kc7; exact kc6; exact kc4)
    | (apply a_memG; exact kc4; exact kc5; exact ke1; exact kd8; exact kc7; exact kc8; exact kc6; exact kc4)
    | fail)
  apply g_ret
  · simp [*]; rfl
  · rfl
  · exact Snap.flat (by simp [zeroTok, rasD, rfD, *])
theorem item_rnetwork_ok (pre : List Tok) (t : Tok) (r : List Tok) (bb : Option Int) (hs : Few (pre, t :: r, bb)) (i0 : rIs [111, 114, 105, 103, 105, 110] (pre, t :: r, bb) = false) (i1 : rIs [99, 111, 111, 107, 105, 101] (pre, t :: r, bb) = false) (i2 : rIs [115, 101, 99, 114, 101, 116] (pre, t :: r, bb) = false) (hi : rIs [110, 101, 116, 119, 111, 114, 107] (pre, t :: r, bb) = true) : CallsV (L m) 26 [pR] (pH (pre, t :: r, bb)) (Turns (.agg (riC (r_network t (rNext (pre, t :: r, bb))).1)) (pH (r_network t (rNext (pre, t :: r, bb))).2)) := by
  refine gives_of_body L_ok (by rfl) (pH_under _) (fn := Try.f26) rfl rfl rfl rfl (by kernel_rfl) ?_
  obtain ⟨hc, hc2, hg1, hg2⟩ := at_facts pre t r
  generalize hS : ((pre, t :: r, bb) : PS) = s at *
  have y := rtake_yes (m := m) hs hi
  have hs0 := few_of hs (rnext_all s).1
  have n0 := rtake_no (m := m) hs i0
  have n1 := rtake_no (m := m) hs i1
  have n2 := rtake_no (m := m) hs i2
  clear hi i0 i1 i2
  unfold r_network
  generalize rNext s = s0 at y hs0 ⊢
  have c0 := rneed_ok (m := m) [59] s0 hs0
  have hs1 := few_of hs0 (rneed_all [59] s0).1
  generalize rNeed [59] s0 = s1 at c0 hs1 ⊢
  subst hS
  repeat' (first
    | apply w_seq
    | apply w_region
    | apply o_end
    | apply t_normal
    | (apply o_val; exact kc0; exact kc2)
    | (apply o_beside fine; exact kc0; exact kc1; exact n0; rfl; rfl; exact kd5; exact kd3)
    | (apply o_beside fine; exact kc0; exact kc1; exact n1; rfl; rfl; exact kd5; exact kd3)
    | (apply o_beside fine; exact kc0; exact kc1; exact n2; rfl; rfl; exact kd5; exact kd3)
    | (apply o_beside fine; exact kc0; exact kc1; exact y; rfl; rfl; exact kd5; exact kd3)
    | (apply o_beside fine; exact kc0; exact kc1; exact c0; rfl; rfl; exact kd5; exact kd3)
    | (apply o_mem; exact kc0; rfl; exact kc1)
    | apply w_skip
    | apply w_block
    | apply b_normal
    | apply w_ret
    | (apply w_true; exact kc3)
    | (apply w_false; exact kc3)
    | (apply w_drawA; rfl; exact ke3; exact kc4; exact kc4)
    | (apply a_end; exact kc4)
    | (apply a_val; exact kc4; exact kc5; exact kd9; exact kc6)
    | (apply a_tie; exact kc4; exact kc5; exact ke0; exact kc7; exact kc6; exact kc4)
    | (apply a_mem; exact kc4; exact kc5; exact ke1; exact kd8; exact kc7; exact kc6; exact kc4)
    | (apply a_memG; exact kc4; exact kc5; exact ke1; exact kd8; exact kc7; exact kc8; exact kc6; exact kc4)
    | fail)
  apply g_ret
  · simp [*]; rfl
  · rfl
  · exact Snap.flat (by simp [zeroTok, rasD, rfD, *])
theorem item_rproperty_ok (pre : List Tok) (t : Tok) (r : List Tok) (bb : Option Int) (hs : Few (pre, t :: r, bb)) (i0 : rIs [111, 114, 105, 103, 105, 110] (pre, t :: r, bb) = false) (i1 : rIs [99, 111, 111, 107, 105, 101] (pre, t :: r, bb) = false) (i2 : rIs [115, 101, 99, 114, 101, 116] (pre, t :: r, bb) = false) (i3 : rIs [110, 101, 116, 119, 111, 114, 107] (pre, t :: r, bb) = false) (i4 : rIs [101, 110, 100, 112, 111, 105, 110, 116] (pre, t :: r, bb) = false) (hi : rIs [112, 114, 111, 112, 101, 114, 116, 121] (pre, t :: r, bb) = true) : CallsV (L m) 26 [pR] (pH (pre, t :: r, bb)) (Turns (.agg (riC (r_property t (rNext (pre, t :: r, bb))).1)) (pH (r_property t (rNext (pre, t :: r, bb))).2)) := by
  refine gives_of_body L_ok (by rfl) (pH_under _) (fn := Try.f26) rfl rfl rfl rfl (by kernel_rfl) ?_
  obtain ⟨hc, hc2, hg1, hg2⟩ := at_facts pre t r
  generalize hS : ((pre, t :: r, bb) : PS) = s at *
  have y := rtake_yes (m := m) hs hi
  have hs0 := few_of hs (rnext_all s).1
  have n0 := rtake_no (m := m) hs i0
  have n1 := rtake_no (m := m) hs i1
  have n2 := rtake_no (m := m) hs i2
  have n3 := rtake_no (m := m) hs i3
  have n4 := rtake_no (m := m) hs i4
  clear hi i0 i1 i2 i3 i4
  unfold r_property
  generalize rNext s = s0 at y hs0 ⊢
  have c0 := rkind_ok (m := m) 1 s0 hs0
  have hs1 := few_of hs0 (rkind_all 1 s0).1
  generalize rKind 1 s0 = y0 at c0 hs1 ⊢
  obtain ⟨⟨k0, a0, x0⟩, s1⟩ := y0
  simp only at c0 hs1 ⊢
  have c1 := rneed_ok (m := m) [61] s1 hs1
  have hs2 := few_of hs1 (rneed_all [61] s1).1
  generalize rNeed [61] s1 = s2 at c1 hs2 ⊢
  have c2 := fml_ok (m := m) s2 hs2
  have hs3 := few_of hs2 (rfml_all s2)
  generalize rFml s2 = y2 at c2 hs3 ⊢
  obtain ⟨q2, s3⟩ := y2
  simp only at c2 hs3 ⊢
  obtain ⟨cs, hcs⟩ := isRT_ex q2
  have hf := rtD_flat q2
  simp only [riC, rfD]
  rw [show rtrD q2 = .box cs from hcs] at c2 hf ⊢
  have c3 := rneed_ok (m := m) [59] s3 hs3
  have hs4 := few_of hs3 (rneed_all [59] s3).1
  generalize rNeed [59] s3 = s4 at c3 hs4 ⊢
  subst hS
  repeat' (first
    | apply w_seq
    | apply w_region
    | apply o_end
    | apply t_normal
    | (apply o_val; exact kc0; exact kc2)
    | (apply o_beside fine; exact kc0; exact kc1; exact n0; rfl; rfl; exact kd5; exact kd3)
    | (apply o_beside fine; exact kc0; exact kc1; exact n1; rfl; rfl; exact kd5; exact kd3)
    | (apply o_beside fine; exact kc0; exact kc1; exact n2; rfl; rfl; exact kd5; exact kd3)
    | (apply o_beside fine; exact kc0; exact kc1; exact n3; rfl; rfl; exact kd5; exact kd3)
    | (apply o_beside fine; exact kc0; exact kc1; exact n4; rfl; rfl; exact kd5; exact kd3)
    | (apply o_beside fine; exact kc0; exact kc1; exact y; rfl; rfl; exact kd5; exact kd3)
    | (apply o_beside fine; exact kc0; exact kc1; exact c0; rfl; rfl; exact kd5; exact kd3)
    | (apply o_beside fine; exact kc0; exact kc1; exact c1; rfl; rfl; exact kd5; exact kd3)
    | (apply o_beside fine; exact kc0; exact kc1; exact c2; rfl; rfl; exact kd5; exact kd3)
    | (apply o_beside fine; exact kc0; exact kc1; exact c3; rfl; rfl; exact kd5; exact kd3)
    | (apply o_mem; exact kc0; rfl; exact kc1)
    | apply w_block
    | apply b_normal
    | apply w_ret
    | (apply w_true; exact kc3)
    | (apply w_false; exact kc3)
    | (apply w_drawA; rfl; exact ke3; exact kc4; exact kc4)
    | (apply a_end; exact kc4)
    | (apply a_val; exact kc4; exact kc5; exact kd9; exact kc6)
    | (apply a_tie; exact kc4; exact kc5; exact ke0; exact kc7; exact kc6; exact kc4)
    | (apply a_mem; exact kc4; exact kc5; exact ke1; exact kd8; exact kc7; exact kc6; exact kc4)
    | (apply a_memG; exact kc4; exact kc5; exact ke1; exact kd8; exact kc7; exact kc8; exact kc6; exact kc4)
    | fail)
  apply g_ret
  · simp [*]; rfl
  · rfl
  · exact Snap.flat (by simp [zeroTok, rasD, rfD, *])
theorem item_none_ok (pre : List Tok) (t : Tok) (r : List Tok) (bb : Option Int) (hs : Few (pre, t :: r, bb)) (i0 : rIs [111, 114, 105, 103, 105, 110] (pre, t :: r, bb) = false) (i1 : rIs [99, 111, 111, 107, 105, 101] (pre, t :: r, bb) = false) (i2 : rIs [115, 101, 99, 114, 101, 116] (pre, t :: r, bb) = false) (i3 : rIs [110, 101, 116, 119, 111, 114, 107] (pre, t :: r, bb) = false) (i4 : rIs [101, 110, 100, 112, 111, 105, 110, 116] (pre, t :: r, bb) = false) (i5 : rIs [112, 114, 111, 112, 101, 114, 116, 121] (pre, t :: r, bb) = false) : CallsV (L m) 26 [pR] (pH (pre, t :: r, bb)) (Turns (.agg (riC { k := t.text, at_ := t.at_ })) (pH (rNeed [59] (rFail (pre, t :: r, bb))))) := by
  refine gives_of_body L_ok (by rfl) (pH_under _) (fn := Try.f26) rfl rfl rfl rfl (by kernel_rfl) ?_
  obtain ⟨hc, hc2, hg1, hg2⟩ := at_facts pre t r
  generalize hS : ((pre, t :: r, bb) : PS) = s at *
  have n0 := rtake_no (m := m) hs i0
  have n1 := rtake_no (m := m) hs i1
  have n2 := rtake_no (m := m) hs i2
  have n3 := rtake_no (m := m) hs i3
  have n4 := rtake_no (m := m) hs i4
  have n5 := rtake_no (m := m) hs i5
  have y := rfail_ok (m := m) s hs
  have hs0 := few_of hs (rfail_all s).1
  generalize rFail s = s0 at y hs0 ⊢
  have z := rneed_ok (m := m) [59] s0 hs0
  generalize rNeed [59] s0 = s1 at z ⊢
  clear i0 i1 i2 i3 i4 i5
  subst hS
  repeat' (first
    | apply w_seq
    | apply w_region
    | apply o_end
    | apply t_normal
    | (apply o_val; exact kc0; exact kc2)
    | (apply o_beside fine; exact kc0; exact kc1; exact n0; rfl; rfl; exact kd5; exact kd3)
    | (apply o_beside fine; exact kc0; exact kc1; exact n1; rfl; rfl; exact kd5; exact kd3)
    | (apply o_beside fine; exact kc0; exact kc1; exact n2; rfl; rfl; exact kd5; exact kd3)
    | (apply o_beside fine; exact kc0; exact kc1; exact n3; rfl; rfl; exact kd5; exact kd3)
    | (apply o_beside fine; exact kc0; exact kc1; exact n4; rfl; rfl; exact kd5; exact kd3)
    | (apply o_beside fine; exact kc0; exact kc1; exact n5; rfl; rfl; exact kd5; exact kd3)
    | (apply o_beside fine; exact kc0; exact kc1; exact y; rfl; rfl; exact kd5; exact kd3)
    | (apply o_beside fine; exact kc0; exact kc1; exact z; rfl; rfl; exact kd5; exact kd3)
    | (apply o_mem; exact kc0; rfl; exact kc1)
    | apply w_block
    | apply b_normal
    | apply w_ret
    | (apply w_false; exact kc3)
    | (apply w_drawA; rfl; exact ke3; exact kc4; exact kc4)
    | (apply a_end; exact kc4)
    | (apply a_val; exact kc4; exact kc5; exact kd9; exact kc6)
    | (apply a_tie; exact kc4; exact kc5; exact ke0; exact kc7; exact kc6; exact kc4)
    | (apply a_mem; exact kc4; exact kc5; exact ke1; exact kd8; exact kc7; exact kc6; exact kc4)
    | (apply a_memG; exact kc4; exact kc5; exact ke1; exact kd8; exact kc7; exact kc8; exact kc6; exact kc4)
    | fail)
  apply g_ret
  · simp [*]; rfl
  · rfl
  · exact Snap.flat (by simp [zeroTok, rasD, rfD, *])
end Go.Proofs.Ytknkkfdkcemolaa.Vm
end
section
/- The document's reader of descriptions: endpoints, walked. -/
set_option linter.unusedSimpArgs false
set_option linter.unusedVariables false
set_option maxRecDepth 100000
set_option maxHeartbeats 4000000
namespace Go.Proofs.Ytknkkfdkcemolaa.Vm
open Go
variable {m : Int}
attribute [local irreducible] wpD opsD thenD blockD planD planA LoopD
attribute [local simp] List.take_of_length_le List.drop_of_length_le bne mvD

theorem snap_rest {S : Nat → Prop} {H : Heap} {l : List D} {out : List RA} {g : Nat} (hl : ∀ d, d ∈ l → Flat d) (hS : S 3) (hH : H[3]? = some (.cells g 5 false (out.map raC))) :
    Snap S H (.agg (l ++ [.slice 3 0 out.length g, .nilptr])) (.agg (l ++ [.isl 5 (out.map raC), .nilptr])) := by
  refine snap_tail hl (Snap.slice_flat hS hH (by simp) (by simp) ?_) .nilptr
  intro y hy d hd
  obtain ⟨z, _, rfl⟩ := List.mem_map.1 hy
  revert hd
  revert d
  simp
theorem mu_pos {s : PS} (h : s.2.2.isNone = true) : 0 < mu s := by simp [mu, h]
theorem mu_le (s : PS) : mu s ≤ s.2.1.length + 1 := by unfold mu; split <;> omega
theorem item_rendpoint_ok (pre : List Tok) (t : Tok) (r : List Tok) (bb : Option Int) (hs : Few (pre, t :: r, bb)) (i0 : rIs [111, 114, 105, 103, 105, 110] (pre, t :: r, bb) = false) (i1 : rIs [99, 111, 111, 107, 105, 101] (pre, t :: r, bb) = false) (i2 : rIs [115, 101, 99, 114, 101, 116] (pre, t :: r, bb) = false) (i3 : rIs [110, 101, 116, 119, 111, 114, 107] (pre, t :: r, bb) = false) (hi : rIs [101, 110, 100, 112, 111, 105, 110, 116] (pre, t :: r, bb) = true) : CallsV (L m) 26 [pR] (pH (pre, t :: r, bb)) (Turns (.agg (riC (r_endpoint t (rNext (pre, t :: r, bb))).1)) (pH (r_endpoint t (rNext (pre, t :: r, bb))).2)) := by
  refine gives_of_body L_ok (by rfl) (pH_under _) (fn := Try.f26) rfl rfl rfl rfl (by kernel_rfl) ?_
  obtain ⟨hc, hc2, hg1, hg2⟩ := at_facts pre t r
  generalize hS : ((pre, t :: r, bb) : PS) = s at *
  have y := rtake_yes (m := m) hs hi
  have hs0 := few_of hs (rnext_all s).1
  have n0 := rtake_no (m := m) hs i0
  have n1 := rtake_no (m := m) hs i1
  have n2 := rtake_no (m := m) hs i2
  have n3 := rtake_no (m := m) hs i3
  clear hi i0 i1 i2 i3
  unfold r_endpoint
  generalize rNext s = s0 at y hs0 ⊢
  have c0 := rkind_ok (m := m) 1 s0 hs0
  have hs1 := few_of hs0 (rkind_all 1 s0).1
  generalize rKind 1 s0 = y0 at c0 hs1 ⊢
  obtain ⟨⟨k0, a0, x0⟩, s1⟩ := y0
  simp only at c0 hs1 ⊢
  have c1 := rneed_ok (m := m) [97, 116] s1 hs1
  have hs2 := few_of hs1 (rneed_all [97, 116] s1).1
  generalize rNeed [97, 116] s1 = s2 at c1 hs2 ⊢
  have c2 := rkind_ok (m := m) 1 s2 hs2
  have hs3 := few_of hs2 (rkind_all 1 s2).1
  generalize rKind 1 s2 = y2 at c2 hs3 ⊢
  obtain ⟨⟨k2, a2, x2⟩, s3⟩ := y2
  simp only at c2 hs3 ⊢
  have c3 := rkind_ok (m := m) 5 s3 hs3
  have hs4 := few_of hs3 (rkind_all 5 s3).1
  generalize rKind 5 s3 = y3 at c3 hs4 ⊢
  obtain ⟨⟨k3, a3, x3⟩, s4⟩ := y3
  simp only at c3 hs4 ⊢
  have c4 := rkind_ok (m := m) 3 s4 hs4
  have hs5 := few_of hs4 (rkind_all 3 s4).1
  generalize rKind 3 s4 = y4 at c4 hs5 ⊢
  obtain ⟨⟨k4, a4, x4⟩, s5⟩ := y4
  simp only at c4 hs5 ⊢
  have c5 := rneed_ok (m := m) [123] s5 hs5
  have hs6 := few_of hs5 (rneed_all [123] s5).1
  generalize rNeed [123] s5 = s6 at c5 hs6 ⊢
  subst hS
  repeat' (first
    | apply w_seq
    | apply w_region
    | apply o_end
    | apply t_normal
    | (apply o_val; exact kc0; exact kc2)
    | (apply o_beside fine; exact kc0; exact kc1; exact n0; rfl; rfl; exact kd5; exact kd3)
    | (apply o_beside fine; exact kc0; exact kc1; exact n1; rfl; rfl; exact kd5; exact kd3)
    | (apply o_beside fine; exact kc0; exact kc1; exact n2; rfl; rfl; exact kd5; exact kd3)
    | (apply o_beside fine; exact kc0; exact kc1; exact n3; rfl; rfl; exact kd5; exact kd3)
    | (apply o_beside fine; exact kc0; exact kc1; exact y; rfl; rfl; exact kd5; exact kd3)
    | (apply o_beside fine; exact kc0; exact kc1; exact c0; rfl; rfl; exact kd5; exact kd3)
    | (apply o_beside fine; exact kc0; exact kc1; exact c1; rfl; rfl; exact kd5; exact kd3)
    | (apply o_beside fine; exact kc0; exact kc1; exact c2; rfl; rfl; exact kd5; exact kd3)
    | (apply o_beside fine; exact kc0; exact kc1; exact c3; rfl; rfl; exact kd5; exact kd3)
    | (apply o_beside fine; exact kc0; exact kc1; exact c4; rfl; rfl; exact kd5; exact kd3)
    | (apply o_beside fine; exact kc0; exact kc1; exact c5; rfl; rfl; exact kd5; exact kd3)
    | (apply o_mem; exact kc0; rfl; exact kc1)
    | apply w_block
    | (apply w_true; exact kc3)
    | (apply w_false; exact kc3)
    | (apply w_drawA; rfl; exact ke3; exact kc4; exact kc4)
    | (apply a_end; exact kc4)
    | (apply a_val; exact kc4; exact kc5; exact kd9; exact kc6)
    | (apply a_tie; exact kc4; exact kc5; exact ke0; exact kc7; exact kc6; exact kc4)
    | (apply a_mem; exact kc4; exact kc5; exact ke1; exact kd8; exact kc7; exact kc6; exact kc4)
    | (apply a_memG; exact kc4; exact kc5; exact ke1; exact kd8; exact kc7; exact kc8; exact kc6; exact kc4)
    | fail)
  clear y c0 c1 c2 c3 c4 c5 n0 n1 n2 n3 hs hs0 hs1 hs2 hs3 hs4 hs5 hc hc2 hg1 hg2
  generalize hE : rAttrs (s6.2.1.length + 2) [] s6 = E
  refine w_loopT (fun n f H => ∃ (out : List RA) (s : PS) (A : D), Few s ∧ mu s < n ∧ out.length + mu s ≤ mu s6 ∧ rAttrs n out s = E ∧ f 0 = pR ∧ f 2 = .ref 1 0 0 0 ∧ f 3 = .ref 2 0 0 0 ∧
      ((out = [] ∧ A = .nilsl ∧ H = pH s ++ [.cells 0 16 false [[.str [], .int .i64 0, .int .i64 0, .int .i64 0, .str [], .int .i64 0, .int .i64 0, .str [], .int .i64 0, .int .i64 0, .str [], .int .i64 0, .int .i64 0, .str [], .nilsl, .nilptr]], .cells 0 16 false [[.str t.text, .int .i64 t.at_] ++ [.int .i64 k0, .int .i64 a0, .str x0] ++ [.int .i64 k2, .int .i64 a2, .str x2] ++ [.int .i64 k3, .int .i64 a3, .str x3] ++ [.int .i64 k4, .int .i64 a4, .str x4] ++ [A, .nilptr]]]) ∨
       (out ≠ [] ∧ ∃ g, A = .slice 3 0 out.length g ∧ H = pH s ++ [.cells 0 16 false [[.str [], .int .i64 0, .int .i64 0, .int .i64 0, .str [], .int .i64 0, .int .i64 0, .str [], .int .i64 0, .int .i64 0, .str [], .int .i64 0, .int .i64 0, .str [], .nilsl, .nilptr]], .cells 0 16 false [[.str t.text, .int .i64 t.at_] ++ [.int .i64 k0, .int .i64 a0, .str x0] ++ [.int .i64 k2, .int .i64 a2, .str x2] ++ [.int .i64 k3, .int .i64 a3, .str x3] ++ [.int .i64 k4, .int .i64 a4, .str x4] ++ [A, .nilptr]], .cells g 5 false (out.map raC)]))) (s6.2.1.length + 2) ⟨[], s6, .nilsl, hs6, by have := mu_le s6; omega, by simp, hE, by simp, by simp, by simp, .inl ⟨rfl, rfl, rfl⟩⟩ ?_
  clear hE
  have hmu6 : mu s6 ≤ 1000001 := by
    have := mu_le s6
    have h : s6.1.length + s6.2.1.length ≤ 1000000 := hs6
    omega
  rintro n f H ⟨out, s, A, hs, hlt, hol, hE, g0, g2, g3, hor⟩
  have hb1 : (out.length + 1) * 56 ≤ 140737488355328 := by omega
  have hb2 : out.length ≤ 140737488355327 := by omega
  obtain ⟨k, rfl⟩ : ∃ k, n = k + 1 := ⟨n - 1, by omega⟩
  rw [rAttrs] at hE
  have z1 := rok_ok (m := m) s
  have z2 := ris_ok (m := m) [125] s hs
  cases hn : s.2.2.isNone
  · rw [hn] at z1 hE
    simp only [Bool.false_and, Bool.false_eq_true, if_false] at hE
    have z3 := rneed_ok (m := m) [125] s hs
    subst hE
    simp only
    generalize rNeed [125] s = s7 at z3 ⊢
    rcases hor with ⟨rfl, rfl, rfl⟩ | ⟨hne, g, rfl, rfl⟩
    · skip
      repeat' (first
        | apply w_seq
        | apply w_region
        | apply o_end
        | apply t_normal
        | (apply o_val; exact kc0; exact kc2)
        | (apply o_beside fine; exact kc0; exact kc1; exact z1; rfl; rfl; exact kd5; exact kd3)
        | (apply o_beside fine; exact kc0; exact kc1; exact z3; rfl; rfl; exact kd5; exact kd3)
        | (apply o_mem; exact kc0; rfl; exact kc1)
        | apply w_ret
        | apply t_ret
        | apply b_ret
        | apply w_exit
        | apply t_exit
        | apply b_here
        | (apply w_false; exact kc3)
        | (apply o_no; exact ke7)
        | fail)
      apply g_ret
      · simp [*]; rfl
      · rfl
      · exact Snap.flat (by simp [rasD, rfD])
    · skip
      repeat' (first
        | apply w_seq
        | apply w_region
        | apply o_end
        | apply t_normal
        | (apply o_val; exact kc0; exact kc2)
        | (apply o_beside fine; exact kc0; exact kc1; exact z1; rfl; rfl; exact kd5; exact kd3)
        | (apply o_beside fine; exact kc0; exact kc1; exact z3; rfl; rfl; exact kd5; exact kd3)
        | (apply o_mem; exact kc0; rfl; exact kc1)
        | apply w_ret
        | apply t_ret
        | apply b_ret
        | apply w_exit
        | apply t_exit
        | apply b_here
        | (apply w_false; exact kc3)
        | (apply o_no; exact ke7)
        | fail)
      apply g_ret
      · simp [*]; rfl
      · rfl
      · have hAo := rasD_some hne
        simp only [riC, rfD, hAo]
        show Snap _ _ (.agg ([.str t.text, .int .i64 t.at_] ++ [.int .i64 k0, .int .i64 a0, .str x0] ++ [.int .i64 k2, .int .i64 a2, .str x2] ++ [.int .i64 k3, .int .i64 a3, .str x3] ++ [.int .i64 k4, .int .i64 a4, .str x4] ++ [.slice 3 0 out.length g, .nilptr])) (.agg ([.str t.text, .int .i64 t.at_] ++ [.int .i64 k0, .int .i64 a0, .str x0] ++ [.int .i64 k2, .int .i64 a2, .str x2] ++ [.int .i64 k3, .int .i64 a3, .str x3] ++ [.int .i64 k4, .int .i64 a4, .str x4] ++ [.isl 5 (out.map raC), .nilptr]))
        exact snap_rest (by simp) (by simp) rfl
  · rw [hn] at z1
    cases hi : rIs [125] s
    · rw [hn, hi] at hE
      rw [hi] at z2
      simp only [Bool.not_false, Bool.and_self, if_true] at hE
      have z3 := rattr_ok (m := m) s hs
      have q1 := rattr_mu hn
      have hsa := few_of hs (rattr_all s)
      generalize rAttr s = ya at z3 q1 hsa hE
      obtain ⟨⟨ak, aa, ⟨at1, at2, at3⟩⟩, sa⟩ := ya
      simp only at z3 q1 hsa hE
      have z4 := rneed_ok (m := m) [59] sa hsa
      have q2 := rneed_mu [59] sa
      have hsb := few_of hsa (rneed_all [59] sa).1
      generalize rNeed [59] sa = sb at z4 q2 hsb hE
      clear hn hi
      rcases hor with ⟨rfl, rfl, rfl⟩ | ⟨hne, g, rfl, rfl⟩
      · skip
        repeat' (first
          | apply w_seq
          | apply w_region
          | apply o_end
          | apply t_normal
          | (apply o_val; exact kc0; exact kc2)
          | (apply o_beside fine; exact kc0; exact kc1; exact z1; rfl; rfl; exact kd5; exact kd3)
          | (apply o_beside fine; exact kc0; exact kc1; exact z2; rfl; rfl; exact kd5; exact kd3)
          | (apply o_beside fine; exact kc0; exact kc1; exact z4; rfl; rfl; exact kd5; exact kd3)
          | apply w_skip
          | apply w_block
          | apply b_normal
          | (apply w_true; exact kc3)
          | (apply w_drawA; rfl; exact ke3; exact kc4; exact kc4)
          | (apply a_end; exact kc4)
          | (apply a_val; exact kc4; exact kc5; exact kd9; exact kc6)
          | (apply a_besideG fine; exact kc4; exact kc5; exact kd8; exact z3; rfl; rfl; exact kd5; exact kd3; exact kc7; exact kc8; exact kc6; exact kc4)
          | (apply a_tie; exact kc4; exact kc5; exact ke0; exact kc7; exact kc6; exact kc4)
          | (apply a_frz (op := Op.buildSlice _ _ _); exact kc4; exact kc5; exact ke1; exact ke9; exact kc6)
          | (apply a_mem; exact kc4; exact kc5; exact ke1; exact kd8; exact kc7; exact kc6; exact kc4)
          | fail)
        refine ⟨k, by omega, pH sb ++ [.cells 0 16 false [[.str [], .int .i64 0, .int .i64 0, .int .i64 0, .str [], .int .i64 0, .int .i64 0, .str [], .int .i64 0, .int .i64 0, .str [], .int .i64 0, .int .i64 0, .str [], .nilsl, .nilptr]], .cells 0 16 false [[.str t.text, .int .i64 t.at_] ++ [.int .i64 k0, .int .i64 a0, .str x0] ++ [.int .i64 k2, .int .i64 a2, .str x2] ++ [.int .i64 k3, .int .i64 a3, .str x3] ++ [.int .i64 k4, .int .i64 a4, .str x4] ++ [.slice 3 0 ([(⟨ak, aa, ⟨at1, at2, at3⟩⟩ : RA)]).length 1, .nilptr]], .cells 1 5 false (([(⟨ak, aa, ⟨at1, at2, at3⟩⟩ : RA)]).map raC)], 4, [(0, pR), (2, .ref 1 0 0 0), (3, .ref 2 0 0 0)], by simp, ?_, by simp, ?_, ?_, [(⟨ak, aa, ⟨at1, at2, at3⟩⟩ : RA)], sb, .slice 3 0 ([(⟨ak, aa, ⟨at1, at2, at3⟩⟩ : RA)]).length 1, hsb, by omega, by simp at hol ⊢; omega, hE, by simp [lookF], by simp [lookF], by simp [lookF], .inr ⟨by simp, 1, rfl, rfl⟩⟩
        · simp; done
        · intro b hb
          simp only [List.mem_cons, List.not_mem_nil, or_false, List.cons_append, List.nil_append] at hb
          rcases hb with rfl | rfl | rfl | rfl
          all_goals first | (simp; done) | (intro x hx d hd; obtain ⟨y, _, rfl⟩ := List.mem_map.1 hx; apply Under.flat; revert hd; revert d; simp; done)
        · intro p hp
          simp only [List.mem_cons, List.not_mem_nil, or_false] at hp
          rcases hp with rfl | rfl | rfl
          all_goals exact .inl ⟨by simp [*], by simp⟩
      · skip
        repeat' (first
          | apply w_seq
          | apply w_region
          | apply o_end
          | apply t_normal
          | (apply o_val; exact kc0; exact kc2)
          | (apply o_beside fine; exact kc0; exact kc1; exact z1; rfl; rfl; exact kd5; exact kd3)
          | (apply o_beside fine; exact kc0; exact kc1; exact z2; rfl; rfl; exact kd5; exact kd3)
          | (apply o_beside fine; exact kc0; exact kc1; exact z4; rfl; rfl; exact kd5; exact kd3)
          | apply w_skip
          | apply w_block
          | apply b_normal
          | (apply w_true; exact kc3)
          | (apply w_drawA; rfl; exact ke3; exact kc4; exact kc4)
          | (apply a_end; exact kc4)
          | (apply a_val; exact kc4; exact kc5; exact kd9; exact kc6)
          | (apply a_besideG fine; exact kc4; exact kc5; exact kd8; exact z3; rfl; rfl; exact kd5; exact kd3; exact kc7; exact kc8; exact kc6; exact kc4)
          | (apply a_tie; exact kc4; exact kc5; exact ke0; exact kc7; exact kc6; exact kc4)
          | (apply a_frz (op := Op.buildSlice _ _ _); exact kc4; exact kc5; exact ke1; exact ke9; exact kc6)
          | (apply a_mem; exact kc4; exact kc5; exact ke1; exact kd8; exact kc7; exact kc6; exact kc4)
          | fail)
        refine ⟨k, by omega, pH sb ++ [.cells 0 16 false [[.str [], .int .i64 0, .int .i64 0, .int .i64 0, .str [], .int .i64 0, .int .i64 0, .str [], .int .i64 0, .int .i64 0, .str [], .int .i64 0, .int .i64 0, .str [], .nilsl, .nilptr]], .cells 0 16 false [[.str t.text, .int .i64 t.at_] ++ [.int .i64 k0, .int .i64 a0, .str x0] ++ [.int .i64 k2, .int .i64 a2, .str x2] ++ [.int .i64 k3, .int .i64 a3, .str x3] ++ [.int .i64 k4, .int .i64 a4, .str x4] ++ [.slice 3 0 (out ++ [(⟨ak, aa, ⟨at1, at2, at3⟩⟩ : RA)]).length (g + 1), .nilptr]], .cells (g + 1) 5 false ((out ++ [(⟨ak, aa, ⟨at1, at2, at3⟩⟩ : RA)]).map raC)], 4, [(0, pR), (2, .ref 1 0 0 0), (3, .ref 2 0 0 0)], by simp, ?_, by simp, ?_, ?_, out ++ [(⟨ak, aa, ⟨at1, at2, at3⟩⟩ : RA)], sb, .slice 3 0 (out ++ [(⟨ak, aa, ⟨at1, at2, at3⟩⟩ : RA)]).length (g + 1), hsb, by omega, by simp at hol ⊢; omega, hE, by simp [lookF], by simp [lookF], by simp [lookF], .inr ⟨by simp, g + 1, rfl, rfl⟩⟩
        · simp; done
        · intro b hb
          simp only [List.mem_cons, List.not_mem_nil, or_false, List.cons_append, List.nil_append] at hb
          rcases hb with rfl | rfl | rfl | rfl
          all_goals first | (simp; done) | (intro x hx d hd; obtain ⟨y, _, rfl⟩ := List.mem_map.1 hx; apply Under.flat; revert hd; revert d; simp; done)
        · intro p hp
          simp only [List.mem_cons, List.not_mem_nil, or_false] at hp
          rcases hp with rfl | rfl | rfl
          all_goals exact .inl ⟨by simp [*], by simp⟩
    · rw [hn, hi] at hE
      rw [hi] at z2
      simp only [Bool.not_true, Bool.and_false, Bool.false_eq_true, if_false] at hE
      have z3 := rneed_ok (m := m) [125] s hs
      subst hE
      simp only
      generalize rNeed [125] s = s7 at z3 ⊢
      rcases hor with ⟨rfl, rfl, rfl⟩ | ⟨hne, g, rfl, rfl⟩
      · skip
        repeat' (first
          | apply w_seq
          | apply w_region
          | apply o_end
          | apply t_normal
          | (apply o_val; exact kc0; exact kc2)
          | (apply o_beside fine; exact kc0; exact kc1; exact z1; rfl; rfl; exact kd5; exact kd3)
          | (apply o_beside fine; exact kc0; exact kc1; exact z2; rfl; rfl; exact kd5; exact kd3)
          | (apply o_beside fine; exact kc0; exact kc1; exact z3; rfl; rfl; exact kd5; exact kd3)
          | (apply o_mem; exact kc0; rfl; exact kc1)
          | apply w_ret
          | apply t_ret
          | apply b_ret
          | apply w_exit
          | apply t_exit
          | apply b_here
          | (apply w_false; exact kc3)
          | fail)
        apply g_ret
        · simp [*]; rfl
        · rfl
        · exact Snap.flat (by simp [rasD, rfD])
      · skip
        repeat' (first
          | apply w_seq
          | apply w_region
          | apply o_end
          | apply t_normal
          | (apply o_val; exact kc0; exact kc2)
          | (apply o_beside fine; exact kc0; exact kc1; exact z1; rfl; rfl; exact kd5; exact kd3)
          | (apply o_beside fine; exact kc0; exact kc1; exact z2; rfl; rfl; exact kd5; exact kd3)
          | (apply o_beside fine; exact kc0; exact kc1; exact z3; rfl; rfl; exact kd5; exact kd3)
          | (apply o_mem; exact kc0; rfl; exact kc1)
          | apply w_ret
          | apply t_ret
          | apply b_ret
          | apply w_exit
          | apply t_exit
          | apply b_here
          | (apply w_false; exact kc3)
          | fail)
        apply g_ret
        · simp [*]; rfl
        · rfl
        · have hAo := rasD_some hne
          simp only [riC, rfD, hAo]
          show Snap _ _ (.agg ([.str t.text, .int .i64 t.at_] ++ [.int .i64 k0, .int .i64 a0, .str x0] ++ [.int .i64 k2, .int .i64 a2, .str x2] ++ [.int .i64 k3, .int .i64 a3, .str x3] ++ [.int .i64 k4, .int .i64 a4, .str x4] ++ [.slice 3 0 out.length g, .nilptr])) (.agg ([.str t.text, .int .i64 t.at_] ++ [.int .i64 k0, .int .i64 a0, .str x0] ++ [.int .i64 k2, .int .i64 a2, .str x2] ++ [.int .i64 k3, .int .i64 a3, .str x3] ++ [.int .i64 k4, .int .i64 a4, .str x4] ++ [.isl 5 (out.map raC), .nilptr]))
          exact snap_rest (by simp) (by simp) rfl
end Go.Proofs.Ytknkkfdkcemolaa.Vm
end
section
/- The document's answer: how formulas look, how deep a text is. -/
set_option linter.unusedSimpArgs false
set_option linter.unusedVariables false
set_option maxRecDepth 100000
set_option maxHeartbeats 4000000
namespace Go.Proofs.Ytknkkfdkcemolaa.Vm
open Go
variable {m : Int}
attribute [local irreducible] wpD opsD thenD blockD planD planA LoopD
attribute [local simp] List.take_of_length_le List.drop_of_length_le bne mvD

def formS : RT → List UInt8
  | .leaf k s _ => 40 :: k ++ (if s = [] then [] else 32 :: s) ++ [41]
  | .un k x => 40 :: k ++ 32 :: formS x ++ [41]
  | .bin k x y => 40 :: k ++ 32 :: formS x ++ 32 :: formS y ++ [41]
theorem Form_ok (t : RT) (hl : (formS t).length ≤ 100000000000) : Ans (L m) 28 [rtrD t] (.str (formS t)) := by
  induction t with
  | leaf k s a =>
    refine fn_of_body L_ok (fn := Try.f28) rfl rfl rfl rfl (by kernel_rfl) ?_
    rw [rtrD]
    simp only [formS, List.length_append, List.length_cons, List.length_nil] at hl ⊢
    by_cases hs : s = []
    · subst hs
      simp only [if_true]
      repeat' (first
        | apply w_seq
        | apply w_region
        | apply o_end
        | apply t_normal
        | (apply o_cat; exact kc0; exact kc2; rfl; exact kc2; rfl; exact ke5; exact ke6)
        | (apply o_val; exact kc0; exact kc2)
        | apply w_block
        | fail)
      apply loop_is
      apply loop_unfold
      repeat' (first
        | apply w_seq
        | apply w_region
        | apply o_end
        | apply t_normal
        | (apply o_cat; exact kc0; exact kc2; rfl; exact kc2; rfl; exact ke5; exact ke6)
        | (apply o_val; exact kc0; exact kc2)
        | apply w_skip
        | apply w_ret
        | apply w_exit
        | apply t_exit
        | apply b_here
        | (apply w_false; exact kc3)
        | fail)
      · apply f_retf
        · simp [*]; rfl
        · simp
        · simp
    · have hb : (s == ([] : List UInt8)) = false := by simpa using hs
      simp only [hs, if_false, List.length_cons] at hl ⊢
      repeat' (first
        | apply w_seq
        | apply w_region
        | apply o_end
        | apply t_normal
        | (apply o_cat; exact kc0; exact kc2; rfl; exact kc2; rfl; exact ke5; exact ke6)
        | (apply o_val; exact kc0; exact kc2)
        | apply w_block
        | fail)
      apply loop_is
      apply loop_unfold
      repeat' (first
        | apply w_seq
        | apply w_region
        | apply o_end
        | apply t_normal
        | (apply o_cat; exact kc0; exact kc2; rfl; exact kc2; rfl; exact ke5; exact ke6)
        | (apply o_val; exact kc0; exact kc2)
        | apply w_ret
        | apply w_exit
        | apply t_exit
        | apply b_here
        | (apply w_true; exact kc3)
        | (apply w_false; exact kc3)
        | fail)
      · apply f_retf
        · simp [*]; rfl
        · simp
        · simp
  | un k x ih =>
    refine fn_of_body L_ok (fn := Try.f28) rfl rfl rfl rfl (by kernel_rfl) ?_
    simp only [formS, List.length_append, List.length_cons, List.length_nil] at hl ⊢
    have a1 := ih (by omega)
    obtain ⟨cx, hcx⟩ := isRT_ex x
    have hfx := rtD_flat x
    rw [rtrD, show rtrD x = .box cx from hcx]
    rw [show rtrD x = .box cx from hcx] at a1 hfx
    generalize formS x = sx at a1 hl ⊢
    clear ih hcx
    repeat' (first
      | apply w_seq
      | apply w_region
      | apply o_end
      | apply t_normal
      | (apply o_cat; exact kc0; exact kc2; rfl; exact kc2; rfl; exact ke5; exact ke6)
      | (apply o_val; exact kc0; exact kc2)
      | apply w_block
      | fail)
    apply loop_is
    apply loop_unfold
    repeat' (first
      | apply w_seq
      | apply w_region
      | apply o_end
      | apply t_normal
      | (apply o_add; exact kc0; exact kc2; rfl; exact kc2; rfl; exact ke2)
      | (apply o_cat; exact kc0; exact kc2; rfl; exact kc2; rfl; exact ke5; exact ke6)
      | (apply o_val; exact kc0; exact kc2)
      | (apply o_fn fine; exact kc0; exact kc1; exact a1; exact kc3)
      | apply w_skip
      | apply w_block
      | apply b_normal
      | (apply w_true; exact kc3)
      | fail)
    apply loop_unfold
    repeat' (first
      | apply w_seq
      | apply w_region
      | apply o_end
      | apply t_normal
      | (apply o_cat; exact kc0; exact kc2; rfl; exact kc2; rfl; exact ke5; exact ke6)
      | (apply o_val; exact kc0; exact kc2)
      | apply w_skip
      | apply w_ret
      | apply w_exit
      | apply t_exit
      | apply b_here
      | (apply w_false; exact kc3)
      | fail)
    · apply f_retf
      · simp [*]; rfl
      · simp
      · simp
  | bin k x y ihx ihy =>
    refine fn_of_body L_ok (fn := Try.f28) rfl rfl rfl rfl (by kernel_rfl) ?_
    simp only [formS, List.length_append, List.length_cons, List.length_nil] at hl ⊢
    have a1 := ihx (by omega)
    have a2 := ihy (by omega)
    obtain ⟨cx, hcx⟩ := isRT_ex x
    have hfx := rtD_flat x
    obtain ⟨cy, hcy⟩ := isRT_ex y
    have hfy := rtD_flat y
    rw [rtrD, show rtrD x = .box cx from hcx, show rtrD y = .box cy from hcy]
    rw [show rtrD x = .box cx from hcx] at a1 hfx
    rw [show rtrD y = .box cy from hcy] at a2 hfy
    generalize formS x = sx at a1 hl ⊢
    generalize formS y = sy at a2 hl ⊢
    clear ihx ihy hcx hcy
    repeat' (first
      | apply w_seq
      | apply w_region
      | apply o_end
      | apply t_normal
      | (apply o_cat; exact kc0; exact kc2; rfl; exact kc2; rfl; exact ke5; exact ke6)
      | (apply o_val; exact kc0; exact kc2)
      | apply w_block
      | fail)
    apply loop_is
    apply loop_unfold
    repeat' (first
      | apply w_seq
      | apply w_region
      | apply o_end
      | apply t_normal
      | (apply o_add; exact kc0; exact kc2; rfl; exact kc2; rfl; exact ke2)
      | (apply o_cat; exact kc0; exact kc2; rfl; exact kc2; rfl; exact ke5; exact ke6)
      | (apply o_val; exact kc0; exact kc2)
      | (apply o_fn fine; exact kc0; exact kc1; exact a1; exact kc3)
      | apply w_skip
      | apply w_block
      | apply b_normal
      | (apply w_true; exact kc3)
      | fail)
    apply loop_unfold
    repeat' (first
      | apply w_seq
      | apply w_region
      | apply o_end
      | apply t_normal
      | (apply o_add; exact kc0; exact kc2; rfl; exact kc2; rfl; exact ke2)
      | (apply o_cat; exact kc0; exact kc2; rfl; exact kc2; rfl; exact ke5; exact ke6)
      | (apply o_val; exact kc0; exact kc2)
      | (apply o_fn fine; exact kc0; exact kc1; exact a2; exact kc3)
      | apply w_skip
      | apply w_block
      | apply b_normal
      | (apply w_true; exact kc3)
      | fail)
    apply loop_unfold
    repeat' (first
      | apply w_seq
      | apply w_region
      | apply o_end
      | apply t_normal
      | (apply o_cat; exact kc0; exact kc2; rfl; exact kc2; rfl; exact ke5; exact ke6)
      | (apply o_val; exact kc0; exact kc2)
      | apply w_skip
      | apply w_ret
      | apply w_exit
      | apply t_exit
      | apply b_here
      | (apply w_false; exact kc3)
      | fail)
    · apply f_retf
      · simp [*]; rfl
      · simp
      · simp
def toldS (t : Tok) : List UInt8 := if t.kind = 0 then [] else if t.kind = 3 then 32 :: 34 :: t.text ++ [34] else 32 :: t.text
theorem told_ok (t : Tok) (ht : t.text.length ≤ 8000) : Ans (L m) 29 [.agg (encT t)] (.str (toldS t)) := by
  refine fn_of_body L_ok (fn := Try.f29) rfl rfl rfl rfl (by kernel_rfl) ?_
  obtain ⟨k, a, x⟩ := t
  simp only at ht
  by_cases hk : k = 0
  · subst hk
    repeat' (first
      | apply w_seq
      | apply w_region
      | apply o_end
      | apply t_normal
      | (apply o_val; exact kc0; exact kc2)
      | (apply o_mem; exact kc0; rfl; exact kc1)
      | apply w_block
      | apply w_ret
      | apply t_ret
      | apply b_ret
      | (apply w_true; exact kc3)
      | fail)
    · apply f_retf
      · simp [*]; rfl
      · simp
      · rfl
  · have hb : ((k : Int) == 0) = false := by simp; omega
    by_cases hk3 : k = 3
    · subst hk3
      repeat' (first
        | apply w_seq
        | apply w_region
        | apply o_end
        | apply t_normal
        | (apply o_cat; exact kc0; exact kc2; rfl; exact kc2; rfl; exact ke5; exact ke6)
        | (apply o_val; exact kc0; exact kc2)
        | (apply o_mem; exact kc0; rfl; exact kc1)
        | apply w_block
        | apply w_ret
        | apply t_ret
        | apply b_ret
        | (apply w_true; exact kc3)
        | (apply w_false; exact kc3)
        | fail)
      · apply f_retf
        · simp [*]; rfl
        · simp
        · rfl
    · have hb3 : ((k : Int) == 3) = false := by simp; omega
      repeat' (first
        | apply w_seq
        | apply w_region
        | apply o_end
        | apply t_normal
        | (apply o_cat; exact kc0; exact kc2; rfl; exact kc2; rfl; exact ke5; exact ke6)
        | (apply o_val; exact kc0; exact kc2)
        | (apply o_mem; exact kc0; rfl; exact kc1)
        | apply w_skip
        | apply w_block
        | apply b_normal
        | apply w_ret
        | (apply w_false; exact kc3)
        | fail)
      · apply f_retf
        · simp [*]; rfl
        · simp
        · simp [toldS, hk, hk3]
/-- How many parentheses lie in one another, from here on: so many are open, so many were at most. -/
def deepF : List UInt8 → Int → Int → Int
  | [], _, b => b
  | c :: r, n, b => deepF r (n + (if c = 40 then 1 else 0) - (if c = 41 then 1 else 0)) (max b (n + (if c = 40 then 1 else 0) - (if c = 41 then 1 else 0)))
theorem imax (a b : Int) : (if a < b then b else a) = max a b := by
  split <;> omega
theorem deep_ok (s : List UInt8) (hs : s.length ≤ 100000000000) : Ans (L m) 27 [.str s] (.int .i64 (deepF s 0 0)) := by
  refine fn_of_body L_ok (fn := Try.f27) rfl rfl rfl rfl (by kernel_rfl) ?_
  generalize hE : deepF s 0 0 = E
  repeat' (first
    | apply w_seq
    | apply w_region
    | apply o_end
    | apply t_normal
    | (apply o_val; exact kc0; exact kc2)
    | apply w_block
    | fail)
  refine w_loop (fun n f H => ∃ (i : Nat) (x b : Int), i ≤ s.length ∧ n = s.length - i ∧ H = [] ∧ -(i : Int) ≤ x ∧ x ≤ i ∧ 0 ≤ b ∧ b ≤ i ∧ deepF (s.drop i) x b = E ∧ f 0 = .str s ∧ f 3 = .int .i64 x ∧ f 4 = .int .i64 b ∧ f 5 = .int .i64 i) s.length ⟨0, 0, 0, by simp, by simp, rfl, by simp, by simp, by simp, by simp, by simpa using hE, by simp, by simp, by simp, by simp⟩ ?_
  clear hE
  rintro n f H ⟨i, x, b, hi, rfl, rfl, hx1, hx2, hb1, hb2, hE, g0, g3, g4, g5⟩
  by_cases hlt : i < s.length
  · have hc : decide ((i : Int) < (s.length : Int)) = true := by simp; omega
    have hd : s.drop i = s[i] :: s.drop (i + 1) := List.drop_eq_getElem_cons hlt
    rw [hd, deepF] at hE
    have hi2 : (i : Int) ≤ 100000000000 := by omega
    have fin : ∀ (f : Fr) (x b : Int), f 0 = .str s → f 3 = .int .i64 x → f 4 = .int .i64 b → f 5 = .int .i64 ((i : Int) + 1) → -((i : Int) + 1) ≤ x → x ≤ (i : Int) + 1 → 0 ≤ b → b ≤ (i : Int) + 1 → deepF (s.drop (i + 1)) x b = E →
        ∃ m, m < s.length - i ∧ ∃ (j : Nat) (x b : Int), j ≤ s.length ∧ m = s.length - j ∧ ([] : Heap) = [] ∧ -(j : Int) ≤ x ∧ x ≤ j ∧ 0 ≤ b ∧ b ≤ j ∧ deepF (s.drop j) x b = E ∧ f 0 = .str s ∧ f 3 = .int .i64 x ∧ f 4 = .int .i64 b ∧ f 5 = .int .i64 j := fun f x b h0 h3 h4 h5 q1 q2 q3 q4 q5 =>
      ⟨s.length - (i + 1), by omega, i + 1, x, b, by omega, rfl, rfl, by omega, by omega, q3, by omega, q5, h0, h3, h4, by rw [h5]; simp⟩
    by_cases h40 : s[i] = 40
    · have e1 : ((s[i].toNat : Int) == 40) = true := by rw [h40]; rfl
      have e2 : ((s[i].toNat : Int) == 41) = false := by rw [h40]; rfl
      rw [h40] at hE
      simp only [if_true, show ¬ ((40 : UInt8) = 41) from by decide, if_false, Int.sub_zero] at hE
      repeat' (first
        | apply w_seq
        | apply w_region
        | apply o_end
        | apply t_normal
        | (apply o_add; exact kc0; exact kc2; rfl; exact kc2; rfl; exact ke2)
        | (apply o_val; exact kc0; exact kc2)
        | apply w_skip
        | apply w_block
        | apply b_normal
        | (apply w_true; exact kc3)
        | (apply w_false; exact kc3)
        | fail)
      refine fin _ (x + 1) (max b (x + 1)) (by simp [*]) (by simp [*]) ?_ (by simp) (by omega) (by omega) (by omega) (by omega) hE
      simp [imax, *]
    · have e1 : ((s[i].toNat : Int) == 40) = false := by
        have : s[i].toNat ≠ 40 := fun h => h40 (UInt8.toNat_inj.1 h)
        simp; omega
      by_cases h41 : s[i] = 41
      · have e2 : ((s[i].toNat : Int) == 41) = true := by rw [h41]; rfl
        rw [h41] at hE
        simp only [if_true, show ¬ ((41 : UInt8) = 40) from by decide, if_false, Int.add_zero] at hE
        repeat' (first
          | apply w_seq
          | apply w_region
          | apply o_end
          | apply t_normal
          | (apply o_add; exact kc0; exact kc2; rfl; exact kc2; rfl; exact ke2)
          | (apply o_sub; exact kc0; exact kc2; rfl; exact kc2; rfl; exact ke2)
          | (apply o_val; exact kc0; exact kc2)
          | apply w_skip
          | apply w_block
          | apply b_normal
          | (apply w_true; exact kc3)
          | (apply w_false; exact kc3)
          | fail)
        refine fin _ (x - 1) (max b (x - 1)) (by simp [*]) (by simp [*]) ?_ (by simp) (by omega) (by omega) (by omega) (by omega) hE
        simp [imax, *]
      · have e2 : ((s[i].toNat : Int) == 41) = false := by
          have : s[i].toNat ≠ 41 := fun h => h41 (UInt8.toNat_inj.1 h)
          simp; omega
        simp only [h40, h41, if_false, Int.add_zero, Int.sub_zero] at hE
        repeat' (first
          | apply w_seq
          | apply w_region
          | apply o_end
          | apply t_normal
          | (apply o_add; exact kc0; exact kc2; rfl; exact kc2; rfl; exact ke2)
          | (apply o_val; exact kc0; exact kc2)
          | apply w_skip
          | apply w_block
          | apply b_normal
          | (apply w_true; exact kc3)
          | (apply w_false; exact kc3)
          | fail)
        refine fin _ (x) (max b (x)) (by simp [*]) (by simp [*]) ?_ (by simp) (by omega) (by omega) (by omega) (by omega) hE
        simp [imax, *]
  · have hc : decide ((i : Int) < (s.length : Int)) = false := by simp; omega
    rw [show s.drop i = [] from List.drop_eq_nil_of_le (by omega), deepF] at hE
    subst hE
    repeat' (first
      | apply w_seq
      | apply w_region
      | apply o_end
      | apply t_normal
      | (apply o_val; exact kc0; exact kc2)
      | apply w_ret
      | apply w_exit
      | apply t_exit
      | apply b_here
      | (apply w_false; exact kc3)
      | fail)
    · apply f_retf
      · simp [*]; rfl
      · simp
      · rfl
end Go.Proofs.Ytknkkfdkcemolaa.Vm
end
section
/- The document's reader of descriptions: an item, from any place. -/
set_option linter.unusedSimpArgs false
set_option linter.unusedVariables false
set_option maxRecDepth 100000
set_option maxHeartbeats 4000000
namespace Go.Proofs.Ytknkkfdkcemolaa.Vm
open Go
variable {m : Int}

theorem item_ok2 (pre : List Tok) (t : Tok) (r : List Tok) (bb : Option Int) (hs : Few (pre, t :: r, bb)) :
    CallsV (L m) 26 [pR] (pH (pre, t :: r, bb)) (Turns (.agg (riC (rItemK t (pre, t :: r, bb)).1)) (pH (rItemK t (pre, t :: r, bb)).2)) := by
  unfold rItemK
  cases i0 : rIs [111, 114, 105, 103, 105, 110] (pre, t :: r, bb)
  case true => exact item_rorigin_ok (m := m) pre t r bb hs i0
  cases i1 : rIs [99, 111, 111, 107, 105, 101] (pre, t :: r, bb)
  case true => exact item_rcookie_ok (m := m) pre t r bb hs i0 i1
  cases i2 : rIs [115, 101, 99, 114, 101, 116] (pre, t :: r, bb)
  case true => exact item_rsecret_ok (m := m) pre t r bb hs i0 i1 i2
  cases i3 : rIs [110, 101, 116, 119, 111, 114, 107] (pre, t :: r, bb)
  case true => exact item_rnetwork_ok (m := m) pre t r bb hs i0 i1 i2 i3
  cases i4 : rIs [101, 110, 100, 112, 111, 105, 110, 116] (pre, t :: r, bb)
  case true => exact item_rendpoint_ok (m := m) pre t r bb hs i0 i1 i2 i3 i4
  cases i5 : rIs [112, 114, 111, 112, 101, 114, 116, 121] (pre, t :: r, bb)
  case true => exact item_rproperty_ok (m := m) pre t r bb hs i0 i1 i2 i3 i4 i5
  exact item_none_ok (m := m) pre t r bb hs i0 i1 i2 i3 i4 i5
theorem ritem_ok (s : PS) (hs : Few s) (hne : s.2.1 ≠ []) : CallsV (L m) 26 [pR] (pH s) (Turns (.agg (riC (rItem s).1)) (pH (rItem s).2)) := by
  obtain ⟨pre, ts, bb⟩ := s
  cases ts with
  | nil => exact absurd rfl hne
  | cons t r => exact item_ok2 (m := m) pre t r bb hs
/-! ### what is gone -/
theorem rkind_len (k : Nat) (s : PS) : (rKind k s).2.2.1.length ≤ s.2.1.length := (rkind_all k s).2
theorem rneed_len (x : List UInt8) (s : PS) : (rNeed x s).2.1.length ≤ s.2.1.length := (rneed_all x s).2
theorem rfml_len (s : PS) : (rFml s).2.2.1.length ≤ s.2.1.length := (rform_all _ _ s).2
theorem ritem_facts (s : PS) (hne : s.2.1 ≠ []) : allOf (rItem s).2 = allOf s ∧ (s.2.2.isNone = true → mu (rItem s).2 < mu s) := by
  obtain ⟨pre, ts, bb⟩ := s
  cases ts with
  | nil => exact absurd rfl hne
  | cons t r =>
    generalize hS : ((pre, t :: r, bb) : PS) = s at *
    have hr : rItem s = rItemK t s := by rw [← hS]; rfl
    rw [hr]
    have hn := (rnext_all s).1
    have key : ∀ s' : PS, s'.2.1.length ≤ (rNext s).2.1.length → (rNext s).2.1.length + 1 = s.2.1.length → s.2.2.isNone = true → mu s' < mu s := fun s' h1 h2 h3 => by
      have h4 := mu_le s'
      have h5 : mu s = s.2.1.length + 1 := by simp [mu, h3]
      omega
    unfold rItemK
    split
    · rename_i hi
      have hl := ris_len hi
      unfold r_origin
      refine ⟨?_, fun h => key _ ?_ hl h⟩
      · simp only [(rneed_all _ _).1, (rkind_all _ _).1, hn]
      · exact Nat.le_trans (rneed_len _ _) (Nat.le_trans (rkind_len _ _) (rkind_len _ _))
    split
    · rename_i hi
      have hl := ris_len hi
      unfold r_cookie
      refine ⟨?_, fun h => key _ ?_ hl h⟩
      · simp only [(rneed_all _ _).1, (rkind_all _ _).1, hn]
      · exact Nat.le_trans (rneed_len _ _) (Nat.le_trans (rkind_len _ _) (Nat.le_trans (rkind_len _ _) (Nat.le_trans (rneed_len _ _) (rkind_len _ _))))
    split
    · rename_i hi
      have hl := ris_len hi
      unfold r_secret
      refine ⟨?_, fun h => key _ ?_ hl h⟩
      · simp only [(rneed_all _ _).1, (rkind_all _ _).1, hn]
      · exact Nat.le_trans (rneed_len _ _) (rkind_len _ _)
    split
    · rename_i hi
      have hl := ris_len hi
      unfold r_network
      refine ⟨?_, fun h => key _ ?_ hl h⟩
      · simp only [(rneed_all _ _).1, (rkind_all _ _).1, hn]
      · exact rneed_len _ _
    split
    · rename_i hi
      have hl := ris_len hi
      unfold r_endpoint
      generalize hs6 : rNeed [123] (rKind 3 (rKind 5 (rKind 1 (rNeed [97, 116] (rKind 1 (rNext s)).2)).2).2).2 = s6
      have h6 : s6.2.1.length ≤ (rNext s).2.1.length := by
        rw [← hs6]
        exact Nat.le_trans (rneed_len _ _) (Nat.le_trans (rkind_len _ _) (Nat.le_trans (rkind_len _ _) (Nat.le_trans (rkind_len _ _) (Nat.le_trans (rneed_len _ _) (rkind_len _ _)))))
      have h7 := rattrs_all (s6.2.1.length + 2) [] s6
      refine ⟨?_, fun h => ?_⟩
      · simp only [(rneed_all _ _).1, h7.1]
        rw [← hs6]
        simp only [(rneed_all _ _).1, (rkind_all _ _).1, hn]
      · have h8 := rneed_mu [125] (rAttrs (s6.2.1.length + 2) [] s6).2
        have h9 := mu_le s6
        have h5 : mu s = s.2.1.length + 1 := by simp [mu, h]
        have h10 := h7.2
        show mu (rNeed [125] (rAttrs (s6.2.1.length + 2) [] s6).2) < mu s
        omega
    split
    · rename_i hi
      have hl := ris_len hi
      unfold r_property
      refine ⟨?_, fun h => key _ ?_ hl h⟩
      · simp only [(rneed_all _ _).1, (rkind_all _ _).1, rfml_all, hn]
      · exact Nat.le_trans (rneed_len _ _) (Nat.le_trans (rfml_len _) (Nat.le_trans (rneed_len _ _) (rkind_len _ _)))
    · refine ⟨by simp only [(rneed_all _ _).1, (rfail_all _).1], fun h => ?_⟩
      have h1 := rneed_mu [59] (rFail s)
      have h2 : mu (rFail s) = 0 := by simp [mu, rfail_bad]
      have h5 : mu s = s.2.1.length + 1 := by simp [mu, h]
      show mu (rNeed [59] (rFail s)) < mu s
      omega
/-- All items. -/
def rItems : Nat → List RI → PS → List RI × PS
  | 0, out, s => (out, s)
  | k + 1, out, s => if (s.2.2.isNone && !s.2.1.isEmpty) = true then rItems k (out ++ [(rItem s).1]) (rItem s).2 else (out, s)
def deepR (l : List RI) : Bool := l.any fun i => match i.form with
  | none => false
  | some t => decide (16 < deepF (formS t) 0 0)
/-- What the document's reader answers. -/
def readR (s : List UInt8) : List RI × Nat × Int :=
  if (toks s).2.1 ≠ 0 then ([], (toks s).2.1, (toks s).2.2)
  else match (rItems ((toks s).1.length + 2) [] ([], (toks s).1, none)).2.2.2 with
    | some b => ([], 4, if b < 0 then s.length else b)
    | none => if deepR (rItems ((toks s).1.length + 2) [] ([], (toks s).1, none)).1 then ([], 5, 0) else ((rItems ((toks s).1.length + 2) [] ([], (toks s).1, none)).1, 0, 0)
end Go.Proofs.Ytknkkfdkcemolaa.Vm
end
section
/- The document's answer: an item's row. -/
set_option linter.unusedSimpArgs false
set_option linter.unusedVariables false
set_option maxRecDepth 100000
set_option maxHeartbeats 4000000
namespace Go.Proofs.Ytknkkfdkcemolaa.Vm
open Go
variable {m : Int}
attribute [local irreducible] wpD opsD thenD blockD planD planA LoopD
attribute [local simp] List.take_of_length_le List.drop_of_length_le bne mvD

def attrsR (l : List RA) : List UInt8 := (l.map fun a => 32 :: 40 :: a.k ++ toldS a.t ++ [41]).flatten
def lineR0 (i : RI) : List UInt8 := i.k ++ toldS i.name ++ (if i.whr.kind = 0 then [] else [32, 97, 116] ++ toldS i.whr) ++ toldS i.caps ++ toldS i.txt
def lineR (i : RI) : List UInt8 := lineR0 i ++ attrsR i.al ++ (match i.form with
  | none => []
  | some t => 32 :: formS t) ++ [10]
theorem attrsR_take {l : List RA} {i : Nat} (hi : i < l.length) : attrsR (l.take (i + 1)) = attrsR (l.take i) ++ (32 :: 40 :: l[i].k ++ toldS l[i].t ++ [41]) := by
  unfold attrsR
  rw [List.take_succ_eq_append_getElem hi, List.map_append, List.flatten_append]
  simp only [List.map_cons, List.map_nil, List.flatten_cons, List.flatten_nil, List.append_nil]
theorem attrsR_le (l : List RA) (i : Nat) : (attrsR (l.take i)).length ≤ (attrsR l).length := by
  have e : attrsR l = attrsR (l.take i) ++ attrsR (l.drop i) := by
    unfold attrsR
    rw [← List.flatten_append, ← List.map_append, List.take_append_drop]
  rw [e, List.length_append]
  omega
theorem told_len {t : Tok} (h : t.text.length ≤ 8000) : (toldS t).length ≤ 8003 := by
  unfold toldS
  split
  · simp
  split
  · simp; omega
  · simp; omega
theorem attrsR_len {l : List RA} (h : ∀ a, a ∈ l → a.k.length ≤ 8000 ∧ a.t.text.length ≤ 8000) : (attrsR l).length ≤ l.length * 16010 := by
  unfold attrsR
  induction l with
  | nil => simp
  | cons a l ih =>
    have h1 := h a (List.mem_cons_self ..)
    have h2 := told_len h1.2
    have h3 := ih (fun b hb => h b (List.mem_cons_of_mem _ hb))
    simp only [List.map_cons, List.flatten_cons, List.length_append, List.length_cons, List.length_nil] at h3 ⊢
    omega
structure ShortI (i : RI) : Prop where
  k : i.k.length ≤ 8000
  name : i.name.text.length ≤ 8000
  whr : i.whr.text.length ≤ 8000
  caps : i.caps.text.length ≤ 8000
  txt : i.txt.text.length ≤ 8000
  al : ∀ a, a ∈ i.al → a.k.length ≤ 8000 ∧ a.t.text.length ≤ 8000
  many : i.al.length ≤ 2000
  form : ∀ t, i.form = some t → (formS t).length ≤ 100000000
theorem lineR0_len {i : RI} (h : ShortI i) : (lineR0 i).length ≤ 100000 := by
  have h1 := told_len h.name
  have h2 := told_len h.whr
  have h3 := told_len h.caps
  have h4 := told_len h.txt
  have h5 := h.k
  unfold lineR0
  split <;> simp only [List.length_append, List.length_cons, List.length_nil] <;> omega
theorem Line_ok (i : RI) (hi : ShortI i) : Ans (L m) 13 [.agg (riC i)] (.str (lineR i)) := by
  refine fn_of_body L_ok (fn := Try.f13) rfl rfl rfl rfl (by kernel_rfl) ?_
  have hal := hi.al
  have hmany := hi.many
  have hfo := hi.form
  have hl0 := lineR0_len hi
  have hlk := hi.k
  have hl1 := told_len hi.name
  have hl2 := told_len hi.whr
  have hl3 := told_len hi.caps
  have hl4 := told_len hi.txt
  have a1 := told_ok (m := m) i.name hi.name
  have a2 := told_ok (m := m) i.whr hi.whr
  have a3 := told_ok (m := m) i.caps hi.caps
  have a4 := told_ok (m := m) i.txt hi.txt
  have hA := attrsR_len hal
  clear hi
  obtain ⟨k, at_, name, whr, caps, txt, al, form⟩ := i
  unfold lineR
  unfold lineR0 at hl0 ⊢
  simp only [riC] at *
  generalize toldS name = s1 at *
  generalize toldS whr = s2 at *
  generalize toldS caps = s3 at *
  generalize toldS txt = s4 at *
  have c1 : k.length + s1.length ≤ 9223372036854775807 := by omega
  have c2 : k.length + (s1.length + s3.length) ≤ 9223372036854775807 := by omega
  have c3 : k.length + (s1.length + (s3.length + s4.length)) ≤ 9223372036854775807 := by omega
  have c4 : k.length + s1.length + s3.length ≤ 9223372036854775807 := by omega
  have c6 : k.length + (s1.length + s3.length) + s4.length ≤ 9223372036854775807 := by omega
  have d1 : k.length + (s1.length + (s2.length + 1 + 1 + 1)) + s3.length ≤ 9223372036854775807 := by omega
  have d2 : k.length + (s1.length + (s2.length + s3.length + 1 + 1 + 1)) + s4.length ≤ 9223372036854775807 := by omega
  have d3 : k.length + (s1.length + (s2.length + (s3.length + 1 + 1 + 1))) + s4.length ≤ 9223372036854775807 := by omega
  have c5 : k.length + s1.length + s3.length + s4.length ≤ 9223372036854775807 := by omega
  obtain ⟨wk, wa, wt⟩ := whr
  by_cases hk : wk = 0
  · subst hk
    simp only [if_true, List.append_nil] at *
    cases al with
    | nil =>
      simp only [rasD, attrsR, List.map_nil, List.flatten_nil, List.append_nil] at *
      repeat' (first
        | apply w_seq
        | apply w_region
        | apply o_end
        | apply t_normal
        | (apply o_val; exact kc0; exact kc2)
        | (apply o_boxv; exact kc0; rfl; exact kc1; (focus (intro d hd; revert hd; revert d; simp; done)))
        | apply w_skip
        | apply w_block
        | (apply w_false; exact kc3)
        | (apply w_drawA; rfl; exact ke3; exact kc4; exact kc4)
        | (apply a_end; exact kc4)
        | (apply a_val; exact kc4; exact kc5; exact kd9; exact kc6)
        | (apply a_fn fine; exact kc4; exact kc5; exact kd8; exact a1; exact kc3; exact kc6)
        | (apply a_fn fine; exact kc4; exact kc5; exact kd8; exact a3; exact kc3; exact kc6)
        | (apply a_fn fine; exact kc4; exact kc5; exact kd8; exact a4; exact kc3; exact kc6)
        | fail)
      apply loop_is
      apply loop_unfold
      repeat' (first
        | apply w_seq
        | apply w_region
        | apply o_end
        | apply t_normal
        | (apply o_val; exact kc0; exact kc2)
        | apply w_exit
        | apply t_exit
        | apply b_here
        | (apply w_false; exact kc3)
        | fail)
      clear a1 a2 a3 a4
      cases form with
      | none =>
        simp only [rfD] at *
        repeat' (first
          | apply w_seq
          | apply w_region
          | apply o_end
          | apply t_normal
          | (apply o_cat; exact kc0; exact kc2; rfl; exact kc2; rfl; exact ke5; exact ke6)
          | (apply o_val; exact kc0; exact kc2)
          | apply w_skip
          | apply w_ret
          | (apply w_false; exact kc3)
          | fail)
        · apply f_retf
          · simp [*]; rfl
          · simp
          · simp
      | some t =>
        have hf0 := hfo t rfl
        have a5 := Form_ok (m := m) t (by omega)
        simp only [rfD] at *
        obtain ⟨cs, hcs⟩ := isRT_ex t
        have hft := rtD_flat t
        rw [show rtrD t = .box cs from hcs] at *
        generalize formS t = sf at *
        clear hcs hfo
        repeat' (first
          | apply w_seq
          | apply w_region
          | apply o_end
          | apply t_normal
          | (apply o_cat; exact kc0; exact kc2; rfl; exact kc2; rfl; exact ke5; exact ke6)
          | (apply o_val; exact kc0; exact kc2)
          | (apply o_fn fine; exact kc0; exact kc1; exact a5; exact kc3)
          | apply w_ret
          | (apply w_true; exact kc3)
          | fail)
        · apply f_retf
          · simp [*]; rfl
          · simp
          · simp
    | cons x0 al0 =>
      have hAD := rasD_some (l := x0 :: al0) (by simp)
      generalize x0 :: al0 = al at *
      rw [hAD] at *
      clear hAD
      have hAm := attrsR_le al
      repeat' (first
        | apply w_seq
        | apply w_region
        | apply o_end
        | apply t_normal
        | (apply o_val; exact kc0; exact kc2)
        | (apply o_boxv; exact kc0; rfl; exact kc1; (focus (intro d hd; revert hd; revert d; simp; done)))
        | apply w_skip
        | apply w_block
        | (apply w_false; exact kc3)
        | (apply w_drawA; rfl; exact ke3; exact kc4; exact kc4)
        | (apply a_end; exact kc4)
        | (apply a_val; exact kc4; exact kc5; exact kd9; exact kc6)
        | (apply a_fn fine; exact kc4; exact kc5; exact kd8; exact a1; exact kc3; exact kc6)
        | (apply a_fn fine; exact kc4; exact kc5; exact kd8; exact a3; exact kc3; exact kc6)
        | (apply a_fn fine; exact kc4; exact kc5; exact kd8; exact a4; exact kc3; exact kc6)
        | fail)
      clear a1 a2 a3 a4
      generalize hB0 : k ++ s1 ++ s3 ++ s4 = B0 at *
      refine w_loop (fun n f H => ∃ (j : Nat), j ≤ al.length ∧ n = al.length - j ∧ H = [] ∧ f 1 = .box (.str k :: .int .i64 at_ :: (encT name ++ encT ⟨0, wa, wt⟩ ++ encT caps ++ encT txt ++ [.isl 5 (al.map raC), rfD form])) ∧ f 3 = .str (B0 ++ attrsR (al.take j)) ∧ f 4 = .int .i64 j) al.length ⟨0, by simp, rfl, rfl, by simp, by simp [← hB0, attrsR], by simp⟩ ?_
      rintro n f H ⟨j, hj, rfl, rfl, g1, g3, g4⟩
      by_cases hlt : j < al.length
      · have hli : (j : Int) < al.length := by omega
        have hT := attrsR_take hlt
        have hm := hal _ (List.getElem_mem hlt)
        have aT := told_ok (m := m) al[j].t hm.2
        have hl5 := told_len hm.2
        have hAj := hAm j
        clear hAm hal hfo hB0
        rcases hxj : al[j] with ⟨ak, aa, ⟨tk, ta, tt⟩⟩
        rw [hxj] at hT aT hm hl5
        simp only at hT aT hm hl5
        generalize toldS ⟨tk, ta, tt⟩ = st at hT aT hl5
        generalize attrsR (al.take j) = P at g3 hT hAj
        have hQl : (B0 ++ P).length ≤ 100000000 := by rw [List.length_append]; omega
        have hQT : B0 ++ attrsR (al.take (j + 1)) = (B0 ++ P) ++ (32 :: 40 :: ak ++ st ++ [41]) := by rw [hT]; simp
        generalize B0 ++ P = Q at g3 hQl hQT
        have b1 : Q.length ≤ 9223372036854775805 := by omega
        have b2 : Q.length + 2 + ak.length ≤ 9223372036854775807 := by omega
        have b3 : Q.length + (ak.length + 1 + 1) + st.length ≤ 9223372036854775807 := by omega
        have b4 : Q.length + (ak.length + st.length + 1 + 1) ≤ 9223372036854775806 := by omega
        have b5 : Q.length + (ak.length + (st.length + 1 + 1)) ≤ 9223372036854775806 := by omega
        have b6 : Q.length + (ak.length + (st.length + 1 + 1)) + 1 ≤ 9223372036854775807 := by omega
        have b7 : Q.length + (ak.length + st.length + 1 + 1) + 1 ≤ 9223372036854775807 := by omega
        repeat' (first
          | apply w_seq
          | apply w_region
          | apply o_end
          | apply t_normal
          | (apply o_add; exact kc0; exact kc2; rfl; exact kc2; rfl; exact ke2)
          | (apply o_val; exact kc0; exact kc2)
          | apply w_skip
          | apply w_block
          | apply b_normal
          | (apply w_true; exact kc3)
          | (apply w_drawA; rfl; exact ke3; exact kc4; exact kc4)
          | (apply a_end; exact kc4)
          | (apply a_val; exact kc4; exact kc5; exact kd9; exact kc6)
          | (apply a_fn fine; exact kc4; exact kc5; exact kd8; exact aT; exact kc3; exact kc6)
          | fail)
        exact ⟨al.length - (j + 1), by omega, j + 1, by omega, rfl, rfl, by simp [*], by rw [hQT]; simp [*], by simp [*]⟩
      · have hli : ¬ (j : Int) < al.length := by omega
        rw [show al.take j = al from List.take_of_length_le (by omega)] at g3
        generalize attrsR al = P at g3 hA
        subst hB0
        clear hAm hal
        cases form with
        | none =>
          simp only [rfD] at *
          repeat' (first
            | apply w_seq
            | apply w_region
            | apply o_end
            | apply t_normal
            | (apply o_cat; exact kc0; exact kc2; rfl; exact kc2; rfl; exact ke5; exact ke6)
            | (apply o_val; exact kc0; exact kc2)
            | apply w_skip
            | apply w_ret
            | apply w_exit
            | apply t_exit
            | apply b_here
            | (apply w_false; exact kc3)
            | fail)
          · apply f_retf
            · simp [*]; rfl
            · simp
            · simp
        | some t =>
          have hf0 := hfo t rfl
          have a5 := Form_ok (m := m) t (by omega)
          simp only [rfD] at *
          obtain ⟨cs, hcs⟩ := isRT_ex t
          have hft := rtD_flat t
          rw [show rtrD t = .box cs from hcs] at *
          generalize formS t = sf at *
          clear hcs hfo
          repeat' (first
            | apply w_seq
            | apply w_region
            | apply o_end
            | apply t_normal
            | (apply o_cat; exact kc0; exact kc2; rfl; exact kc2; rfl; exact ke5; exact ke6)
            | (apply o_val; exact kc0; exact kc2)
            | (apply o_fn fine; exact kc0; exact kc1; exact a5; exact kc3)
            | apply w_ret
            | apply w_exit
            | apply t_exit
            | apply b_here
            | (apply w_true; exact kc3)
            | (apply w_false; exact kc3)
            | fail)
          · apply f_retf
            · simp [*]; rfl
            · simp
            · simp
  · have hb : ((wk : Int) == 0) = false := by simp; omega
    simp only [if_neg hk] at *
    cases al with
    | nil =>
      simp only [rasD, attrsR, List.map_nil, List.flatten_nil, List.append_nil] at *
      repeat' (first
        | apply w_seq
        | apply w_region
        | apply o_end
        | apply t_normal
        | (apply o_cat; exact kc0; exact kc2; rfl; exact kc2; rfl; exact ke5; exact ke6)
        | (apply o_val; exact kc0; exact kc2)
        | (apply o_boxv; exact kc0; rfl; exact kc1; (focus (intro d hd; revert hd; revert d; simp; done)))
        | (apply o_fn fine; exact kc0; exact kc1; exact a2; exact kc3)
        | apply w_block
        | (apply w_true; exact kc3)
        | (apply w_drawA; rfl; exact ke3; exact kc4; exact kc4)
        | (apply a_end; exact kc4)
        | (apply a_val; exact kc4; exact kc5; exact kd9; exact kc6)
        | (apply a_fn fine; exact kc4; exact kc5; exact kd8; exact a1; exact kc3; exact kc6)
        | (apply a_fn fine; exact kc4; exact kc5; exact kd8; exact a3; exact kc3; exact kc6)
        | (apply a_fn fine; exact kc4; exact kc5; exact kd8; exact a4; exact kc3; exact kc6)
        | fail)
      apply loop_is
      apply loop_unfold
      repeat' (first
        | apply w_seq
        | apply w_region
        | apply o_end
        | apply t_normal
        | (apply o_val; exact kc0; exact kc2)
        | apply w_exit
        | apply t_exit
        | apply b_here
        | (apply w_false; exact kc3)
        | fail)
      clear a1 a2 a3 a4
      cases form with
      | none =>
        simp only [rfD] at *
        repeat' (first
          | apply w_seq
          | apply w_region
          | apply o_end
          | apply t_normal
          | (apply o_cat; exact kc0; exact kc2; rfl; exact kc2; rfl; exact ke5; exact ke6)
          | (apply o_val; exact kc0; exact kc2)
          | apply w_skip
          | apply w_ret
          | (apply w_false; exact kc3)
          | fail)
        · apply f_retf
          · simp [*]; rfl
          · simp
          · simp
      | some t =>
        have hf0 := hfo t rfl
        have a5 := Form_ok (m := m) t (by omega)
        simp only [rfD] at *
        obtain ⟨cs, hcs⟩ := isRT_ex t
        have hft := rtD_flat t
        rw [show rtrD t = .box cs from hcs] at *
        generalize formS t = sf at *
        clear hcs hfo
        repeat' (first
          | apply w_seq
          | apply w_region
          | apply o_end
          | apply t_normal
          | (apply o_cat; exact kc0; exact kc2; rfl; exact kc2; rfl; exact ke5; exact ke6)
          | (apply o_val; exact kc0; exact kc2)
          | (apply o_fn fine; exact kc0; exact kc1; exact a5; exact kc3)
          | apply w_ret
          | (apply w_true; exact kc3)
          | fail)
        · apply f_retf
          · simp [*]; rfl
          · simp
          · simp
    | cons x0 al0 =>
      have hAD := rasD_some (l := x0 :: al0) (by simp)
      generalize x0 :: al0 = al at *
      rw [hAD] at *
      clear hAD
      have hAm := attrsR_le al
      repeat' (first
        | apply w_seq
        | apply w_region
        | apply o_end
        | apply t_normal
        | (apply o_cat; exact kc0; exact kc2; rfl; exact kc2; rfl; exact ke5; exact ke6)
        | (apply o_val; exact kc0; exact kc2)
        | (apply o_boxv; exact kc0; rfl; exact kc1; (focus (intro d hd; revert hd; revert d; simp; done)))
        | (apply o_fn fine; exact kc0; exact kc1; exact a2; exact kc3)
        | apply w_block
        | (apply w_true; exact kc3)
        | (apply w_drawA; rfl; exact ke3; exact kc4; exact kc4)
        | (apply a_end; exact kc4)
        | (apply a_val; exact kc4; exact kc5; exact kd9; exact kc6)
        | (apply a_fn fine; exact kc4; exact kc5; exact kd8; exact a1; exact kc3; exact kc6)
        | (apply a_fn fine; exact kc4; exact kc5; exact kd8; exact a3; exact kc3; exact kc6)
        | (apply a_fn fine; exact kc4; exact kc5; exact kd8; exact a4; exact kc3; exact kc6)
        | fail)
      clear a1 a2 a3 a4
      generalize hB0 : k ++ s1 ++ ([32, 97, 116] ++ s2) ++ s3 ++ s4 = B0 at *
      refine w_loop (fun n f H => ∃ (j : Nat), j ≤ al.length ∧ n = al.length - j ∧ H = [] ∧ f 1 = .box (.str k :: .int .i64 at_ :: (encT name ++ encT ⟨wk, wa, wt⟩ ++ encT caps ++ encT txt ++ [.isl 5 (al.map raC), rfD form])) ∧ f 3 = .str (B0 ++ attrsR (al.take j)) ∧ f 4 = .int .i64 j) al.length ⟨0, by simp, rfl, rfl, by simp, by simp [← hB0, attrsR], by simp⟩ ?_
      rintro n f H ⟨j, hj, rfl, rfl, g1, g3, g4⟩
      by_cases hlt : j < al.length
      · have hli : (j : Int) < al.length := by omega
        have hT := attrsR_take hlt
        have hm := hal _ (List.getElem_mem hlt)
        have aT := told_ok (m := m) al[j].t hm.2
        have hl5 := told_len hm.2
        have hAj := hAm j
        clear hAm hal hfo hB0
        rcases hxj : al[j] with ⟨ak, aa, ⟨tk, ta, tt⟩⟩
        rw [hxj] at hT aT hm hl5
        simp only at hT aT hm hl5
        generalize toldS ⟨tk, ta, tt⟩ = st at hT aT hl5
        generalize attrsR (al.take j) = P at g3 hT hAj
        have hQl : (B0 ++ P).length ≤ 100000000 := by rw [List.length_append]; omega
        have hQT : B0 ++ attrsR (al.take (j + 1)) = (B0 ++ P) ++ (32 :: 40 :: ak ++ st ++ [41]) := by rw [hT]; simp
        generalize B0 ++ P = Q at g3 hQl hQT
        have b1 : Q.length ≤ 9223372036854775805 := by omega
        have b2 : Q.length + 2 + ak.length ≤ 9223372036854775807 := by omega
        have b3 : Q.length + (ak.length + 1 + 1) + st.length ≤ 9223372036854775807 := by omega
        have b4 : Q.length + (ak.length + st.length + 1 + 1) ≤ 9223372036854775806 := by omega
        have b5 : Q.length + (ak.length + (st.length + 1 + 1)) ≤ 9223372036854775806 := by omega
        have b6 : Q.length + (ak.length + (st.length + 1 + 1)) + 1 ≤ 9223372036854775807 := by omega
        have b7 : Q.length + (ak.length + st.length + 1 + 1) + 1 ≤ 9223372036854775807 := by omega
        repeat' (first
          | apply w_seq
          | apply w_region
          | apply o_end
          | apply t_normal
          | (apply o_add; exact kc0; exact kc2; rfl; exact kc2; rfl; exact ke2)
          | (apply o_val; exact kc0; exact kc2)
          | apply w_skip
          | apply w_block
          | apply b_normal
          | (apply w_true; exact kc3)
          | (apply w_drawA; rfl; exact ke3; exact kc4; exact kc4)
          | (apply a_end; exact kc4)
          | (apply a_val; exact kc4; exact kc5; exact kd9; exact kc6)
          | (apply a_fn fine; exact kc4; exact kc5; exact kd8; exact aT; exact kc3; exact kc6)
          | fail)
        exact ⟨al.length - (j + 1), by omega, j + 1, by omega, rfl, rfl, by simp [*], by rw [hQT]; simp [*], by simp [*]⟩
      · have hli : ¬ (j : Int) < al.length := by omega
        rw [show al.take j = al from List.take_of_length_le (by omega)] at g3
        generalize attrsR al = P at g3 hA
        subst hB0
        clear hAm hal
        cases form with
        | none =>
          simp only [rfD] at *
          repeat' (first
            | apply w_seq
            | apply w_region
            | apply o_end
            | apply t_normal
            | (apply o_cat; exact kc0; exact kc2; rfl; exact kc2; rfl; exact ke5; exact ke6)
            | (apply o_val; exact kc0; exact kc2)
            | apply w_skip
            | apply w_ret
            | apply w_exit
            | apply t_exit
            | apply b_here
            | (apply w_false; exact kc3)
            | fail)
          · apply f_retf
            · simp [*]; rfl
            · simp
            · simp
        | some t =>
          have hf0 := hfo t rfl
          have a5 := Form_ok (m := m) t (by omega)
          simp only [rfD] at *
          obtain ⟨cs, hcs⟩ := isRT_ex t
          have hft := rtD_flat t
          rw [show rtrD t = .box cs from hcs] at *
          generalize formS t = sf at *
          clear hcs hfo
          repeat' (first
            | apply w_seq
            | apply w_region
            | apply o_end
            | apply t_normal
            | (apply o_cat; exact kc0; exact kc2; rfl; exact kc2; rfl; exact ke5; exact ke6)
            | (apply o_val; exact kc0; exact kc2)
            | (apply o_fn fine; exact kc0; exact kc1; exact a5; exact kc3)
            | apply w_ret
            | apply w_exit
            | apply t_exit
            | apply b_here
            | (apply w_true; exact kc3)
            | (apply w_false; exact kc3)
            | fail)
          · apply f_retf
            · simp [*]; rfl
            · simp
            · simp
end Go.Proofs.Ytknkkfdkcemolaa.Vm
end
section
/- The document's reader: how long what it reads may be. -/
set_option linter.unusedSimpArgs false
set_option linter.unusedVariables false
set_option maxRecDepth 100000
set_option maxHeartbeats 4000000
namespace Go.Proofs.Ytknkkfdkcemolaa.Vm
open Go
variable {m : Int}

/-- All tokens that are left are short. -/
def Sh (s : PS) : Prop := ∀ t, t ∈ s.2.1 → t.text.length ≤ 8000
theorem sh_next {s : PS} (h : Sh s) : Sh (rNext s) := by
  obtain ⟨pre, r, b⟩ := s
  cases r with
  | nil => exact h
  | cons t r => exact fun x hx => h x (List.mem_cons_of_mem _ hx)
theorem sh_fail {s : PS} (h : Sh s) : Sh (rFail s) := by
  unfold Sh
  rw [(rfail_all s).2]
  exact h
theorem sh_need {x : List UInt8} {s : PS} (h : Sh s) : Sh (rNeed x s) := by
  unfold rNeed
  split
  · exact sh_next h
  · exact sh_fail h
theorem sh_kind {k : Nat} {s : PS} (h : Sh s) : (rKind k s).1.text.length ≤ 8000 ∧ Sh (rKind k s).2 := by
  obtain ⟨pre, r, b⟩ := s
  cases b with
  | some b => exact ⟨by simp [rKind, zeroTok], h⟩
  | none => cases r with
    | nil => exact ⟨by simp [rKind, zeroTok], h⟩
    | cons t r =>
      simp only [rKind]
      split
      · exact ⟨h t (List.mem_cons_self ..), fun x hx => h x (List.mem_cons_of_mem _ hx)⟩
      · exact ⟨by simp [zeroTok], h⟩
/-- A reading of a formula answers a short one. -/
def Short (next : PS → RT × PS) : Prop := ∀ s, Sh s → (formS (next s).1).length + 7 + 9000 * (next s).2.2.1.length ≤ 9000 * s.2.1.length + 9000 ∧ Sh (next s).2
theorem more_short {next : PS → RT × PS} {word : List UInt8} (hw : word.length ≤ 3) (hn : Short next) (B : Nat) : ∀ (k : Nat) (a : RT) (s : PS), Sh s → (formS a).length + 7 + 9000 * s.2.1.length ≤ B →
    (formS (rMore next word k a s).1).length + 7 + 9000 * (rMore next word k a s).2.2.1.length ≤ B ∧ Sh (rMore next word k a s).2 := by
  intro k
  induction k with
  | zero => intro a s hs hB; exact ⟨hB, hs⟩
  | succ k ih =>
    intro a s hs hB
    rw [rMore]
    split
    · rename_i hi
      have h1 := hn (rNext s) (sh_next hs)
      have h2 := ris_len hi
      refine ih _ _ h1.2 ?_
      simp only [formS, List.length_append, List.length_cons, List.length_nil]
      omega
    · exact ⟨hB, hs⟩
theorem leaf_short {w : List UInt8} (hw : w.length ≤ 10) {s : PS} (hs : Sh s) (hi : rIs w s = true) : (formS (rLeaf w s).1).length + 7 + 9000 * (rLeaf w s).2.2.1.length ≤ 9000 * s.2.1.length + 9000 ∧ Sh (rLeaf w s).2 := by
  have h1 := sh_kind (k := 1) (sh_next hs)
  have h2 := ris_len hi
  have h3 := rkind_len 1 (rNext s)
  refine ⟨?_, h1.2⟩
  show (formS (.leaf w (rKind 1 (rNext s)).1.text (rKind 1 (rNext s)).1.at_)).length + 7 + 9000 * (rKind 1 (rNext s)).2.2.1.length ≤ _
  have h4 := h1.1
  simp only [formS]
  split <;> simp only [List.length_append, List.length_cons, List.length_nil] <;> omega
theorem form_short : ∀ (n l : Nat), Short (rForm n l) := by
  intro n
  induction n with
  | zero => intro l s hs; cases l <;> exact ⟨by simp [rForm, formS]; omega, hs⟩
  | succ n ih =>
    intro l s hs
    have more : ∀ l (word : List UInt8), word.length ≤ 3 → (formS (rMore (rForm n l) word ((rForm n l s).2.2.1.length + 1) (rForm n l s).1 (rForm n l s).2).1).length + 7 + 9000 * (rMore (rForm n l) word ((rForm n l s).2.2.1.length + 1) (rForm n l s).1 (rForm n l s).2).2.2.1.length ≤ 9000 * s.2.1.length + 9000 ∧
        Sh (rMore (rForm n l) word ((rForm n l s).2.2.1.length + 1) (rForm n l s).1 (rForm n l s).2).2 := fun l word hw =>
      more_short hw (ih l) _ _ _ _ (ih l s hs).2 (ih l s hs).1
    have fac : (formS (rForm (n + 1) 0 s).1).length + 7 + 9000 * (rForm (n + 1) 0 s).2.2.1.length ≤ 9000 * s.2.1.length + 9000 ∧ Sh (rForm (n + 1) 0 s).2 := by
      rw [rForm]
      case x_4 => decide
      case x_5 => decide
      split
      · rename_i hi
        have h1 := ih 0 (rNext s) (sh_next hs)
        have h2 := ris_len hi
        refine ⟨?_, h1.2⟩
        simp only [formS, List.length_append, List.length_cons, List.length_nil]
        omega
      split
      · rename_i hi
        have h1 := ih 2 (rNext s) (sh_next hs)
        have h2 := ris_len hi
        have h3 := rneed_len [41] (rForm n 2 (rNext s)).2
        refine ⟨?_, sh_need h1.2⟩
        show (formS (rForm n 2 (rNext s)).1).length + 7 + 9000 * (rNeed [41] (rForm n 2 (rNext s)).2).2.1.length ≤ _
        omega
      repeat (split; rename_i hi; exact leaf_short (by decide) hs hi)
      refine ⟨?_, sh_fail hs⟩
      have h1 := congrArg List.length (rfail_all s).2
      show (formS (.leaf [] [] 0)).length + 7 + 9000 * (rFail s).2.1.length ≤ _
      rw [h1]
      simp only [formS, if_true, List.length_append, List.length_cons, List.length_nil]
      omega
    match l with
    | 0 => exact fac
    | 1 => exact more 0 _ (by decide)
    | 2 => exact more 1 _ (by decide)
    | l + 3 => exact fac
theorem arg_short {t : Tok} (ht : t.text.length ≤ 8000) (k : Nat) {s : PS} (h : Sh s) : (rArg t k s).1.k.length ≤ 8000 ∧ (rArg t k s).1.t.text.length ≤ 8000 ∧ Sh (rArg t k s).2 :=
  ⟨ht, (sh_kind h).1, (sh_kind h).2⟩
theorem attr_short {s : PS} (h : Sh s) : (rAttr s).1.k.length ≤ 8000 ∧ (rAttr s).1.t.text.length ≤ 8000 ∧ Sh (rAttr s).2 := by
  unfold rAttr
  split
  · exact ⟨by simp, by simp [zeroTok], sh_fail h⟩
  · rename_i t _ he
    have ht : t.text.length ≤ 8000 := h t (by rw [he]; exact List.mem_cons_self ..)
    have hn := sh_next h
    have hz : zeroTok.text.length ≤ 8000 := by simp [zeroTok]
    show (fun x : RA × PS => x.1.k.length ≤ 8000 ∧ x.1.t.text.length ≤ 8000 ∧ Sh x.2) (rAttrK t s)
    unfold rAttrK
    repeat (refine ite_both (p := fun x : RA × PS => x.1.k.length ≤ 8000 ∧ x.1.t.text.length ≤ 8000 ∧ Sh x.2) (fun hx => ?_) ?_; first | exact ⟨ht, hz, hn⟩ | exact arg_short ht _ hn | exact ite_both (p := fun x : RA × PS => x.1.k.length ≤ 8000 ∧ x.1.t.text.length ≤ 8000 ∧ Sh x.2) (fun _ => arg_short ht _ hn) (arg_short ht _ hn))
    exact ⟨ht, hz, sh_fail h⟩
theorem attrs_short : ∀ (k : Nat) (out : List RA) (s : PS), Sh s → (∀ a, a ∈ out → a.k.length ≤ 8000 ∧ a.t.text.length ≤ 8000) →
    (∀ a, a ∈ (rAttrs k out s).1 → a.k.length ≤ 8000 ∧ a.t.text.length ≤ 8000) ∧ Sh (rAttrs k out s).2 ∧ (rAttrs k out s).1.length + mu (rAttrs k out s).2 ≤ out.length + mu s := by
  intro k
  induction k with
  | zero => intro out s hs ho; exact ⟨ho, hs, Nat.le_refl _⟩
  | succ k ih =>
    intro out s hs ho
    rw [rAttrs]
    split
    · rename_i h
      have h0 : s.2.2.isNone = true := by
        simp only [Bool.and_eq_true] at h
        exact h.1
      have h1 := attr_short hs
      have h2 := rattr_mu h0
      have h3 := rneed_mu [59] (rAttr s).2
      have h4 := ih (out ++ [(rAttr s).1]) (rNeed [59] (rAttr s).2) (sh_need h1.2.2) (fun a ha => by
        rcases List.mem_append.1 ha with ha | ha
        · exact ho a ha
        · obtain rfl := List.mem_singleton.1 ha
          exact ⟨h1.1, h1.2.1⟩)
      refine ⟨h4.1, h4.2.1, ?_⟩
      have h5 := h4.2.2
      simp only [List.length_append, List.length_cons, List.length_nil] at h5
      omega
    · exact ⟨ho, hs, Nat.le_refl _⟩
theorem item_short {s : PS} (h : Sh s) (hne : s.2.1 ≠ []) (hm : s.2.1.length ≤ 2000) : ShortI (rItem s).1 ∧ Sh (rItem s).2 := by
  obtain ⟨pre, ts, bb⟩ := s
  cases ts with
  | nil => exact absurd rfl hne
  | cons t r =>
    have ht : t.text.length ≤ 8000 := h t (List.mem_cons_self ..)
    generalize hS : ((pre, t :: r, bb) : PS) = s at *
    have hr : rItem s = rItemK t s := by rw [← hS]; rfl
    rw [hr]
    have hz : zeroTok.text.length ≤ 8000 := by simp [zeroTok]
    have ha : ∀ a, a ∈ ([] : List RA) → a.k.length ≤ 8000 ∧ a.t.text.length ≤ 8000 := fun a ha => by cases ha
    have hf : ∀ u, (none : Option RT) = some u → (formS u).length ≤ 100000000 := fun u hu => by cases hu
    have hn := sh_next h
    unfold rItemK
    split
    · unfold r_origin
      have h1 := sh_kind (k := 1) hn
      have h2 := sh_kind (k := 3) h1.2
      exact ⟨⟨ht, h1.1, hz, hz, h2.1, ha, by simp, hf⟩, sh_need h2.2⟩
    split
    · unfold r_cookie
      have h1 := sh_kind (k := 1) hn
      have h2 := sh_kind (k := 1) (sh_need (x := [97, 116]) h1.2)
      have h3 := sh_kind (k := 3) h2.2
      exact ⟨⟨ht, h1.1, h2.1, hz, h3.1, ha, by simp, hf⟩, sh_need h3.2⟩
    split
    · unfold r_secret
      have h1 := sh_kind (k := 1) hn
      exact ⟨⟨ht, h1.1, hz, hz, hz, ha, by simp, hf⟩, sh_need h1.2⟩
    split
    · unfold r_network
      exact ⟨⟨ht, hz, hz, hz, hz, ha, by simp, hf⟩, sh_need hn⟩
    split
    · rename_i hi
      have hl := ris_len hi
      unfold r_endpoint
      have h1 := sh_kind (k := 1) hn
      have h2 := sh_kind (k := 1) (sh_need (x := [97, 116]) h1.2)
      have h3 := sh_kind (k := 5) h2.2
      have h4 := sh_kind (k := 3) h3.2
      have h5 := sh_need (x := [123]) h4.2
      generalize hs6 : rNeed [123] (rKind 3 (rKind 5 (rKind 1 (rNeed [97, 116] (rKind 1 (rNext s)).2)).2).2).2 = s6 at h5 ⊢
      have h6 : s6.2.1.length ≤ (rNext s).2.1.length := by
        rw [← hs6]
        exact Nat.le_trans (rneed_len _ _) (Nat.le_trans (rkind_len _ _) (Nat.le_trans (rkind_len _ _) (Nat.le_trans (rkind_len _ _) (Nat.le_trans (rneed_len _ _) (rkind_len _ _)))))
      have h7 := attrs_short (s6.2.1.length + 2) [] s6 h5 ha
      have h8 := mu_le s6
      have h9 := h7.2.2
      simp only [List.length_nil] at h9
      exact ⟨⟨ht, h1.1, h2.1, h3.1, h4.1, h7.1, by
        show (rAttrs (s6.2.1.length + 2) [] s6).1.length ≤ 2000
        omega, hf⟩, sh_need h7.2.1⟩
    split
    · rename_i hi
      have hl := ris_len hi
      unfold r_property
      have h1 := sh_kind (k := 1) hn
      have h2 := sh_need (x := [61]) h1.2
      have h3 := form_short (3 * (rNeed [61] (rKind 1 (rNext s)).2).2.1.length + 3) 2 _ h2
      have h4 : (rNeed [61] (rKind 1 (rNext s)).2).2.1.length ≤ (rNext s).2.1.length := Nat.le_trans (rneed_len _ _) (rkind_len _ _)
      refine ⟨⟨ht, h1.1, hz, hz, hz, ha, by simp, fun u hu => ?_⟩, sh_need h3.2⟩
      obtain rfl := Option.some.inj hu
      have h5 := h3.1
      show (formS (rForm (3 * (rNeed [61] (rKind 1 (rNext s)).2).2.1.length + 3) 2 (rNeed [61] (rKind 1 (rNext s)).2)).1).length ≤ _
      omega
    · exact ⟨⟨ht, hz, hz, hz, hz, ha, by simp, hf⟩, sh_need (sh_fail h)⟩
end Go.Proofs.Ytknkkfdkcemolaa.Vm
end
section
/- The document's reader of descriptions: all of a text. -/
set_option linter.unusedSimpArgs false
set_option linter.unusedVariables false
set_option maxRecDepth 100000
set_option maxHeartbeats 4000000
namespace Go.Proofs.Ytknkkfdkcemolaa.Vm
open Go
variable {m : Int}
attribute [local irreducible] wpD opsD thenD blockD planD planA LoopD
attribute [local simp] List.take_of_length_le List.drop_of_length_le bne mvD codeO atO

def risD : List RI → D
  | [] => .nilsl
  | a :: l => .isl 16 ((a :: l).map riC)
theorem risD_some {l : List RI} (h : l ≠ []) : risD l = .isl 16 (l.map riC) := by cases l with
  | nil => exact absurd rfl h
  | cons a l => rfl
theorem riC_flat (i : RI) : ∀ d, d ∈ riC i → Flat d := by
  intro d hd
  simp only [riC, List.mem_append, List.mem_cons, List.not_mem_nil, or_false] at hd
  rcases hd with (((((rfl | rfl) | hd) | hd) | hd) | hd) | rfl | rfl
  · exact .str _
  · exact .int _ _
  all_goals first | exact flat_rasD _ | exact flat_rfD _ | (rcases hd with rfl | rfl | rfl <;> first | exact .int _ _ | exact .str _)
abbrev pB (s : PS) : Blk := .cells 0 4 false [[tokL (s.1 ++ s.2.1), .int .i64 s.1.length, .int .i64 (codeO s.2.2), .int .i64 (atO s.2.2)]]
abbrev zB : Blk := .cells 0 2 false [[.int .i64 0, .int .i64 0]]
abbrev eB (a : Nat) : Blk := .cells 0 2 false [[.int .i64 0, .int .i64 a]]
theorem amid2 (a : Nat) {g : FuncId} {d : D} {s s' : PS} (h : CallsV (L m) g [pR] (pH s) (Turns d (pH s'))) (hd : Flat d) : CallsV (L m) g [.ref 2 0 0 0] [zB, eB a, pB s] (Turns d [zB, eB a, pB s']) := by
  have := h.amid fine rfl (by intro a ha; obtain rfl := List.mem_singleton.1 ha; simp) (by
    intro k hk
    obtain rfl := List.mem_singleton.1 hk
    simp) (by
    intro k hk
    obtain rfl := List.mem_singleton.1 hk
    simp) (.flat hd) [zB, eB a] []
  simpa [rn] using this
theorem rread_bad (s : List UInt8) (hs : s.length < 1000000) (h : (toks s).2.1 ≠ 0) : Ans (L m) 12 [.str s] (.tuple [.nilsl, wrD (toks s).2.1 (toks s).2.2]) := by
  refine fn_of_body L_ok (fn := Try.f12) rfl rfl rfl rfl (by kernel_rfl) ?_
  have a1 := rTokens_ok (m := m) s hs
  generalize toks s = x at a1 h
  obtain ⟨ts, c, a⟩ := x
  simp only at h
  have hb : ((c : Int) == 0) = false := by simp; omega
  simp only [toksD] at a1
  repeat' (first
    | apply w_seq
    | apply w_region
    | apply o_end
    | apply t_normal
    | (apply o_val; exact kc0; exact kc2)
    | (apply o_fn fine; exact kc0; exact kc1; exact a1; exact kc3)
    | (apply o_mem; exact kc0; rfl; exact kc1)
    | apply w_ret
    | apply t_ret
    | (apply w_true; exact kc3)
    | (apply w_drawN; rfl; exact ke3; exact kc4)
    | (apply a_end; exact kc4)
    | (apply a_val; exact kc4; exact kc5; exact kd9; exact kc6)
    | (apply a_tie; exact kc4; exact kc5; exact ke0; exact kc7; exact kc6; exact kc4)
    | (apply a_mem; exact kc4; exact kc5; exact ke1; exact kd8; exact kc7; exact kc6; exact kc4)
    | fail)
  · apply f_retf
    · simp [*]; rfl
    · simp
    · rfl
theorem rread_items (s : List UInt8) (hs : s.length < 1000000) (h : (toks s).2.1 = 0) : Ans (L m) 12 [.str s] (.tuple [risD (readR s).1, .agg [.int .i64 (readR s).2.1, .int .i64 (readR s).2.2]]) := by
  refine fn_of_body L_ok (fn := Try.f12) rfl rfl rfl rfl (by kernel_rfl) ?_
  have hall := toks_all s
  have a1 := rTokens_ok (m := m) s hs
  unfold readR
  generalize toks s = x at a1 h hall ⊢
  obtain ⟨ts, c, a⟩ := x
  simp only at h hall
  subst h
  simp only [toksD] at a1
  simp only [ne_eq, not_true_eq_false, if_false]
  generalize hE : rItems (ts.length + 2) [] ([], ts, none) = E
  repeat' (first
    | apply w_seq
    | apply w_region
    | apply o_end
    | apply t_normal
    | (apply o_val; exact kc0; exact kc2)
    | (apply o_fn fine; exact kc0; exact kc1; exact a1; exact kc3)
    | (apply o_mem; exact kc0; rfl; exact kc1)
    | apply w_skip
    | apply w_block
    | (apply w_false; exact kc3)
    | fail)
  clear a1
  have hts := hall.1
  have hall2 := hall.2
  clear hall
  refine w_loopT (fun n f H => ∃ (out : List RI) (st : PS) (A : D), Few st ∧ (Sh st ∧ ∀ i, i ∈ out → ShortI i) ∧ mu st < n ∧ out.length + mu st ≤ 2001 ∧ rItems n out st = E ∧ f 0 = .str s ∧ f 3 = .ref 0 0 0 0 ∧ f 6 = .ref 2 0 0 0 ∧ f 7 = A ∧
      ((out = [] ∧ A = .nilsl ∧ H = [zB, eB a, pB st]) ∨ (out ≠ [] ∧ ∃ g, A = .slice 3 0 out.length g ∧ H = [zB, eB a, pB st, .cells g 16 false (out.map riC)]))) (ts.length + 2)
      ⟨[], ([], ts, none), .nilsl, by simp [Few]; omega, ⟨hall2, by simp⟩, by simp [mu], by simp [mu]; omega, hE, by simp, by simp, by simp, by simp, .inl ⟨rfl, rfl, by simp⟩⟩ ?_
  clear hE hts hall2
  rintro n f H ⟨out, st, A, hf, ⟨hsh, hso⟩, hlt, hol, hE, g0, g3, g6, g7, hor⟩
  obtain ⟨k, rfl⟩ : ∃ k, n = k + 1 := ⟨n - 1, by omega⟩
  have hb1 : (out.length + 1) * 184 ≤ 140737488355328 := by omega
  have hb2 : out.length ≤ 140737488355327 := by omega
  rw [rItems] at hE
  have z1 := amid2 (m := m) a (rok_ok (m := m) st) (by simp)
  cases hn : st.2.2 with
  | some b =>
    rw [hn] at hE z1
    simp only [Option.isNone_some, Bool.false_and, Bool.false_eq_true, if_false] at hE
    subst hE
    simp only [hn]
    rcases hor with ⟨rfl, rfl, rfl⟩ | ⟨hne, g, rfl, rfl⟩
    · skip
      repeat' (first
        | apply w_seq
        | apply w_region
        | apply o_end
        | apply t_normal
        | (apply o_val; exact kc0; exact kc2)
        | (apply o_beside fine; exact kc0; exact kc1; exact z1; rfl; rfl; exact kd5; exact kd3)
        | (apply o_mem; exact kc0; rfl; exact kc1)
        | apply w_skip
        | apply w_ret
        | apply t_ret
        | apply w_exit
        | apply t_exit
        | apply b_here
        | (apply w_true; exact kc3)
        | (apply w_false; exact kc3)
        | ((apply w_cond; exact kc2; rfl) <;> (intro hc; have hc' := hc; try simp at hc'))
        | (apply w_drawA; rfl; exact ke3; exact kc4; exact kc4)
        | (apply w_drawN; rfl; exact ke3; exact kc4)
        | (apply a_end; exact kc4)
        | (apply a_val; exact kc4; exact kc5; exact kd9; exact kc6)
        | (apply a_besideG fine; exact kc4; exact kc5; exact kd8; exact z1; rfl; rfl; exact kd5; exact kd3; exact kc7; exact kc8; exact kc6; exact kc4)
        | (apply a_tie; exact kc4; exact kc5; exact ke0; exact kc7; exact kc6; exact kc4)
        | (apply a_no; exact kc4; exact ke8; exact kc6)
        | (apply a_mem; exact kc4; exact kc5; exact ke1; exact kd8; exact kc7; exact kc6; exact kc4)
        | fail)
      all_goals (apply f_retf; (focus (simp [*]; rfl)); (focus (simp [risD]; done)); (focus (simp [*, risD]; try (intros; omega))))
    · skip
      repeat' (first
        | apply w_seq
        | apply w_region
        | apply o_end
        | apply t_normal
        | (apply o_val; exact kc0; exact kc2)
        | (apply o_beside fine; exact kc0; exact kc1; exact z1; rfl; rfl; exact kd5; exact kd3)
        | (apply o_mem; exact kc0; rfl; exact kc1)
        | apply w_skip
        | apply w_ret
        | apply t_ret
        | apply w_exit
        | apply t_exit
        | apply b_here
        | (apply w_true; exact kc3)
        | (apply w_false; exact kc3)
        | ((apply w_cond; exact kc2; rfl) <;> (intro hc; have hc' := hc; try simp at hc'))
        | (apply w_drawA; rfl; exact ke3; exact kc4; exact kc4)
        | (apply w_drawN; rfl; exact ke3; exact kc4)
        | (apply a_end; exact kc4)
        | (apply a_val; exact kc4; exact kc5; exact kd9; exact kc6)
        | (apply a_besideG fine; exact kc4; exact kc5; exact kd8; exact z1; rfl; rfl; exact kd5; exact kd3; exact kc7; exact kc8; exact kc6; exact kc4)
        | (apply a_tie; exact kc4; exact kc5; exact ke0; exact kc7; exact kc6; exact kc4)
        | (apply a_no; exact kc4; exact ke8; exact kc6)
        | (apply a_mem; exact kc4; exact kc5; exact ke1; exact kd8; exact kc7; exact kc6; exact kc4)
        | fail)
      all_goals (apply f_retf; (focus (simp [*]; rfl)); (focus (simp [risD]; done)); (focus (simp [*, risD]; try (intros; omega))))
  | none =>
    rw [hn] at z1 hE
    simp only [Option.isNone_none, Bool.true_and] at hE z1
    obtain ⟨pre, r, bb⟩ := st
    simp only at hn hE
    subst hn
    cases r with
    | nil =>
      simp only [List.isEmpty_nil, Bool.not_true, Bool.false_eq_true, if_false] at hE
      subst hE
      simp only
      rcases hor with ⟨rfl, rfl, rfl⟩ | ⟨hne, g, rfl, rfl⟩
      · skip
        repeat' (first
          | apply w_seq
          | apply w_region
          | apply o_end
          | apply t_normal
          | (apply o_val; exact kc0; exact kc2)
          | (apply o_beside fine; exact kc0; exact kc1; exact z1; rfl; rfl; exact kd5; exact kd3)
          | apply w_skip
          | apply w_block
          | apply w_exit
          | apply t_exit
          | apply b_here
          | (apply w_false; exact kc3)
          | (apply w_drawA; rfl; exact ke3; exact kc4; exact kc4)
          | (apply a_end; exact kc4)
          | (apply a_val; exact kc4; exact kc5; exact kd9; exact kc6)
          | (apply a_besideG fine; exact kc4; exact kc5; exact kd8; exact z1; rfl; rfl; exact kd5; exact kd3; exact kc7; exact kc8; exact kc6; exact kc4)
          | (apply a_tie; exact kc4; exact kc5; exact ke0; exact kc7; exact kc6; exact kc4)
          | fail)
        apply loop_is
        apply loop_unfold
        repeat' (first
          | apply w_seq
          | apply w_region
          | apply o_end
          | apply t_normal
          | (apply o_val; exact kc0; exact kc2)
          | (apply o_mem; exact kc0; rfl; exact kc1)
          | apply w_ret
          | apply w_exit
          | apply t_exit
          | apply b_here
          | (apply w_false; exact kc3)
          | fail)
        apply f_retf
        · simp [*]; rfl
        · simp [risD]
        · simp [risD, deepR]
      · skip
        repeat' (first
          | apply w_seq
          | apply w_region
          | apply o_end
          | apply t_normal
          | (apply o_val; exact kc0; exact kc2)
          | (apply o_beside fine; exact kc0; exact kc1; exact z1; rfl; rfl; exact kd5; exact kd3)
          | apply w_skip
          | apply w_block
          | apply w_exit
          | apply t_exit
          | apply b_here
          | (apply w_false; exact kc3)
          | (apply w_drawA; rfl; exact ke3; exact kc4; exact kc4)
          | (apply a_end; exact kc4)
          | (apply a_val; exact kc4; exact kc5; exact kd9; exact kc6)
          | (apply a_besideG fine; exact kc4; exact kc5; exact kd8; exact z1; rfl; rfl; exact kd5; exact kd3; exact kc7; exact kc8; exact kc6; exact kc4)
          | (apply a_tie; exact kc4; exact kc5; exact ke0; exact kc7; exact kc6; exact kc4)
          | fail)
        clear z1
        refine w_loop (fun n f H => ∃ (j : Nat), j ≤ out.length ∧ n = out.length - j ∧ H = [zB, eB a, pB (pre, [], none), .cells g 16 false (out.map riC)] ∧ deepR (out.take j) = false ∧ f 3 = .ref 0 0 0 0 ∧ f 7 = .slice 3 0 out.length g ∧ f 8 = .int .i64 j) out.length ⟨0, by simp, rfl, rfl, by simp [deepR], by simp [*], by simp [*], by simp⟩ ?_
        clear g0 g3 g6 g7
        rintro n f H ⟨j, hj, rfl, rfl, hdp, g3, g7, g8⟩
        by_cases hjl : j < out.length
        · have hji : (j : Int) < out.length := by omega
          have hT : deepR (out.take (j + 1)) = (deepR (out.take j) || deepR [out[j]]) := by
            unfold deepR
            rw [List.take_succ_eq_append_getElem hjl, List.any_append]
          have hO : deepR (out.take (j + 1)) = true → deepR out = true := fun h => by
            rw [← List.take_append_drop (j + 1) out]
            unfold deepR at h ⊢
            rw [List.any_append, h, Bool.true_or]
          have hsj := (hso _ (List.getElem_mem hjl)).form
          have hwj : IntKind.i64.wrap ((j : Int) + 1) = (j : Int) + 1 := wrap_i64 (by omega) (by omega)
          clear hso hsh hf hol hlt hb1
          rcases hxj : out[j] with ⟨k1, at1, nm, wh, cp, tx, al, form⟩
          rw [hxj] at hT hsj
          simp only at hsj
          cases form with
          | none =>
            have hT2 : deepR (out.take (j + 1)) = false := by rw [hT, hdp]; rfl
            have hrf : rfD none = .nilptr := rfl
            clear hT hO hsj hdp
            repeat' (first
              | apply w_seq
              | apply w_region
              | apply o_end
              | apply t_normal
              | (apply o_add; exact kc0; exact kc2; rfl; exact kc2; rfl; exact ke2)
              | (apply o_val; exact kc0; exact kc2)
              | apply w_skip
              | apply w_block
              | apply b_normal
              | (apply w_true; exact kc3)
              | (apply w_false; exact kc3)
              | (apply o_no; exact ke7)
              | fail)
            exact ⟨out.length - (j + 1), by omega, j + 1, by omega, rfl, rfl, hT2, by simp [*], by simp [*], by simp [*]⟩
          | some t =>
            have hft0 := hsj t rfl
            have a5 := Form_ok (m := m) t (by omega)
            have a6 := deep_ok (m := m) (formS t) (by omega)
            have hD : deepR [⟨k1, at1, nm, wh, cp, tx, al, some t⟩] = decide (16 < deepF (formS t) 0 0) := by simp [deepR]
            rw [hD] at hT
            clear hD hsj
            have hrf : rfD (some t) = rtrD t := rfl
            obtain ⟨cs, hcs⟩ := isRT_ex t
            have hft := rtD_flat t
            rw [show rtrD t = .box cs from hcs] at a5 hft hrf
            generalize formS t = sf at a5 a6 hT hft0
            generalize deepF sf 0 0 = dd at a6 hT
            clear hcs
            by_cases h16 : 16 < dd
            · have hdo : deepR out = true := hO (by rw [hT]; simp [h16])
              clear hT hO hdp
              repeat' (first
                | apply w_seq
                | apply w_region
                | apply o_end
                | apply t_normal
                | (apply o_val; exact kc0; exact kc2)
                | (apply o_fn fine; exact kc0; exact kc1; exact a5; exact kc3)
                | (apply o_fn fine; exact kc0; exact kc1; exact a6; exact kc3)
                | (apply o_mem; exact kc0; rfl; exact kc1)
                | apply w_skip
                | apply w_block
                | apply w_ret
                | apply t_ret
                | apply b_ret
                | (apply w_true; exact kc3)
                | fail)
              apply f_retf
              · simp [*]; rfl
              · simp [risD]
              · simp [risD, *]
            · have hT2 : deepR (out.take (j + 1)) = false := by rw [hT, hdp]; simp [h16]
              clear hT hO hdp
              repeat' (first
                | apply w_seq
                | apply w_region
                | apply o_end
                | apply t_normal
                | (apply o_add; exact kc0; exact kc2; rfl; exact kc2; rfl; exact ke2)
                | (apply o_val; exact kc0; exact kc2)
                | (apply o_fn fine; exact kc0; exact kc1; exact a5; exact kc3)
                | (apply o_fn fine; exact kc0; exact kc1; exact a6; exact kc3)
                | apply w_skip
                | apply w_block
                | apply b_normal
                | (apply w_true; exact kc3)
                | (apply w_false; exact kc3)
                | fail)
              exact ⟨out.length - (j + 1), by omega, j + 1, by omega, rfl, rfl, hT2, by simp [*], by simp [*], by simp [*]⟩
        · have hji : ¬ (j : Int) < out.length := by omega
          rw [show out.take j = out from List.take_of_length_le (by omega)] at hdp
          repeat' (first
            | apply w_seq
            | apply w_region
            | apply o_end
            | apply t_normal
            | (apply o_val; exact kc0; exact kc2)
            | (apply o_mem; exact kc0; rfl; exact kc1)
            | apply w_ret
            | apply w_exit
            | apply t_exit
            | apply b_here
            | (apply w_false; exact kc3)
            | fail)
          simp only [hdp, Bool.false_eq_true, if_false]
          apply f_ret
          · simp [*]; rfl
          · rw [risD_some hne]
            exact .tupleL ⟨.slice_flat trivial rfl (by simp) (by simp) (fun y hy d hd => by
              obtain ⟨z, _, rfl⟩ := List.mem_map.1 hy
              exact riC_flat _ _ hd), .flat (by simp), trivial⟩
    | cons t r =>
      simp only [List.isEmpty_cons, Bool.not_false, if_true] at hE
      have z2 := amid2 (m := m) a (ritem_ok (m := m) (pre, t :: r, none) hf (by simp)) (by rw [flat_agg]; exact riC_flat _)
      obtain ⟨q1, q2⟩ := ritem_facts (pre, t :: r, none) (by simp)
      have q3 := q2 rfl
      have hf2 := few_of hf q1
      have hrm : (t :: r).length ≤ 2000 := by
        have : mu (pre, t :: r, none) = (t :: r).length + 1 := rfl
        omega
      have hsi := item_short hsh (by simp) hrm
      have hpos : (0 : Int) < (r.length : Int) + 1 := by omega
      have hpos2 : (pre.length : Int) < (pre.length : Int) + ((r.length : Int) + 1) := by omega
      generalize rItem (pre, t :: r, none) = y at z2 hE q3 hf2 hsi
      obtain ⟨i, st2⟩ := y
      simp only at z2 hE q3 hf2 hsi
      obtain ⟨hs1, hs2⟩ := hsi
      have hso2 : ∀ j, j ∈ out ++ [i] → ShortI j := fun j hj => by
        rcases List.mem_append.1 hj with hj | hj
        · exact hso j hj
        · obtain rfl := List.mem_singleton.1 hj
          exact hs1
      clear q1 q2 hf hso hsh hs1 hrm
      rcases hor with ⟨rfl, rfl, rfl⟩ | ⟨hne, g, rfl, rfl⟩
      · skip
        repeat' (first
          | apply w_seq
          | apply w_region
          | apply o_end
          | apply t_normal
          | (apply o_val; exact kc0; exact kc2)
          | (apply o_frz (op := Op.buildSlice _ _ _); exact kc0; rfl; exact kc1; (focus (simp; done)); exact kd7)
          | (apply o_beside fine; exact kc0; exact kc1; exact z2; rfl; rfl; exact kd5; exact kd3)
          | (apply o_mem; exact kc0; rfl; exact kc1)
          | apply w_skip
          | apply w_block
          | apply b_normal
          | (apply w_true; exact kc3)
          | (apply w_drawA; rfl; exact ke3; exact kc4; exact kc4)
          | (apply a_end; exact kc4)
          | (apply a_val; exact kc4; exact kc5; exact kd9; exact kc6)
          | (apply a_besideG fine; exact kc4; exact kc5; exact kd8; exact z1; rfl; rfl; exact kd5; exact kd3; exact kc7; exact kc8; exact kc6; exact kc4)
          | (apply a_tie; exact kc4; exact kc5; exact ke0; exact kc7; exact kc6; exact kc4)
          | fail)
        refine ⟨k, by omega, [zB, eB a, pB st2] ++ [.cells 1 16 false (([i]).map riC)], 4, [(0, .str s), (3, .ref 0 0 0 0), (6, .ref 2 0 0 0), (7, .slice 3 0 ([i]).length 1)], by simp, ?_, by simp, ?_, ?_, [i], st2, .slice 3 0 ([i]).length 1, hf2, ⟨hs2, hso2⟩, by omega, by simp at hol ⊢; omega, hE, by simp [lookF], by simp [lookF], by simp [lookF], by simp [lookF], .inr ⟨by simp, 1, rfl, rfl⟩⟩
        · simp; done
        · intro b hb
          simp only [List.mem_cons, List.not_mem_nil, or_false, List.cons_append, List.nil_append] at hb
          rcases hb with rfl | rfl | rfl | rfl
          all_goals first | (simp; done) | (intro x hx d hd; obtain ⟨y, _, rfl⟩ := List.mem_map.1 hx; exact Under.flat (riC_flat _ _ hd))
        · intro p hp
          simp only [List.mem_cons, List.not_mem_nil, or_false] at hp
          rcases hp with rfl | rfl | rfl | rfl
          all_goals exact .inl ⟨by simp [*], by simp⟩
      · skip
        repeat' (first
          | apply w_seq
          | apply w_region
          | apply o_end
          | apply t_normal
          | (apply o_val; exact kc0; exact kc2)
          | (apply o_frz (op := Op.buildSlice _ _ _); exact kc0; rfl; exact kc1; (focus (simp; done)); exact kd7)
          | (apply o_beside fine; exact kc0; exact kc1; exact z2; rfl; rfl; exact kd5; exact kd3)
          | (apply o_mem; exact kc0; rfl; exact kc1)
          | apply w_skip
          | apply w_block
          | apply b_normal
          | (apply w_true; exact kc3)
          | (apply w_drawA; rfl; exact ke3; exact kc4; exact kc4)
          | (apply a_end; exact kc4)
          | (apply a_val; exact kc4; exact kc5; exact kd9; exact kc6)
          | (apply a_besideG fine; exact kc4; exact kc5; exact kd8; exact z1; rfl; rfl; exact kd5; exact kd3; exact kc7; exact kc8; exact kc6; exact kc4)
          | (apply a_tie; exact kc4; exact kc5; exact ke0; exact kc7; exact kc6; exact kc4)
          | fail)
        refine ⟨k, by omega, [zB, eB a, pB st2] ++ [.cells (g + 1) 16 false ((out ++ [i]).map riC)], 4, [(0, .str s), (3, .ref 0 0 0 0), (6, .ref 2 0 0 0), (7, .slice 3 0 (out ++ [i]).length (g + 1))], by simp, ?_, by simp, ?_, ?_, out ++ [i], st2, .slice 3 0 (out ++ [i]).length (g + 1), hf2, ⟨hs2, hso2⟩, by omega, by simp at hol ⊢; omega, hE, by simp [lookF], by simp [lookF], by simp [lookF], by simp [lookF], .inr ⟨by simp, (g + 1), rfl, rfl⟩⟩
        · simp; done
        · intro b hb
          simp only [List.mem_cons, List.not_mem_nil, or_false, List.cons_append, List.nil_append] at hb
          rcases hb with rfl | rfl | rfl | rfl
          all_goals first | (simp; done) | (intro x hx d hd; obtain ⟨y, _, rfl⟩ := List.mem_map.1 hx; exact Under.flat (riC_flat _ _ hd))
        · intro p hp
          simp only [List.mem_cons, List.not_mem_nil, or_false] at hp
          rcases hp with rfl | rfl | rfl | rfl
          all_goals exact .inl ⟨by simp [*], by simp⟩
theorem rRead_ok (s : List UInt8) (hs : s.length < 1000000) : Ans (L m) 12 [.str s] (.tuple [risD (readR s).1, .agg [.int .i64 (readR s).2.1, .int .i64 (readR s).2.2]]) := by
  by_cases h : (toks s).2.1 = 0
  · exact rread_items s hs h
  · have := rread_bad (m := m) s hs h
    unfold readR
    rw [if_pos h]
    exact this
end Go.Proofs.Ytknkkfdkcemolaa.Vm
end
