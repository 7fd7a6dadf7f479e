/- Own texts, packed. -/
import Derived.Test.YtknkkfdkcemolaaPkeac86b
import Derived.Test.YtknkkfdkcemolaaPkb6be89
import Derived.Test.YtknkkfdkcemolaaPkb2bafd
section
/- Plain: the program's reader and the document's read the same: formulas, attributes. -/
set_option linter.unusedSimpArgs false
set_option linter.unusedVariables false
namespace Go.Proofs.Ytknkkfdkcemolaa.Vm
open Go
variable {m : Int}

def signs4 : List (List UInt8) := [[123], [125], [40], [41], [59], [61]]
/-- What tokens are like: signs, words, names. -/
def WT (t : Tok) : Prop := (t.kind = 4 → t.text ∈ signs4) ∧ (t.kind = 2 → t.text ∈ wordsL) ∧ (t.kind = 1 → t.text ≠ [] ∧ (40 : UInt8) ∉ t.text ∧ (41 : UInt8) ∉ t.text)
def badOf (e : Nat) (b : Int) : Nat := if b < 0 then e else b.toNat
theorem badOf_nat (e a : Nat) : badOf e (a : Int) = a := by
  unfold badOf
  rw [if_neg (by omega)]
  simp
theorem ris_word {x : List UInt8} (hx : x ∉ signs4) (pre : List Tok) {r : List Tok} (hr : Each WT r) : rIs x (pre, r, none) = isP 2 x r := by
  cases r with
  | nil => rfl
  | cons t r =>
    have h := (hr t (List.mem_cons_self ..)).1
    simp only [rIs, isP]
    by_cases h2 : t.kind = 2
    · simp [h2]
    · by_cases h4 : t.kind = 4
      · have : t.text ≠ x := fun he => hx (he ▸ h h4)
        simp [h4, this]
      · have e1 : ((t.kind : Int) == 4) = false := by simp; omega
        have e2 : ((t.kind : Int) == 2) = false := by simp; omega
        have e3 : ((t.kind : Int) == ((2 : Nat) : Int)) = false := by simp; omega
        rw [e1, e2, e3]; rfl
theorem ris_sign {x : List UInt8} (hx : x ∉ wordsL) (pre : List Tok) {r : List Tok} (hr : Each WT r) : rIs x (pre, r, none) = isP 4 x r := by
  cases r with
  | nil => rfl
  | cons t r =>
    have h := (hr t (List.mem_cons_self ..)).2.1
    simp only [rIs, isP]
    by_cases h4 : t.kind = 4
    · simp [h4]
    · by_cases h2 : t.kind = 2
      · have : t.text ≠ x := fun he => hx (he ▸ h h2)
        simp [h2, this]
      · have e1 : ((t.kind : Int) == 4) = false := by simp; omega
        have e2 : ((t.kind : Int) == 2) = false := by simp; omega
        have e3 : ((t.kind : Int) == ((4 : Nat) : Int)) = false := by simp; omega
        rw [e1, e2, e3]; rfl
theorem kind_okR {e k : Nat} {t : Tok} {r r' : List Tok} (pre : List Tok) (h : takeP e k r = .ok (t, r')) : rKind k (pre, r, none) = (t, pre ++ [t], r', none) := by
  obtain ⟨rfl, hk⟩ := takeP_len h
  simp [rKind, hk]
theorem kind_errR {e k a : Nat} {r : List Tok} (pre : List Tok) (h : takeP e k r = .error a) : ∃ b, rKind k (pre, r, none) = (zeroTok, pre, r, some b) ∧ badOf e b = a := by
  cases r with
  | nil =>
    refine ⟨-1, rfl, ?_⟩
    obtain rfl : e = a := by simpa [takeP] using h
    rfl
  | cons t r =>
    rw [takeP] at h
    split at h
    · cases h
    rename_i hk
    obtain rfl : t.at_ = a := by simpa using h
    exact ⟨t.at_, by simp [rKind, hk], badOf_nat _ _⟩
@[simp] theorem kind_bad (k : Nat) (pre r : List Tok) (b : Int) : rKind k (pre, r, some b) = (zeroTok, pre, r, some b) := rfl
@[simp] theorem is_bad (x : List UInt8) (pre r : List Tok) (b : Int) : rIs x (pre, r, some b) = false := rfl
@[simp] theorem fail_bad (pre r : List Tok) (b : Int) : rFail (pre, r, some b) = (pre, r, some b) := rfl
@[simp] theorem need_bad (x : List UInt8) (pre r : List Tok) (b : Int) : rNeed x (pre, r, some b) = (pre, r, some b) := rfl
theorem fail_okR (e : Nat) (pre r : List Tok) : ∃ b, rFail (pre, r, none) = (pre, r, some b) ∧ badOf e b = endAt e r := by
  cases r with
  | nil => exact ⟨-1, rfl, rfl⟩
  | cons t r => exact ⟨t.at_, rfl, badOf_nat _ _⟩
theorem need_okR {e k : Nat} {x : List UInt8} {t : Tok} {r r' pre : List Tok} (hi : rIs x (pre, r, none) = isP k x r) (h : wantP e k x r = .ok (t, r')) : rNeed x (pre, r, none) = (pre ++ [t], r', none) := by
  obtain ⟨h1, h2⟩ := wantP_ok h
  obtain ⟨rfl, _⟩ := takeP_len h1
  unfold rNeed
  rw [hi, h2]
  rfl
theorem need_errR {e k a : Nat} {x : List UInt8} {r pre : List Tok} (hi : rIs x (pre, r, none) = isP k x r) (h : wantP e k x r = .error a) : ∃ b, rNeed x (pre, r, none) = (pre, r, some b) ∧ badOf e b = a := by
  unfold wantP at h
  unfold rNeed
  rw [hi]
  split at h
  · rename_i hp
    obtain ⟨t, tl, rfl, _, _, h4⟩ := isP_take (e := e) hp
    rw [h4] at h
    cases h
  · rename_i hp
    obtain rfl : endAt e r = a := by simpa using h
    rw [if_neg hp]
    exact fail_okR e pre r
/-! ### formulas -/
def rtOf : Tree → RT
  | .leaf w n => .leaf w.text n.text n.at_
  | .un w k => .un w.text (rtOf k)
  | .bin w a b => .bin w.text (rtOf a) (rtOf b)
/-- The document's reader goes along: it reads the same, or is wrong at the same place. -/
def RelF (e : Nat) (x : PR Tree) (y : RT × PS) : Prop := match x with
  | .ok (t, r) => ∃ pre, y = (rtOf t, pre, r, none)
  | .error a => ∃ T pre r b, y = (T, pre, r, some b) ∧ badOf e b = a
theorem more_bad (next : PS → RT × PS) (word : List UInt8) (k : Nat) (a : RT) (pre r : List Tok) (b : Int) : rMore next word k a (pre, r, some b) = (a, pre, r, some b) := by
  cases k <;> simp [rMore]
theorem form_bad (n l : Nat) (pre r : List Tok) (b : Int) : ∃ T, rForm n l (pre, r, some b) = (T, pre, r, some b) := by
  induction n generalizing l with
  | zero => cases l <;> exact ⟨_, rfl⟩
  | succ n ih =>
    have more : ∀ l word, ∃ T, rMore (rForm n l) word ((rForm n l (pre, r, some b)).2.2.1.length + 1) (rForm n l (pre, r, some b)).1 (rForm n l (pre, r, some b)).2 = (T, pre, r, some b) := fun l word => by
      obtain ⟨T, hT⟩ := ih l
      rw [hT]
      exact ⟨_, more_bad _ _ _ _ _ _ _⟩
    match l with
    | 0 =>
      rw [rForm]
      case x_4 => decide
      case x_5 => decide
      exact ⟨.leaf [] [] 0, by simp⟩
    | 1 => exact more 0 _
    | 2 => exact more 1 _
    | l + 3 =>
      rw [rForm]
      case x_4 => omega
      case x_5 => omega
      exact ⟨.leaf [] [] 0, by simp⟩
theorem more_rel {e B : Nat} {word : List UInt8} (hw : word ∉ signs4) {next : List Tok → PR Tree} {next' : PS → RT × PS} (hn : ∀ pre r, Each WT r → r.length < B → RelF e (next r) (next' (pre, r, none)))
    (hb : ∀ pre r b, ∃ T, next' (pre, r, some b) = (T, pre, r, some b)) (ha : ∀ r t r', next r = .ok (t, r') → r'.length < r.length ∧ (Each WT r → Each WT r')) : ∀ (k : Nat) (t : Tree) (pre r : List Tok), Each WT r → r.length < k → r.length ≤ B → RelF e (moreP next e word k t r) (rMore next' word k (rtOf t) (pre, r, none)) := by
  intro k
  induction k with
  | zero => intro t pre r _ h; omega
  | succ k ih =>
    intro t pre r hr hk hB
    rw [moreP, rMore, ris_word hw pre hr]
    by_cases hi : isP 2 word r = true
    · obtain ⟨w, tl, rfl, _, hwt, h4⟩ := isP_take (e := e) hi
      rw [if_pos hi, if_pos hi, h4]
      have hr' : Each WT tl := fun x hx => hr x (List.mem_cons_of_mem _ hx)
      simp only [List.length_cons] at hk hB
      have h1 := hn (pre ++ [w]) tl hr' (by omega)
      simp only [rNext]
      cases hx : next tl with
      | error a =>
        rw [hx] at h1
        obtain ⟨T, pre', r', b, h2, h3⟩ := h1
        rw [h2]
        exact ⟨_, _, _, _, more_bad _ _ _ _ _ _ _, h3⟩
      | ok p =>
        obtain ⟨b, r2⟩ := p
        rw [hx] at h1
        obtain ⟨pre', h2⟩ := h1
        have h5 := ha _ _ _ hx
        rw [h2]
        have h6 := ih (.bin w t b) pre' r2 (h5.2 hr') (by omega) (by omega)
        simp only [rtOf, hwt] at h6
        exact h6
    · rw [if_neg hi, if_neg hi]
      exact ⟨pre, rfl⟩
theorem form_rel (e : Nat) : ∀ (n l : Nat) (pre r : List Tok), l ≤ 2 → Each WT r → 3 * r.length + l < n → RelF e (formP e n l r) (rForm n l (pre, r, none)) := by
  intro n
  induction n with
  | zero => intro l pre r _ _ h; omega
  | succ n ih =>
    intro l pre r hl2 hr hn
    have hsub : ∀ l' r t r', formP e n l' r = .ok (t, r') → r'.length < r.length ∧ (Each WT r → Each WT r') := fun l' r t r' h => ⟨formP_len e _ _ _ _ _ h, fun hr => (formP_all e _ _ _ _ _ h hr).2.1⟩
    have chain : ∀ l' word, l' ≤ 1 → word ∉ signs4 → 3 * r.length + l' < n → RelF e (chainOf (formP e n l') e word r) (rMore (rForm n l') word ((rForm n l' (pre, r, none)).2.2.1.length + 1) (rForm n l' (pre, r, none)).1 (rForm n l' (pre, r, none)).2) := fun l' word hl' hw hlt => by
      unfold chainOf
      have h1 := ih l' pre r (by omega) hr hlt
      cases hx : formP e n l' r with
      | error a =>
        rw [hx] at h1
        obtain ⟨T, pre', r', b, h2, h3⟩ := h1
        rw [h2]
        exact ⟨_, _, _, _, more_bad _ _ _ _ _ _ _, h3⟩
      | ok p =>
        obtain ⟨t, r2⟩ := p
        rw [hx] at h1
        obtain ⟨pre', h2⟩ := h1
        have h5 := hsub _ _ _ _ hx
        rw [h2]
        exact more_rel (B := r.length) hw (fun pre r' h6 h7 => ih l' pre r' (by omega) h6 (by omega)) (fun pre r b => form_bad n l' pre r b) (hsub l') _ t pre' r2 (h5.2 hr) (by simp) (by omega)
    have fac : 3 * r.length < n + 1 → RelF e (formP e (n + 1) 0 r) (rForm (n + 1) 0 (pre, r, none)) := fun hn => by
      rw [formP, rForm]
      case x_4 => decide
      case x_5 => decide
      case x_4 => decide
      case x_5 => decide
      rw [ris_word (x := [110, 111, 116]) (by decide) pre hr, ris_sign (x := [40]) (by decide) pre hr, ris_word (x := [99, 104, 97, 110, 103, 101, 100]) (by decide) pre hr, ris_word (x := [102, 111, 114, 103, 101, 100]) (by decide) pre hr, ris_word (x := [107, 110, 111, 119, 115]) (by decide) pre hr, ris_word (x := [115, 116, 111, 108, 101, 110]) (by decide) pre hr, ris_word (x := [114, 97, 110]) (by decide) pre hr]
      cases r with
      | nil => exact ⟨_, _, _, _, rfl, rfl⟩
      | cons t tl =>
        have ht := hr t (List.mem_cons_self ..)
        have htl : Each WT tl := fun x hx => hr x (List.mem_cons_of_mem _ hx)
        simp only [List.length_cons] at hn
        by_cases hp : isP 4 [40] (t :: tl) = true
        · have h4 : t.kind = 4 := by
            obtain ⟨t', r', he, h1, _⟩ := isP_take (e := e) hp
            obtain ⟨rfl, rfl⟩ := List.cons.inj he
            exact h1
          have h2 : isP 2 [110, 111, 116] (t :: tl) = false := by simp [isP, h4]
          rw [if_pos hp, h2]
          simp only [Bool.false_eq_true, if_false, hp, if_true, List.tail_cons, rNext]
          have h1 := ih 2 (pre ++ [t]) tl (by omega) htl (by omega)
          cases hx : formP e n 2 tl with
          | error a =>
            rw [hx] at h1
            obtain ⟨T, pre', r', b, h5, h6⟩ := h1
            rw [h5]
            exact ⟨_, _, _, _, rfl, h6⟩
          | ok p =>
            obtain ⟨x, r2⟩ := p
            rw [hx] at h1
            obtain ⟨pre', h5⟩ := h1
            rw [h5]
            have hr2 := (hsub _ _ _ _ hx).2 htl
            have hi := ris_sign (x := [41]) (by decide) pre' hr2
            simp only
            cases hwx : wantP e 4 [41] r2 with
            | error a =>
              obtain ⟨b, h7, h8⟩ := need_errR hi hwx
              rw [h7]
              exact ⟨_, _, _, _, rfl, h8⟩
            | ok p =>
              obtain ⟨y, r3⟩ := p
              rw [need_okR hi hwx]
              exact ⟨_, rfl⟩
        · rw [if_neg hp]
          have hp' : isP 4 [40] (t :: tl) = false := by simpa using hp
          by_cases hk : t.kind = 2
          · rw [takeP, if_pos hk]
            have hi : ∀ x, isP 2 x (t :: tl) = (t.text == x) := fun x => by simp [isP, hk]
            simp only [hi, hp', Bool.false_eq_true, if_false]
            by_cases hnot : t.text = [110, 111, 116]
            · simp only [hnot, beq_self_eq_true, if_true, rNext]
              have h1 := ih 0 (pre ++ [t]) tl (by omega) htl (by omega)
              cases hx : formP e n 0 tl with
              | error a =>
                rw [hx] at h1
                obtain ⟨T, pre', r', b, h5, h6⟩ := h1
                rw [h5]
                exact ⟨_, _, _, _, rfl, h6⟩
              | ok p =>
                obtain ⟨x, r2⟩ := p
                rw [hx] at h1
                obtain ⟨pre', h5⟩ := h1
                rw [h5]
                exact ⟨pre', by simp only [rtOf, hnot]⟩
            · have leaf : ∀ w, t.text = w → RelF e (match takeP e 1 tl with
                  | .error a => .error a
                  | .ok (x, r2) => .ok (.leaf t x, r2)) (rLeaf w (pre, t :: tl, none)) := fun w hwt => by
                unfold rLeaf
                simp only [rNext]
                cases hx : takeP e 1 tl with
                | error a =>
                  obtain ⟨b, h7, h8⟩ := kind_errR (pre ++ [t]) hx
                  rw [h7]
                  exact ⟨_, _, _, _, rfl, h8⟩
                | ok p =>
                  obtain ⟨y, r3⟩ := p
                  rw [kind_okR (pre ++ [t]) hx]
                  exact ⟨pre ++ [t] ++ [y], by simp only [rtOf, hwt]⟩
              rw [if_neg hnot]
              simp only [show (t.text == [110, 111, 116]) = false from by simpa using hnot, Bool.false_eq_true, if_false, beq_iff_eq]
              by_cases c1 : t.text = [99, 104, 97, 110, 103, 101, 100]
              · rw [if_pos (show t.text ∈ factW by simp [factW, c1]), if_pos c1]; exact leaf _ c1
              rw [if_neg c1]
              by_cases c2 : t.text = [102, 111, 114, 103, 101, 100]
              · rw [if_pos (show t.text ∈ factW by simp [factW, c2]), if_pos c2]; exact leaf _ c2
              rw [if_neg c2]
              by_cases c3 : t.text = [107, 110, 111, 119, 115]
              · rw [if_pos (show t.text ∈ factW by simp [factW, c3]), if_pos c3]; exact leaf _ c3
              rw [if_neg c3]
              by_cases c4 : t.text = [115, 116, 111, 108, 101, 110]
              · rw [if_pos (show t.text ∈ factW by simp [factW, c4]), if_pos c4]; exact leaf _ c4
              rw [if_neg c4]
              by_cases c5 : t.text = [114, 97, 110]
              · rw [if_pos (show t.text ∈ factW by simp [factW, c5]), if_pos c5]; exact leaf _ c5
              rw [if_neg c5, if_neg (show ¬ t.text ∈ factW by simp [factW, c1, c2, c3, c4, c5])]
              exact ⟨_, _, _, _, rfl, badOf_nat _ _⟩
          · rw [takeP, if_neg hk]
            have hi : ∀ x, isP 2 x (t :: tl) = false := fun x => by
              have : ((t.kind : Int) == ((2 : Nat) : Int)) = false := by simp; omega
              simp only [isP, this, Bool.false_and]
            simp only [hi, hp', Bool.false_eq_true, if_false]
            exact ⟨_, _, _, _, rfl, badOf_nat _ _⟩
    match l, hl2 with
    | 0, _ => exact fac (by omega)
    | 1, _ => exact chain 0 _ (by omega) (by decide) (by omega)
    | 2, _ => exact chain 1 _ (by omega) (by decide) (by omega)
end Go.Proofs.Ytknkkfdkcemolaa.Vm
end
section
/- Plain: the program's reader and the document's read the same: attributes. -/
set_option linter.unusedSimpArgs false
set_option linter.unusedVariables false
set_option maxRecDepth 100000
namespace Go.Proofs.Ytknkkfdkcemolaa.Vm
open Go
variable {m : Int}

def raOf (a : AttrT) : RA := ⟨a.word.text, a.word.at_, a.arg⟩
/-- The document's reader goes along. -/
def RelP {α β : Type} (f : α → β) (e : Nat) (x : PR α) (y : β × PS) : Prop := match x with
  | .ok (a, r) => ∃ pre, y = (f a, pre, r, none)
  | .error a => ∃ T pre r b, y = (T, pre, r, some b) ∧ badOf e b = a
abbrev semi : List UInt8 := [59]
theorem attr_end {e : Nat} {t x : Tok} {pre r : List Tok} (hr : Each WT r) : RelP raOf e (match wantP e 4 semi r with
      | .error a => .error a
      | .ok (_, r3) => .ok (⟨t, x⟩, r3)) ((⟨t.text, t.at_, x⟩ : RA), rNeed semi (pre, r, none)) := by
  have hi := ris_sign (x := semi) (by decide) pre hr
  cases hwx : wantP e 4 semi r with
  | error a =>
    obtain ⟨b, h7, h8⟩ := need_errR hi hwx
    rw [h7]
    exact ⟨_, _, _, _, rfl, h8⟩
  | ok p =>
    obtain ⟨y, r3⟩ := p
    rw [need_okR hi hwx]
    exact ⟨_, rfl⟩
theorem attr_arg {e k : Nat} {t : Tok} {pre tl : List Tok} (hr : Each WT tl) : RelP raOf e (match takeP e k tl with
      | .error a => .error a
      | .ok (x, r2) => match wantP e 4 semi r2 with
        | .error a => .error a
        | .ok (_, r3) => .ok (⟨t, x⟩, r3)) ((rArg t k (pre, tl, none)).1, rNeed semi (rArg t k (pre, tl, none)).2) := by
  unfold rArg
  cases hx : takeP e k tl with
  | error a =>
    obtain ⟨b, h7, h8⟩ := kind_errR pre hx
    rw [h7]
    exact ⟨_, _, _, _, rfl, h8⟩
  | ok p =>
    obtain ⟨x, r2⟩ := p
    rw [kind_okR pre hx]
    obtain ⟨rfl, _⟩ := takeP_len hx
    exact attr_end (fun y hy => hr y (List.mem_cons_of_mem _ hy))
theorem attr_rel (e : Nat) (pre r : List Tok) (hr : Each WT r) : RelP raOf e (attrP e r) ((rAttr (pre, r, none)).1, rNeed semi (rAttr (pre, r, none)).2) := by
  cases r with
  | nil => exact ⟨_, _, _, _, rfl, rfl⟩
  | cons t tl =>
    have htl : Each WT tl := fun x hx => hr x (List.mem_cons_of_mem _ hx)
    have ht := hr t (List.mem_cons_self ..)
    show RelP raOf e (attrP e (t :: tl)) ((rAttrK t (pre, t :: tl, none)).1, rNeed semi (rAttrK t (pre, t :: tl, none)).2)
    by_cases hk : t.kind = 2
    · have hi : ∀ x, rIs x (pre, t :: tl, none) = (t.text == x) := fun x => by simp [rIs, hk]
      have ha : attrP e (t :: tl) = match argP e t tl with
        | .error a => .error a
        | .ok (x, r2) => match wantP e 4 semi r2 with
          | .error a => .error a
          | .ok (_, r3) => .ok (⟨t, x⟩, r3) := by
        unfold attrP
        rw [takeP, if_pos hk]
        rfl
      have zero : RelP raOf e (match (Except.ok (zeroTok, tl) : PR Tok) with
          | .error a => .error a
          | .ok (x, r2) => match wantP e 4 semi r2 with
            | .error a => .error a
            | .ok (_, r3) => .ok (⟨t, x⟩, r3)) ((⟨t.text, t.at_, zeroTok⟩ : RA), rNeed semi (rNext (pre, t :: tl, none))) := attr_end htl
      have one : ∀ k, RelP raOf e (match takeP e k tl with
          | .error a => .error a
          | .ok (x, r2) => match wantP e 4 semi r2 with
            | .error a => .error a
            | .ok (_, r3) => .ok (⟨t, x⟩, r3)) ((rArg t k (rNext (pre, t :: tl, none))).1, rNeed semi (rArg t k (rNext (pre, t :: tl, none))).2) := fun k => attr_arg htl
      rw [ha]
      unfold rAttrK argP
      simp only [hi, beq_iff_eq]
      by_cases c : t.text = [112, 97, 103, 101]
      · rw [if_pos c, if_pos (by simp [noArg, c])]; exact zero
      rw [if_neg c]
      by_cases c2 : t.text = [105, 110, 106, 101, 99, 116]
      · rw [if_pos c2, if_pos (by simp [noArg, c2])]; exact zero
      rw [if_neg c2]
      by_cases c3 : t.text = [111, 119, 110]
      · rw [if_pos c3, if_pos (by simp [noArg, c3])]; exact zero
      rw [if_neg c3]
      by_cases c4 : t.text = [99, 104, 97, 110, 103, 101, 115]
      · rw [if_pos c4, if_pos (by simp [noArg, c4])]; exact zero
      rw [if_neg c4]
      by_cases c5 : t.text = [111, 112, 101, 110]
      · rw [if_pos c5, if_pos (by simp [noArg, c5])]; exact zero
      rw [if_neg c5]
      by_cases c6 : t.text = [99, 114, 101, 100, 101, 110, 116, 105, 97, 108, 115]
      · rw [if_pos c6, if_pos (by simp [noArg, c6])]; exact zero
      rw [if_neg c6, if_neg (c := t.text ∈ noArg) (by simp [noArg, c, c2, c3, c4, c5, c6])]
      by_cases d1 : t.text = [115, 99, 114, 105, 112, 116]
      · rw [if_pos d1, if_pos (by simp [nameArg, d1])]; exact one 1
      rw [if_neg d1]
      by_cases d2 : t.text = [110, 101, 101, 100, 115]
      · rw [if_pos d2, if_pos (by simp [nameArg, d2])]; exact one 1
      rw [if_neg d2]
      by_cases d3 : t.text = [115, 101, 116, 115]
      · rw [if_pos d3, if_pos (by simp [nameArg, d3])]; exact one 1
      rw [if_neg d3]
      by_cases d4 : t.text = [103, 105, 118, 101, 115]
      · rw [if_pos d4, if_pos (by simp [nameArg, d4])]; exact one 1
      rw [if_neg d4]
      by_cases d5 : t.text = [114, 101, 100, 105, 114, 101, 99, 116]
      · rw [if_pos d5, if_pos (by simp [nameArg, d5])]; exact one 1
      rw [if_neg d5, if_neg (c := t.text ∈ nameArg) (by simp [nameArg, d1, d2, d3, d4, d5])]
      by_cases f1 : t.text = [99, 111, 114, 115]
      · rw [if_pos f1, if_pos f1, show rIs [97, 110, 121] (rNext (pre, t :: tl, none)) = isP 2 [97, 110, 121] tl from ris_word (by decide) _ htl]
        by_cases f2 : isP 2 [97, 110, 121] tl = true
        · rw [if_pos f2, if_pos f2]; exact one 2
        · rw [if_neg f2, if_neg f2]; exact one 1
      rw [if_neg f1, if_neg f1]
      by_cases g1 : t.text = [104, 101, 97, 100, 101, 114]
      · rw [if_pos g1, if_pos (by simp [textArg, g1])]; exact one 3
      rw [if_neg g1]
      by_cases g2 : t.text = [97, 108, 108, 111, 119]
      · rw [if_pos g2, if_pos (by simp [textArg, g2])]; exact one 3
      rw [if_neg g2]
      by_cases g3 : t.text = [109, 101, 116, 104, 111, 100, 115]
      · rw [if_pos g3, if_pos (by simp [textArg, g3])]; exact one 3
      rw [if_neg g3]
      by_cases g4 : t.text = [99, 115, 112]
      · rw [if_pos g4, if_pos (by simp [textArg, g4])]; exact one 3
      rw [if_neg g4, if_neg (c := t.text ∈ textArg) (by simp [textArg, g1, g2, g3, g4])]
      exact ⟨_, _, _, _, rfl, badOf_nat _ _⟩
    · have ha : attrP e (t :: tl) = .error t.at_ := by
        unfold attrP
        rw [takeP, if_neg hk]
      have hi : ∀ x, x ∉ signs4 → rIs x (pre, t :: tl, none) = false := fun x hx => by
        rw [ris_word hx pre hr]
        have : ((t.kind : Int) == ((2 : Nat) : Int)) = false := by simp; omega
        simp only [isP, this, Bool.false_and]
      rw [ha]
      unfold rAttrK
      rw [hi _ (by decide), hi _ (by decide), hi _ (by decide), hi _ (by decide), hi _ (by decide), hi _ (by decide), hi _ (by decide), hi _ (by decide), hi _ (by decide), hi _ (by decide), hi _ (by decide), hi _ (by decide), hi _ (by decide), hi _ (by decide), hi _ (by decide), hi _ (by decide)]
      exact ⟨_, _, _, _, rfl, badOf_nat _ _⟩
end Go.Proofs.Ytknkkfdkcemolaa.Vm
end
section
/- Plain: the program's reader and the document's read the same: items. -/
set_option linter.unusedSimpArgs false
set_option linter.unusedVariables false
set_option maxRecDepth 100000
namespace Go.Proofs.Ytknkkfdkcemolaa.Vm
open Go
variable {m : Int}

theorem wt_zero : WT zeroTok := by simp [WT, zeroTok]
theorem attrs_bad (k : Nat) (out : List RA) (pre r : List Tok) (b : Int) : rAttrs k out (pre, r, some b) = (out, pre, r, some b) := by
  cases k <;> simp [rAttrs]
abbrev close : List UInt8 := [125]
theorem attrs_rel (e : Nat) : ∀ (n k : Nat) (out : List AttrT) (pre r : List Tok), Each WT r → r.length < n → r.length < k → RelP (List.map raOf) e (attrsP e n out r) ((rAttrs k (out.map raOf) (pre, r, none)).1, rNeed close (rAttrs k (out.map raOf) (pre, r, none)).2) := by
  intro n
  induction n with
  | zero => intro k out pre r _ h; omega
  | succ n ih =>
    intro k out pre r hr hn hk
    obtain ⟨k, rfl⟩ : ∃ j, k = j + 1 := ⟨k - 1, by omega⟩
    have hi := ris_sign (x := close) (by decide) pre hr
    rw [attrsP, rAttrs]
    by_cases hc : isP 4 close r = true
    · obtain ⟨t, tl, rfl, _⟩ := isP_take (e := e) hc
      rw [if_pos hc]
      simp only [Option.isNone_none, Bool.true_and, hi, hc, Bool.not_true, Bool.false_eq_true, if_false, List.tail_cons]
      refine ⟨pre ++ [t], ?_⟩
      unfold rNeed
      rw [hi, if_pos hc]
      rfl
    · have hc' : isP 4 close r = false := by simpa using hc
      rw [if_neg hc]
      simp only [Option.isNone_none, Bool.true_and, hi, hc', Bool.not_false, if_true]
      have h1 := attr_rel e pre r hr
      cases hx : attrP e r with
      | error a =>
        rw [hx] at h1
        obtain ⟨T, pre', r', b, h2, h3⟩ := h1
        simp only [andP]
        have h4 := (Prod.mk.inj h2).2
        rw [show rNeed [59] (rAttr (pre, r, none)).2 = (pre', r', some b) from h4, attrs_bad]
        exact ⟨_, _, _, _, rfl, h3⟩
      | ok p =>
        obtain ⟨a, r2⟩ := p
        rw [hx] at h1
        obtain ⟨pre', h2⟩ := h1
        simp only [andP]
        have h4 := Prod.mk.inj h2
        have hl := attrP_len hx
        have h5 := ih k (out ++ [a]) pre' r2 (attrP_all hx hr wt_zero).2 (by omega) (by omega)
        rw [show rNeed [59] (rAttr (pre, r, none)).2 = (pre', r2, none) from h4.2, h4.1]
        rw [List.map_append, List.map_cons, List.map_nil] at h5
        exact h5
/-! ### items -/
def riOf (i : ItemT) : RI := { k := i.word.text, at_ := i.word.at_, name := i.name, whr := i.of_, caps := i.caps, txt := i.text, al := i.attrs.map raOf, form := i.form.map rtOf }
theorem is_kind2 {x : List UInt8} (hx : x ∉ signs4) {pre tl : List Tok} {t : Tok} (hr : Each WT (t :: tl)) (hk : t.kind = 2) : rIs x (pre, t :: tl, none) = (t.text == x) := by
  rw [ris_word hx pre hr]
  simp [isP, hk]
/-- One step: a kind. -/
theorem step_kind {f : ItemT → RI} {e k : Nat} {pre r : List Tok} (hr : Each WT r) {F : Tok → List Tok → PR ItemT} {G : Tok → PS → RI × PS}
    (hbad : ∀ pre r b, ∃ T, G zeroTok (pre, r, some b) = (T, pre, r, some b)) (hok : ∀ t pre r, Each WT r → RelP f e (F t r) (G t (pre, r, none))) :
    RelP f e (andP (takeP e k r) F) (G (rKind k (pre, r, none)).1 (rKind k (pre, r, none)).2) := by
  cases hx : takeP e k r with
  | error a =>
    obtain ⟨b, h7, h8⟩ := kind_errR pre hx
    rw [h7]
    obtain ⟨T, hT⟩ := hbad pre r b
    exact ⟨T, _, _, _, hT, h8⟩
  | ok p =>
    obtain ⟨t, r2⟩ := p
    rw [kind_okR pre hx]
    exact hok t _ r2 (takeP_all hx hr).2
theorem step_need {f : ItemT → RI} {e k : Nat} {x : List UInt8} {pre r : List Tok} (hr : Each WT r) (hi : rIs x (pre, r, none) = isP k x r) {F : Tok → List Tok → PR ItemT} {G : PS → RI × PS}
    (hbad : ∀ pre r b, ∃ T, G (pre, r, some b) = (T, pre, r, some b)) (hok : ∀ t pre r, Each WT r → RelP f e (F t r) (G (pre, r, none))) :
    RelP f e (andP (wantP e k x r) F) (G (rNeed x (pre, r, none))) := by
  cases hx : wantP e k x r with
  | error a =>
    obtain ⟨b, h7, h8⟩ := need_errR hi hx
    rw [h7]
    obtain ⟨T, hT⟩ := hbad pre r b
    exact ⟨T, _, _, _, hT, h8⟩
  | ok p =>
    obtain ⟨t, r2⟩ := p
    rw [need_okR hi hx]
    exact hok t _ r2 (wantP_all hx hr).2
theorem placed_and {β : Type} {e : Nat} {r : List Tok} {F : Tok × Tok → List Tok → PR β} : andP (placedP e r) F = andP (takeP e 1 r) fun n r => andP (wantP e 2 [97, 116] r) fun _ r => andP (takeP e 1 r) fun o r => F (n, o) r := by
  unfold placedP
  cases takeP e 1 r with
  | error a => rfl
  | ok p =>
    obtain ⟨n, r1⟩ := p
    simp only [andP]
    cases wantP e 2 [97, 116] r1 with
    | error a => rfl
    | ok p =>
      obtain ⟨x, r2⟩ := p
      simp only
      cases takeP e 1 r2 with
      | error a => rfl
      | ok p => rfl
theorem item_rel (e : Nat) (pre : List Tok) (t : Tok) (tl : List Tok) (hr : Each WT (t :: tl)) : RelP riOf e (itemP e (t :: tl)) (rItem (pre, t :: tl, none)) := by
  have htl : Each WT tl := fun x hx => hr x (List.mem_cons_of_mem _ hx)
  show RelP riOf e (itemP e (t :: tl)) (rItemK t (pre, t :: tl, none))
  by_cases hk : t.kind = 2
  · have hi : ∀ x, rIs x (pre, t :: tl, none) = (t.text == x) := fun x => by simp [rIs, hk]
    have ha : itemP e (t :: tl) = itemK e t tl := by
      unfold itemP
      rw [takeP, if_pos hk]
      rfl
    have sg : ∀ (x : List UInt8), x ∉ wordsL → ∀ (pre r : List Tok), Each WT r → rIs x (pre, r, none) = isP 4 x r := fun x hx pre r hr => ris_sign hx pre hr
    rw [ha]
    unfold rItemK itemK
    simp only [hi, beq_iff_eq]
    by_cases c1 : t.text = [111, 114, 105, 103, 105, 110]
    · rw [if_pos c1, if_pos c1]
      unfold r_origin
      exact step_kind (f := riOf) (pre := pre ++ [t]) htl
        (G := fun n s => ({ k := t.text, at_ := t.at_, name := n, txt := (rKind 3 s).1 }, rNeed [59] (rKind 3 s).2)) (fun _ _ _ => ⟨_, rfl⟩) fun n pre r hr =>
        step_kind (f := riOf) hr (G := fun x s => ({ k := t.text, at_ := t.at_, name := n, txt := x }, rNeed [59] s)) (fun _ _ _ => ⟨_, rfl⟩) fun x pre r hr =>
        step_need hr (sg _ (by decide) _ _ hr) (G := fun s => ({ k := t.text, at_ := t.at_, name := n, txt := x }, s)) (fun _ _ _ => ⟨_, rfl⟩) fun _ pre r hr => ⟨pre, rfl⟩
    rw [if_neg c1, if_neg c1]
    by_cases c2 : t.text = [99, 111, 111, 107, 105, 101]
    · rw [if_pos c2, if_pos c2, placed_and]
      unfold r_cookie
      exact step_kind (f := riOf) (pre := pre ++ [t]) htl
        (G := fun n s => ({ k := t.text, at_ := t.at_, name := n, whr := (rKind 1 (rNeed [97, 116] s)).1, txt := (rKind 3 (rKind 1 (rNeed [97, 116] s)).2).1 }, rNeed [59] (rKind 3 (rKind 1 (rNeed [97, 116] s)).2).2)) (fun _ _ _ => ⟨_, rfl⟩) fun n pre r hr =>
        step_need hr (ris_word (by decide) _ hr) (G := fun s => ({ k := t.text, at_ := t.at_, name := n, whr := (rKind 1 s).1, txt := (rKind 3 (rKind 1 s).2).1 }, rNeed [59] (rKind 3 (rKind 1 s).2).2)) (fun _ _ _ => ⟨_, rfl⟩) fun _ pre r hr =>
        step_kind (f := riOf) hr (G := fun o s => ({ k := t.text, at_ := t.at_, name := n, whr := o, txt := (rKind 3 s).1 }, rNeed [59] (rKind 3 s).2)) (fun _ _ _ => ⟨_, rfl⟩) fun o pre r hr =>
        step_kind (f := riOf) hr (G := fun x s => ({ k := t.text, at_ := t.at_, name := n, whr := o, txt := x }, rNeed [59] s)) (fun _ _ _ => ⟨_, rfl⟩) fun x pre r hr =>
        step_need hr (sg _ (by decide) _ _ hr) (G := fun s => ({ k := t.text, at_ := t.at_, name := n, whr := o, txt := x }, s)) (fun _ _ _ => ⟨_, rfl⟩) fun _ pre r hr => ⟨pre, rfl⟩
    rw [if_neg c2, if_neg c2]
    by_cases c3 : t.text = [115, 101, 99, 114, 101, 116]
    · rw [if_pos c3, if_pos c3]
      unfold r_secret
      exact step_kind (f := riOf) (pre := pre ++ [t]) htl
        (G := fun n s => ({ k := t.text, at_ := t.at_, name := n }, rNeed [59] s)) (fun _ _ _ => ⟨_, rfl⟩) fun n pre r hr =>
        step_need hr (sg _ (by decide) _ _ hr) (G := fun s => ({ k := t.text, at_ := t.at_, name := n }, s)) (fun _ _ _ => ⟨_, rfl⟩) fun _ pre r hr => ⟨pre, rfl⟩
    rw [if_neg c3, if_neg c3]
    by_cases c4 : t.text = [110, 101, 116, 119, 111, 114, 107]
    · rw [if_pos c4, if_pos c4]
      unfold r_network
      exact step_need (pre := pre ++ [t]) htl (sg _ (by decide) _ _ htl) (G := fun s => ({ k := t.text, at_ := t.at_ }, s)) (fun _ _ _ => ⟨_, rfl⟩) fun _ pre r hr => ⟨pre, rfl⟩
    rw [if_neg c4, if_neg c4]
    by_cases c5 : t.text = [101, 110, 100, 112, 111, 105, 110, 116]
    · rw [if_pos c5, if_neg (by rw [c5]; decide), if_pos c5, placed_and]
      unfold r_endpoint
      exact step_kind (f := riOf) (pre := pre ++ [t]) htl
        (G := fun n s => ({ k := t.text, at_ := t.at_, name := n, whr := (rKind 1 (rNeed [97, 116] s)).1, caps := (rKind 5 (rKind 1 (rNeed [97, 116] s)).2).1, txt := (rKind 3 (rKind 5 (rKind 1 (rNeed [97, 116] s)).2).2).1, al := (rAttrs ((rNeed [123] (rKind 3 (rKind 5 (rKind 1 (rNeed [97, 116] s)).2).2).2).2.1.length + 2) [] (rNeed [123] (rKind 3 (rKind 5 (rKind 1 (rNeed [97, 116] s)).2).2).2)).1 }, rNeed [125] (rAttrs ((rNeed [123] (rKind 3 (rKind 5 (rKind 1 (rNeed [97, 116] s)).2).2).2).2.1.length + 2) [] (rNeed [123] (rKind 3 (rKind 5 (rKind 1 (rNeed [97, 116] s)).2).2).2)).2))
            (fun _ _ _ => ⟨_, Prod.ext rfl (by
              simp only [need_bad, kind_bad, attrs_bad])⟩) fun n pre r hr =>
        step_need hr (ris_word (by decide) _ hr) (G := fun s => ({ k := t.text, at_ := t.at_, name := n, whr := (rKind 1 s).1, caps := (rKind 5 (rKind 1 s).2).1, txt := (rKind 3 (rKind 5 (rKind 1 s).2).2).1, al := (rAttrs ((rNeed [123] (rKind 3 (rKind 5 (rKind 1 s).2).2).2).2.1.length + 2) [] (rNeed [123] (rKind 3 (rKind 5 (rKind 1 s).2).2).2)).1 }, rNeed [125] (rAttrs ((rNeed [123] (rKind 3 (rKind 5 (rKind 1 s).2).2).2).2.1.length + 2) [] (rNeed [123] (rKind 3 (rKind 5 (rKind 1 s).2).2).2)).2))
            (fun _ _ _ => ⟨_, Prod.ext rfl (by simp only [need_bad, kind_bad, attrs_bad])⟩) fun _ pre r hr =>
        step_kind (f := riOf) hr (G := fun o s => ({ k := t.text, at_ := t.at_, name := n, whr := o, caps := (rKind 5 s).1, txt := (rKind 3 (rKind 5 s).2).1, al := (rAttrs ((rNeed [123] (rKind 3 (rKind 5 s).2).2).2.1.length + 2) [] (rNeed [123] (rKind 3 (rKind 5 s).2).2)).1 }, rNeed [125] (rAttrs ((rNeed [123] (rKind 3 (rKind 5 s).2).2).2.1.length + 2) [] (rNeed [123] (rKind 3 (rKind 5 s).2).2)).2))
            (fun _ _ _ => ⟨_, Prod.ext rfl (by simp only [need_bad, kind_bad, attrs_bad])⟩) fun o pre r hr =>
        step_kind (f := riOf) hr (G := fun c s => ({ k := t.text, at_ := t.at_, name := n, whr := o, caps := c, txt := (rKind 3 s).1, al := (rAttrs ((rNeed [123] (rKind 3 s).2).2.1.length + 2) [] (rNeed [123] (rKind 3 s).2)).1 }, rNeed [125] (rAttrs ((rNeed [123] (rKind 3 s).2).2.1.length + 2) [] (rNeed [123] (rKind 3 s).2)).2))
            (fun _ _ _ => ⟨_, Prod.ext rfl (by simp only [need_bad, kind_bad, attrs_bad])⟩) fun c pre r hr =>
        step_kind (f := riOf) hr (G := fun x s => ({ k := t.text, at_ := t.at_, name := n, whr := o, caps := c, txt := x, al := (rAttrs ((rNeed [123] s).2.1.length + 2) [] (rNeed [123] s)).1 }, rNeed [125] (rAttrs ((rNeed [123] s).2.1.length + 2) [] (rNeed [123] s)).2))
            (fun _ _ _ => ⟨_, Prod.ext rfl (by simp only [need_bad, kind_bad, attrs_bad])⟩) fun x pre r hr =>
        step_need hr (sg _ (by decide) _ _ hr) (G := fun s => ({ k := t.text, at_ := t.at_, name := n, whr := o, caps := c, txt := x, al := (rAttrs (s.2.1.length + 2) [] s).1 }, rNeed [125] (rAttrs (s.2.1.length + 2) [] s).2))
            (fun _ _ _ => ⟨_, Prod.ext rfl (by simp only [need_bad, attrs_bad])⟩) fun _ pre r hr => by
          have h1 := attrs_rel e (r.length + 1) (r.length + 2) [] pre r hr (by omega) (by omega)
          cases hx : attrsP e (r.length + 1) [] r with
          | error a =>
            rw [hx] at h1
            obtain ⟨T, pre', r', b, h2, h3⟩ := h1
            have h4 := Prod.mk.inj h2
            exact ⟨_, pre', r', b, Prod.ext rfl h4.2, h3⟩
          | ok p =>
            obtain ⟨l, r2⟩ := p
            rw [hx] at h1
            obtain ⟨pre', h2⟩ := h1
            have h4 := Prod.mk.inj h2
            refine ⟨pre', Prod.ext ?_ h4.2⟩
            show RI.mk t.text t.at_ n o c x (rAttrs (r.length + 2) [] (pre, r, none)).1 none = RI.mk t.text t.at_ n o c x (l.map raOf) none
            rw [show (rAttrs (r.length + 2) [] (pre, r, none)).1 = l.map raOf from h4.1]
    rw [if_neg c5, if_neg (c := t.text = [101, 110, 100, 112, 111, 105, 110, 116]) c5]
    by_cases c6 : t.text = [112, 114, 111, 112, 101, 114, 116, 121]
    · rw [if_pos c6, if_pos c6]
      unfold r_property
      have fb : ∀ (pre r : List Tok) (b : Int), ∃ T, rFml (pre, r, some b) = (T, pre, r, some b) := fun pre r b => form_bad (3 * r.length + 3) 2 pre r b
      refine step_kind (f := riOf) (pre := pre ++ [t]) htl
        (G := fun n s => ({ k := t.text, at_ := t.at_, name := n, form := some (rFml (rNeed [61] s)).1 }, rNeed [59] (rFml (rNeed [61] s)).2)) (fun pre r b => by
          obtain ⟨T, hT⟩ := fb pre r b
          exact ⟨_, Prod.ext rfl (by simp only [need_bad, hT])⟩) fun n pre r hr =>
        step_need hr (sg _ (by decide) _ _ hr) (G := fun s => ({ k := t.text, at_ := t.at_, name := n, form := some (rFml s).1 }, rNeed [59] (rFml s).2)) (fun pre r b => by
          obtain ⟨T, hT⟩ := fb pre r b
          exact ⟨_, Prod.ext rfl (by simp only [need_bad, hT])⟩) fun _ pre r hr => ?_
      have h1 := form_rel e (3 * r.length + 3) 2 pre r (by omega) hr (by omega)
      cases hx : formP e (3 * r.length + 3) 2 r with
      | error a =>
        rw [hx] at h1
        obtain ⟨T, pre', r', b, h2, h3⟩ := h1
        have h4 : rFml (pre, r, none) = (T, pre', r', some b) := h2
        exact ⟨_, pre', r', b, Prod.ext rfl (by simp only [h4, need_bad]), h3⟩
      | ok p =>
        obtain ⟨u, r2⟩ := p
        rw [hx] at h1
        obtain ⟨pre', h2⟩ := h1
        have h4 : rFml (pre, r, none) = (rtOf u, pre', r2, none) := h2
        have hr2 := (formP_all e _ _ _ _ _ hx hr).2.1
        show RelP riOf e _ (({ k := t.text, at_ := t.at_, name := n, form := some (rFml (pre, r, none)).1 } : RI), rNeed [59] (rFml (pre, r, none)).2)
        rw [h4]
        exact step_need hr2 (sg _ (by decide) _ _ hr2) (G := fun s => (({ k := t.text, at_ := t.at_, name := n, form := some (rtOf u) } : RI), s)) (fun _ _ _ => ⟨_, rfl⟩) fun _ pre r hr => ⟨pre, rfl⟩
    · rw [if_neg c6, if_neg c6]
      exact ⟨_, _, _, _, rfl, badOf_nat _ _⟩
  · have ha : itemP e (t :: tl) = .error t.at_ := by
      unfold itemP
      rw [takeP, if_neg hk]
      rfl
    have hi : ∀ x, x ∉ signs4 → rIs x (pre, t :: tl, none) = false := fun x hx => by
      rw [ris_word hx pre hr]
      have : ((t.kind : Int) == ((2 : Nat) : Int)) = false := by simp; omega
      simp only [isP, this, Bool.false_and]
    rw [ha]
    unfold rItemK
    rw [hi _ (by decide), hi _ (by decide), hi _ (by decide), hi _ (by decide), hi _ (by decide), hi _ (by decide)]
    exact ⟨_, _, _, _, rfl, badOf_nat _ _⟩
def RelIs (e : Nat) (x : Except Nat (List ItemT)) (y : List RI × PS) : Prop := match x with
  | .ok l => ∃ pre, y = (l.map riOf, pre, [], none)
  | .error a => ∃ T pre r b, y = (T, pre, r, some b) ∧ badOf e b = a
theorem items_bad (k : Nat) (out : List RI) (pre r : List Tok) (b : Int) : rItems k out (pre, r, some b) = (out, pre, r, some b) := by
  cases k <;> simp [rItems]
theorem items_rel (e : Nat) : ∀ (n k : Nat) (out : List ItemT) (pre r : List Tok), Each WT r → r.length < n → r.length < k → RelIs e (itemsP e n out r) (rItems k (out.map riOf) (pre, r, none)) := by
  intro n
  induction n with
  | zero => intro k out pre r _ h; omega
  | succ n ih =>
    intro k out pre r hr hn hk
    obtain ⟨k, rfl⟩ : ∃ j, k = j + 1 := ⟨k - 1, by omega⟩
    rw [rItems]
    cases r with
    | nil =>
      rw [itemsP]
      exact ⟨pre, by simp⟩
    | cons t tl =>
      rw [itemsP]
      simp only [Option.isNone_none, List.isEmpty_cons, Bool.not_false, Bool.and_self, if_true]
      have h1 := item_rel e pre t tl hr
      cases hx : itemP e (t :: tl) with
      | error a =>
        rw [hx] at h1
        obtain ⟨T, pre', r', b, h2, h3⟩ := h1
        rw [h2]
        simp only [items_bad]
        exact ⟨_, _, _, _, rfl, h3⟩
      | ok p =>
        obtain ⟨i, r2⟩ := p
        rw [hx] at h1
        obtain ⟨pre', h2⟩ := h1
        have hl := itemP_len hx
        have h5 := ih k (out ++ [i]) pre' r2 (itemP_all hx hr wt_zero).2.1 (by simp only [List.length_cons] at hn hl; omega) (by simp only [List.length_cons] at hk hl; omega)
        rw [h2]
        rw [List.map_append, List.map_cons, List.map_nil] at h5
        exact h5
end Go.Proofs.Ytknkkfdkcemolaa.Vm
end
section
/- Plain facts for lex: how the tokens of a text go on when more stands behind it. No program in sight. -/
set_option linter.unusedSimpArgs false
set_option linter.unusedVariables false
namespace Go.Proofs.Ytknkkfdkcemolaa.Vm
open Go
variable {m : Int}

theorem runL_nil (p : UInt8 → Bool) : runL p [] = 0 := rfl
theorem runL_cons (p : UInt8 → Bool) (a : UInt8) (s : List UInt8) : runL p (a :: s) = if p a = true then runL p s + 1 else 0 := by
  unfold runL
  rw [List.takeWhile_cons]
  split
  · rename_i h; simp [h]
  · rename_i h; simp [h]
theorem runL_ext {p : UInt8 → Bool} : ∀ {s rest : List UInt8}, (runL p s < s.length ∨ ∀ b r, rest = b :: r → p b = false) → runL p (s ++ rest) = runL p s
  | [], rest, h => by
    rcases h with h | h
    · simp at h
    · cases rest with
      | nil => rfl
      | cons b r => rw [List.nil_append, runL_cons, h b r rfl]; rfl
  | a :: s, rest, h => by
    rw [List.cons_append, runL_cons, runL_cons]
    by_cases hp : p a = true
    · rw [if_pos hp, if_pos hp]
      rw [runL_ext (s := s)]
      rcases h with h | h
      · rw [runL_cons, if_pos hp] at h
        exact .inl (by simpa using h)
      · exact .inr h
    · rw [if_neg hp, if_neg hp]
theorem gapS_ext : ∀ {s : List UInt8} {c : Bool} (rest : List UInt8), gapS c s < s.length → gapS c (s ++ rest) = gapS c s
  | [], c, rest, h => by simp at h
  | b :: s, false, rest, h => by
    rw [List.cons_append]
    unfold gapS at h ⊢
    split
    · rename_i h1
      rw [if_pos h1] at h
      rw [gapS_ext rest (by simpa using h)]
    · rename_i h1
      rw [if_neg h1] at h
      split
      · rename_i h2
        rw [if_pos h2] at h
        rw [gapS_ext rest (by simpa using h)]
      · rfl
  | b :: s, true, rest, h => by
    rw [List.cons_append]
    unfold gapS at h ⊢
    split
    · rename_i h1
      rw [if_pos h1] at h
      rw [gapS_ext rest (by simpa using h)]
    · rename_i h1
      rw [if_neg h1] at h
      rw [gapS_ext rest (by simpa using h)]
theorem gapS_all : ∀ {s : List UInt8} {c : Bool} (t : List UInt8), gapS c s = s.length → gapS c (s ++ 10 :: t) = s.length + 1 + gapN t
  | [], false, t, h => by
    rw [List.nil_append, gapS, if_pos (by decide)]
    simp [gapN]; omega
  | [], true, t, h => by
    rw [List.nil_append, gapS, if_pos (by decide)]
    simp [gapN]; omega
  | b :: s, false, t, h => by
    rw [List.cons_append]
    unfold gapS at h ⊢
    split
    · rename_i h1
      rw [if_pos h1] at h
      rw [gapS_all t (by simpa using h)]
      simp; omega
    · rename_i h1
      rw [if_neg h1] at h
      split
      · rename_i h2
        rw [if_pos h2] at h
        rw [gapS_all t (by simpa using h)]
        simp; omega
      · rename_i h2
        rw [if_neg h2] at h
        simp at h
  | b :: s, true, t, h => by
    rw [List.cons_append]
    unfold gapS at h ⊢
    split
    · rename_i h1
      rw [if_pos h1] at h
      rw [gapS_all t (by simpa using h)]
      simp; omega
    · rename_i h1
      rw [if_neg h1] at h
      rw [gapS_all t (by simpa using h)]
      simp; omega
/-- A token that ends within a text, or at its end ahead of what ends it, is the same when more stands behind. -/
theorem tok_ext {c : UInt8} {r rest : List UInt8} (h0 : (tok (c :: r)).2.2.2 = 0) (h : (tok (c :: r)).2.2.1 < (c :: r).length ∨ (∀ b q, rest = b :: q → isInner b = false ∧ isCap b = false) ∨ isSign c = true) :
    tok (c :: r ++ rest) = tok (c :: r) := by
  have hT : ∀ n, n ≤ (c :: r).length → (c :: r ++ rest).take n = (c :: r).take n := fun n hn => by
    rw [List.take_append_of_le_length hn]
  have hsg : isSign c = true → isSmall c = false ∧ isCap c = false ∧ isB c 34 = false := by
    intro hs
    unfold isSign at hs
    simp only [Bool.or_eq_true, beq_iff_eq] at hs
    have : (c.toNat : Int) = 123 ∨ (c.toNat : Int) = 125 ∨ (c.toNat : Int) = 40 ∨ (c.toNat : Int) = 41 ∨ (c.toNat : Int) = 59 ∨ (c.toNat : Int) = 61 := by omega
    unfold isSmall isCap
    refine ⟨?_, ?_, ?_⟩
    · rcases this with h | h | h | h | h | h <;> rw [h] <;> decide
    · rcases this with h | h | h | h | h | h <;> rw [h] <;> decide
    · rcases this with h | h | h | h | h | h <;> rw [isB, h] <;> decide
  rw [List.cons_append] at *
  unfold tok at h0 h ⊢
  simp only at h0 h ⊢
  by_cases h1 : isSmall c = true
  · simp only [if_pos h1] at h0 h ⊢
    have hr : runL isInner (c :: (r ++ rest)) = runL isInner (c :: r) := by
      rw [← List.cons_append]
      refine runL_ext ?_
      rcases h with h | h | h
      · exact .inl h
      · exact .inr fun b q e => (h b q e).1
      · rw [(hsg h).1] at h1; cases h1
    rw [hr, hT _ (runL_le _ _)]
  simp only [if_neg h1] at h0 h ⊢
  by_cases h2 : isCap c = true
  · simp only [if_pos h2] at h0 h ⊢
    have hr : runL isCap (c :: (r ++ rest)) = runL isCap (c :: r) := by
      rw [← List.cons_append]
      refine runL_ext ?_
      rcases h with h | h | h
      · exact .inl h
      · exact .inr fun b q e => (h b q e).2
      · rw [(hsg h).2.1] at h2; cases h2
    rw [hr, hT _ (runL_le _ _)]
  simp only [if_neg h2] at h0 h ⊢
  by_cases h3 : isB c 34 = true
  · simp only [if_pos h3, List.drop_succ_cons, List.drop_zero, List.length_cons, List.length_append] at h0 h ⊢
    have hle := runL_le isQuoted r
    by_cases h4 : (runL isQuoted r + 1 == r.length + 1 || !isB ((c :: r).getD (runL isQuoted r + 1) 0) 34) = true
    · rw [if_pos h4] at h0
      simp at h0
    · have h4' := h4
      simp only [Bool.or_eq_true, beq_iff_eq, not_or, Bool.not_eq_true, Bool.not_eq_true', Bool.not_eq_false] at h4'
      have hlt : runL isQuoted r < r.length := by omega
      have hr : runL isQuoted (r ++ rest) = runL isQuoted r := runL_ext (.inl hlt)
      rw [hr]
      have hg : (c :: (r ++ rest)).getD (runL isQuoted r + 1) 0 = (c :: r).getD (runL isQuoted r + 1) 0 := by
        simp only [List.getD_eq_getElem?_getD, List.getElem?_cons_succ]
        rw [List.getElem?_append_left hlt]
      rw [hg]
      have h5 : (runL isQuoted r + 1 == r.length + rest.length + 1 || !isB ((c :: r).getD (runL isQuoted r + 1) 0) 34) = false := by
        rw [Bool.or_eq_false_iff]
        refine ⟨by simp; omega, ?_⟩
        have : isB ((c :: r).getD (runL isQuoted r + 1) 0) 34 = true := by simpa [isB] using h4'.2
        rw [this]; rfl
      rw [if_neg h4, h5, if_neg (by simp), hT _ (by simp; omega)]
  simp only [if_neg h3] at h0 h ⊢
  by_cases h4 : isSign c = true
  · simp only [if_pos h4, List.take_succ_cons, List.take_zero]
  · rw [if_neg h4] at h0
    simp at h0
/-! ### all tokens -/
theorem toksF_fuel : ∀ (k j : Nat) (s : List UInt8) (a : Nat) (out : List Tok), s.length ≤ k → s.length ≤ j → toksF k s a out = toksF j s a out
  | 0, j, s, a, out, hk, hj => by
    obtain rfl := List.eq_nil_of_length_eq_zero (Nat.le_zero.1 hk)
    rw [toksF_nil, toksF_nil]
  | k + 1, j, [], a, out, hk, hj => by rw [toksF_nil, toksF_nil]
  | k + 1, 0, c :: r, a, out, hk, hj => by simp at hj
  | k + 1, j + 1, c :: r, a, out, hk, hj => by
    by_cases he : (tok (c :: r)).2.2.2 = 0
    · by_cases ho : out.length = 2000
      · rw [toksF_many he ho, toksF_many he ho]
      · rw [toksF_more he ho, toksF_more he ho]
        have hl := tok_len (by simp) he
        simp only [List.length_cons] at hk hj hl
        refine toksF_fuel k j _ _ _ ?_ ?_
        · simp only [List.length_drop, List.length_cons]; omega
        · simp only [List.length_drop, List.length_cons]; omega
    · rw [toksF_wrong he, toksF_wrong he]
/-- The tokens of a text that begins with one. -/
def toksW (s : List UInt8) (a : Nat) (out : List Tok) : List Tok × Nat × Nat := toksF s.length s a out
/-- The tokens of a text. -/
def toksR (s : List UInt8) (a : Nat) (out : List Tok) : List Tok × Nat × Nat := toksW (s.drop (gapN s)) (a + gapN s) out
theorem toks_R {s : List UInt8} (h : s.length ≤ 8000) : toks s = toksR s 0 [] := by
  unfold toks toksR toksW
  rw [if_neg (by omega), Nat.zero_add]
  exact toksF_fuel _ _ _ _ _ (by simp) (by simp)
theorem toksW_nil (a : Nat) (out : List Tok) : toksW [] a out = (out, 0, 0) := rfl
theorem toksW_step {c : UInt8} {r : List UInt8} {a : Nat} {out : List Tok} (h : (tok (c :: r)).2.2.2 = 0) (ho : out.length ≠ 2000) :
    toksW (c :: r) a out = toksR ((c :: r).drop (tok (c :: r)).2.2.1) (a + (tok (c :: r)).2.2.1) (out ++ [⟨(tok (c :: r)).1, a, (tok (c :: r)).2.1⟩]) := by
  unfold toksW toksR
  rw [List.length_cons, toksF_more h ho]
  have hl := tok_len (by simp) h
  simp only [List.length_cons] at hl
  exact toksF_fuel _ _ _ _ _ (by simp only [List.length_drop, List.length_cons]; omega) (by simp)
theorem toksW_ok {c : UInt8} {r : List UInt8} {a : Nat} {out ts : List Tok} (h : toksW (c :: r) a out = (ts, 0, 0)) : (tok (c :: r)).2.2.2 = 0 ∧ out.length ≠ 2000 := by
  unfold toksW at h
  rw [List.length_cons] at h
  by_cases he : (tok (c :: r)).2.2.2 = 0
  · refine ⟨he, fun ho => ?_⟩
    rw [toksF_many he ho] at h
    simp at h
  · rw [toksF_wrong he] at h
    simp only [Prod.mk.injEq] at h
    exact absurd h.2.1 he
/-- One token, and what is behind it. -/
theorem toksW_next {c : UInt8} {r : List UInt8} {a : Nat} {out ts : List Tok} (h : toksW (c :: r) a out = (ts, 0, 0)) :
    ∃ kd tx n, tok (c :: r) = (kd, tx, n, 0) ∧ 0 < n ∧ n ≤ (c :: r).length ∧ out.length ≠ 2000 ∧ toksR ((c :: r).drop n) (a + n) (out ++ [⟨kd, a, tx⟩]) = (ts, 0, 0) := by
  obtain ⟨h1, h2⟩ := toksW_ok h
  have hl := tok_len (by simp) h1
  rw [toksW_step h1 h2] at h
  refine ⟨(tok (c :: r)).1, (tok (c :: r)).2.1, (tok (c :: r)).2.2.1, ?_, hl.1, hl.2, h2, h⟩
  rw [← h1]
theorem toksW_of {c : UInt8} {r : List UInt8} {a n kd : Nat} {tx : List UInt8} {out : List Tok} (h : tok (c :: r) = (kd, tx, n, 0)) (ho : out.length ≠ 2000) :
    toksW (c :: r) a out = toksR ((c :: r).drop n) (a + n) (out ++ [⟨kd, a, tx⟩]) := by
  have := toksW_step (c := c) (r := r) (a := a) (out := out) (by rw [h]) ho
  rw [h] at this
  exact this
theorem toksW_pre : ∀ (m : Nat) (s : List UInt8) (a : Nat) (out ts : List Tok), s.length ≤ m → toksW s a out = (ts, 0, 0) → ∃ ts', ts = out ++ ts'
  | m, [], a, out, ts, _, h => by
    rw [toksW_nil] at h
    simp only [Prod.mk.injEq] at h
    exact ⟨[], by rw [← h.1]; simp⟩
  | 0, c :: r, a, out, ts, hm, h => by simp at hm
  | m + 1, c :: r, a, out, ts, hm, h => by
    obtain ⟨kd, tx, n, h1, h2, h3, h4, h5⟩ := toksW_next h
    simp only [List.length_cons] at hm h3
    obtain ⟨ts', rfl⟩ := toksW_pre m _ _ _ _ (by simp only [List.length_drop, List.length_cons]; omega) h5
    exact ⟨_, List.append_assoc ..⟩
/-- What was read before does not matter, but for how much it is. -/
theorem toksW_out : ∀ (m : Nat) (s : List UInt8) (a : Nat) (o1 o2 ts : List Tok), s.length ≤ m → toksW s a o1 = (o1 ++ ts, 0, 0) → o2.length + ts.length ≤ 2000 → toksW s a o2 = (o2 ++ ts, 0, 0)
  | m, [], a, o1, o2, ts, _, h, _ => by
    rw [toksW_nil] at h ⊢
    simp only [Prod.mk.injEq, and_true] at h
    obtain rfl : ts = [] := by simpa using h
    simp
  | 0, c :: r, a, o1, o2, ts, hm, h, _ => by simp at hm
  | m + 1, c :: r, a, o1, o2, ts, hm, h, ho => by
    obtain ⟨kd, tx, n, h1, h2, h3, h4, h5⟩ := toksW_next h
    simp only [List.length_cons] at hm h3
    obtain ⟨ts', hts⟩ := toksW_pre m _ _ _ _ (by simp only [List.length_drop, List.length_cons]; omega) h5
    rw [List.append_assoc, List.append_cancel_left_eq] at hts
    subst hts
    simp only [List.singleton_append, List.length_cons] at ho h5
    rw [toksW_of h1 (by omega)]
    have := toksW_out m (((c :: r).drop n).drop (gapN ((c :: r).drop n))) _ (o1 ++ [⟨kd, a, tx⟩]) (o2 ++ [⟨kd, a, tx⟩]) ts' (by simp only [List.length_drop, List.length_cons]; omega) (by rw [List.append_assoc]; exact h5) (by simp; omega)
    rw [List.append_assoc] at this
    exact this
/-- A token farther on. -/
def shT (d : Nat) (t : Tok) : Tok := ⟨t.kind, t.at_ + d, t.text⟩
theorem toksW_shift (d : Nat) : ∀ (m : Nat) (s : List UInt8) (a : Nat) (out ts : List Tok), s.length ≤ m → toksW s a out = (ts, 0, 0) → toksW s (a + d) (out.map (shT d)) = (ts.map (shT d), 0, 0)
  | m, [], a, out, ts, _, h => by
    rw [toksW_nil] at h ⊢
    simp only [Prod.mk.injEq, and_true] at h
    rw [h]
  | 0, c :: r, a, out, ts, hm, h => by simp at hm
  | m + 1, c :: r, a, out, ts, hm, h => by
    obtain ⟨kd, tx, n, h1, h2, h3, h4, h5⟩ := toksW_next h
    simp only [List.length_cons] at hm h3
    rw [toksW_of h1 (by rw [List.length_map]; exact h4)]
    have := toksW_shift d m (((c :: r).drop n).drop (gapN ((c :: r).drop n))) _ _ _ (by simp only [List.length_drop, List.length_cons]; omega) h5
    simp only [List.map_append, List.map_cons, List.map_nil, shT] at this
    unfold toksR
    have e : a + d + n + gapN ((c :: r).drop n) = a + n + gapN ((c :: r).drop n) + d := by omega
    rw [e]
    exact this
/-- More behind a text that ends with a sign. -/
theorem toksW_sign (rest : List UInt8) : ∀ (m : Nat) (s : List UInt8) (a : Nat) (out pre : List Tok) (b : UInt8), s.length ≤ m → s ≠ [] → toksW s a out = (pre ++ [⟨4, a + s.length - 1, [b]⟩], 0, 0) →
    toksW (s ++ rest) a out = toksR rest (a + s.length) (pre ++ [⟨4, a + s.length - 1, [b]⟩])
  | m, [], a, out, pre, b, _, hn, h => absurd rfl hn
  | 0, c :: r, a, out, pre, b, hm, _, h => by simp at hm
  | m + 1, c :: r, a, out, pre, b, hm, _, h => by
    obtain ⟨kd, tx, n, h1, h2, h3, h4, h5⟩ := toksW_next h
    rcases Nat.lt_or_ge (gapN ((c :: r).drop n)) ((c :: r).drop n).length with hg | hg
    · have hn : n < (c :: r).length := by
        simp only [List.length_drop] at hg
        omega
      have ht : tok (c :: r ++ rest) = (kd, tx, n, 0) := by rw [tok_ext (by rw [h1]) (.inl (by rw [h1]; exact hn)), h1]
      rw [List.cons_append] at ht ⊢
      rw [toksW_of ht h4, ← List.cons_append, List.drop_append_of_le_length (by omega)]
      unfold toksR at h5 ⊢
      have hge : gapN ((c :: r).drop n ++ rest) = gapN ((c :: r).drop n) := gapS_ext rest hg
      rw [hge, List.drop_append_of_le_length (by omega)]
      have hlen : a + n + gapN ((c :: r).drop n) + (((c :: r).drop n).drop (gapN ((c :: r).drop n))).length = a + (c :: r).length := by
        rw [List.length_drop, List.length_drop]
        rw [List.length_drop] at hg
        omega
      have := toksW_sign rest m (((c :: r).drop n).drop (gapN ((c :: r).drop n))) (a + n + gapN ((c :: r).drop n)) (out ++ [⟨kd, a, tx⟩]) pre b (by
          rw [List.length_drop, List.length_drop]; omega) (by
          intro e
          have := congrArg List.length e
          rw [List.length_drop, List.length_nil] at this
          omega) (by rw [hlen]; exact h5)
      rw [hlen] at this
      exact this
    · have hd : ((c :: r).drop n).drop (gapN ((c :: r).drop n)) = [] := List.drop_of_length_le hg
      unfold toksR at h5
      rw [hd, toksW_nil] at h5
      simp only [Prod.mk.injEq, and_true] at h5
      obtain ⟨hp, h6⟩ := List.append_inj' h5 rfl
      simp only [List.cons.injEq, and_true, Tok.mk.injEq] at h6
      obtain ⟨rfl, h7, rfl⟩ := h6
      obtain rfl : r = [] := by
        simp only [List.length_cons] at h7
        exact List.eq_nil_of_length_eq_zero (by omega)
      have hn1 : n = 1 := by simp at h3; omega
      subst hn1
      have hs : isSign c = true := by
        unfold tok at h1
        simp only at h1
        split at h1
        · simp only [Prod.mk.injEq] at h1
          split at h1 <;> simp at h1
        split at h1
        · simp at h1
        split at h1
        · split at h1 <;> simp at h1
        split at h1
        · rename_i hs; exact hs
        · simp at h1
      have ht : tok ([c] ++ rest) = (4, [b], 1, 0) := by rw [tok_ext (by rw [h1]) (.inr (.inr hs)), h1]
      rw [List.cons_append, List.nil_append] at ht ⊢
      rw [toksW_of ht h4, hp]
      simp
/-- A line's end, and more, behind a text. -/
theorem toksR_nl (t : List UInt8) : ∀ (m : Nat) (s : List UInt8) (a : Nat) (out ts : List Tok), s.length ≤ m → toksR s a out = (ts, 0, 0) → toksR (s ++ 10 :: t) a out = toksR t (a + s.length + 1) ts := by
  intro m
  induction m with
  | zero =>
    intro s a out ts hm h
    obtain rfl := List.eq_nil_of_length_eq_zero (Nat.le_zero.1 hm)
    unfold toksR at h ⊢
    rw [show gapN ([] ++ 10 :: t) = 0 + 1 + gapN t from gapS_all (s := []) t rfl]
    have : toksW [] (a + gapN []) out = (out, 0, 0) := rfl
    rw [List.drop_nil, this] at h
    simp only [Prod.mk.injEq, and_true] at h
    subst h
    simp only [List.nil_append, List.length_nil, Nat.zero_add, Nat.add_zero]
    rw [show 1 + gapN t = gapN t + 1 by omega, List.drop_succ_cons, show a + (gapN t + 1) = a + 1 + gapN t by omega]
  | succ m ih =>
    intro s a out ts hm h
    rcases Nat.lt_or_ge (gapN s) s.length with hg | hg
    · unfold toksR at h
      rw [toksR, show gapN (s ++ 10 :: t) = gapN s from gapS_ext _ hg, List.drop_append_of_le_length (by omega)]
      cases hd : s.drop (gapN s) with
      | nil =>
        have := congrArg List.length hd
        rw [List.length_drop, List.length_nil] at this
        omega
      | cons c r =>
        rw [hd] at h
        obtain ⟨kd, tx, n, h1, h2, h3, h4, h5⟩ := toksW_next h
        have ht : tok (c :: r ++ 10 :: t) = (kd, tx, n, 0) := by
          rw [tok_ext (by rw [h1]) (.inr (.inl (by
            intro b q e
            simp only [List.cons.injEq] at e
            rw [← e.1]
            decide))), h1]
        have hlen : s.length = gapN s + (c :: r).length := by
          rw [← hd, List.length_drop]
          omega
        rw [List.cons_append] at ht ⊢
        rw [toksW_of ht h4, ← List.cons_append, List.drop_append_of_le_length h3]
        rw [ih _ _ _ _ (by rw [List.length_drop]; omega) h5, List.length_drop]
        congr 1
        omega
    · have hge : gapN s = s.length := Nat.le_antisymm (gapN_le s) hg
      unfold toksR at h
      rw [List.drop_of_length_le hg, toksW_nil] at h
      simp only [Prod.mk.injEq, and_true] at h
      subst h
      unfold toksR
      rw [show gapN (s ++ 10 :: t) = s.length + 1 + gapN t from gapS_all t hge]
      rw [show s.length + 1 + gapN t = s.length + (1 + gapN t) by omega, List.drop_append, List.drop_of_length_le (by omega), List.nil_append, show s.length + (1 + gapN t) - s.length = gapN t + 1 by omega, List.drop_succ_cons]
      congr 1
      omega
end Go.Proofs.Ytknkkfdkcemolaa.Vm
end
section
/- Plain: how a reading goes on when more stands behind it, and it stands farther on. -/
set_option linter.unusedSimpArgs false
set_option linter.unusedVariables false
namespace Go.Proofs.Ytknkkfdkcemolaa.Vm
open Go
variable {m : Int}

/-- The same token, but for its place. -/
structure Same (t t' : Tok) : Prop where
  kind : t'.kind = t.kind
  text : t'.text = t.text
theorem Same.same (t : Tok) : Same t t := ⟨rfl, rfl⟩
theorem same_sh (d : Nat) (t : Tok) : Same t (shT d t) := ⟨rfl, rfl⟩
inductive All2 {α : Type} (R : α → α → Prop) : List α → List α → Prop
  | nil : All2 R [] []
  | cons {a b : α} {x y : List α} : R a b → All2 R x y → All2 R (a :: x) (b :: y)
abbrev far (d : Nat) (us ts : List Tok) : List Tok := ts.map (shT d) ++ us
variable {e e' d : Nat} {us : List Tok}
theorem takeP_far {k : Nat} {ts r : List Tok} {t : Tok} (h : takeP e k ts = .ok (t, r)) : takeP e' k (far d us ts) = .ok (shT d t, far d us r) := by
  obtain ⟨rfl, hk⟩ := takeP_len h
  simp only [far, List.map_cons, List.cons_append, takeP]
  rw [if_pos (show (shT d t).kind = k from hk)]
theorem isP_far {k : Nat} {x : List UInt8} {ts : List Tok} (h : ts ≠ [] ∨ us = []) : isP k x (far d us ts) = isP k x ts := by
  cases ts with
  | nil =>
    rcases h with h | h
    · exact absurd rfl h
    · subst h; rfl
  | cons t r => rfl
theorem wantP_far {k : Nat} {x : List UInt8} {ts r : List Tok} {t : Tok} (h : wantP e k x ts = .ok (t, r)) : wantP e' k x (far d us ts) = .ok (shT d t, far d us r) := by
  obtain ⟨h1, h2⟩ := wantP_ok h
  have hne : ts ≠ [] := by rintro rfl; cases h2
  unfold wantP
  rw [isP_far (.inl hne), if_pos h2]
  exact takeP_far h1
def SameA (a a' : AttrT) : Prop := Same a.word a'.word ∧ Same a.arg a'.arg
theorem argP_far {t t' x : Tok} {r r2 : List Tok} (h : argP e t r = .ok (x, r2)) (hs : Same t t') : ∃ x', Same x x' ∧ argP e' t' (far d us r) = .ok (x', far d us r2) := by
  unfold argP at h ⊢
  rw [hs.text]
  split at h
  · rename_i h1
    rw [if_pos h1]
    simp only [Except.ok.injEq, Prod.mk.injEq] at h
    obtain ⟨rfl, rfl⟩ := h
    exact ⟨_, .same _, rfl⟩
  rename_i h1
  rw [if_neg h1]
  split at h
  · rename_i h2
    rw [if_pos h2]
    exact ⟨_, same_sh d _, takeP_far h⟩
  rename_i h2
  rw [if_neg h2]
  split at h
  · rename_i h3
    rw [if_pos h3]
    have hne : r ≠ [] := by
      rintro rfl
      split at h <;> cases h
    rw [isP_far (.inl hne)]
    split at h
    · rename_i h4
      rw [if_pos h4]
      exact ⟨_, same_sh d _, takeP_far h⟩
    · rename_i h4
      rw [if_neg h4]
      exact ⟨_, same_sh d _, takeP_far h⟩
  rename_i h3
  rw [if_neg h3]
  split at h
  · rename_i h4
    rw [if_pos h4]
    exact ⟨_, same_sh d _, takeP_far h⟩
  · cases h
theorem attrP_far {ts r : List Tok} {a : AttrT} (h : attrP e ts = .ok (a, r)) : ∃ a', SameA a a' ∧ attrP e' (far d us ts) = .ok (a', far d us r) := by
  unfold attrP at h ⊢
  split at h
  · cases h
  rename_i t r1 h1
  split at h
  · cases h
  rename_i x r2 h2
  split at h
  · cases h
  rename_i y r3 h3
  simp only [Except.ok.injEq, Prod.mk.injEq] at h
  obtain ⟨rfl, rfl⟩ := h
  obtain ⟨x', hx, h2'⟩ := argP_far (e' := e') (d := d) (us := us) h2 (same_sh d t)
  refine ⟨⟨shT d t, x'⟩, ⟨same_sh d t, hx⟩, ?_⟩
  rw [takeP_far h1]
  simp only [h2']
  rw [wantP_far h3]
theorem attrsP_far : ∀ (n : Nat) (out : List AttrT) (ts : List Tok) (l : List AttrT) (r : List Tok), attrsP e n out ts = .ok (l, r) → ∀ (n' : Nat) (out' : List AttrT), n ≤ n' →
    ∃ l0 l0', l = out ++ l0 ∧ All2 SameA l0 l0' ∧ attrsP e' n' out' (far d us ts) = .ok (out' ++ l0', far d us r)
  | 0, out, ts, l, r, h, n', out', hn => by cases h
  | n + 1, out, ts, l, r, h, 0, out', hn => by omega
  | n + 1, out, ts, l, r, h, n' + 1, out', hn => by
    have hne : ts ≠ [] := by
      rintro rfl
      rw [attrsP, if_neg (by simp [isP])] at h
      cases h
    rw [attrsP] at h ⊢
    rw [isP_far (.inl hne)]
    split at h
    · rename_i h1
      rw [if_pos h1]
      simp only [Except.ok.injEq, Prod.mk.injEq] at h
      obtain ⟨rfl, rfl⟩ := h
      refine ⟨[], [], by simp, .nil, ?_⟩
      cases ts with
      | nil => exact absurd rfl hne
      | cons t r => simp [far]
    · rename_i h1
      rw [if_neg h1]
      obtain ⟨a, r1, h2, h3⟩ := andP_ok h
      obtain ⟨a', ha, h2'⟩ := attrP_far (e' := e') (d := d) (us := us) h2
      obtain ⟨l0, l0', rfl, hl, h4⟩ := attrsP_far n _ _ _ _ h3 n' (out' ++ [a']) (by omega)
      refine ⟨a :: l0, a' :: l0', by simp, .cons ha hl, ?_⟩
      rw [h2']
      simp only [andP]
      rw [h4]
      simp
/-! ### formulas -/
def SameT : Tree → Tree → Prop
  | .leaf w n, .leaf w' n' => Same w w' ∧ Same n n'
  | .un w k, .un w' k' => Same w w' ∧ SameT k k'
  | .bin w a b, .bin w' a' b' => Same w w' ∧ SameT a a' ∧ SameT b b'
  | _, _ => False
theorem moreP_far {next next' : List Tok → PR Tree} {word : List UInt8} (hlen : ∀ ts t r, next ts = .ok (t, r) → r.length < ts.length)
    (hn : ∀ ts t r, next ts = .ok (t, r) → (r ≠ [] ∨ us = []) → ∃ t', SameT t t' ∧ next' (far d us ts) = .ok (t', far d us r)) :
    ∀ (k : Nat) (t : Tree) (ts : List Tok) (t2 : Tree) (r : List Tok), moreP next e word k t ts = .ok (t2, r) → (r ≠ [] ∨ us = []) → ∀ (k' : Nat) (t' : Tree), k ≤ k' → SameT t t' →
    ∃ t2', SameT t2 t2' ∧ moreP next' e' word k' t' (far d us ts) = .ok (t2', far d us r)
  | 0, t, ts, t2, r, h, hr, k', t', hk, ht => by cases h
  | k + 1, t, ts, t2, r, h, hr, 0, t', hk, ht => by omega
  | k + 1, t, ts, t2, r, h, hr, k' + 1, t', hk, ht => by
    rw [moreP] at h ⊢
    split at h
    · rename_i h1
      have hne : ts ≠ [] := by rintro rfl; cases h1
      rw [isP_far (.inl hne), if_pos h1]
      split at h
      · cases h
      rename_i w r1 h2
      split at h
      · cases h
      rename_i b r2 h3
      have hr2 : r2 ≠ [] ∨ us = [] := hr.imp (fun hr e => by
        subst e
        have := moreP_len hlen _ _ _ _ _ h
        exact hr (List.eq_nil_of_length_eq_zero (Nat.le_zero.1 this))) id
      obtain ⟨b', hb, h3'⟩ := hn _ _ _ h3 hr2
      obtain ⟨t2', ht2, h4⟩ := moreP_far hlen hn k _ _ _ _ h hr k' (.bin (shT d w) t' b') (by omega) ⟨same_sh d w, ht, hb⟩
      refine ⟨t2', ht2, ?_⟩
      rw [takeP_far h2]
      simp only [h3']
      exact h4
    · rename_i h1
      simp only [Except.ok.injEq, Prod.mk.injEq] at h
      obtain ⟨rfl, rfl⟩ := h
      rw [isP_far hr, if_neg h1]
      exact ⟨t', ht, rfl⟩
theorem chainOf_far {next next' : List Tok → PR Tree} {word : List UInt8} (hlen : ∀ ts t r, next ts = .ok (t, r) → r.length < ts.length)
    (hn : ∀ ts t r, next ts = .ok (t, r) → (r ≠ [] ∨ us = []) → ∃ t', SameT t t' ∧ next' (far d us ts) = .ok (t', far d us r)) {ts r : List Tok} {t : Tree}
    (h : chainOf next e word ts = .ok (t, r)) (hr : r ≠ [] ∨ us = []) : ∃ t', SameT t t' ∧ chainOf next' e' word (far d us ts) = .ok (t', far d us r) := by
  unfold chainOf at h ⊢
  split at h
  · cases h
  rename_i t1 r1 h1
  have hr1 : r1 ≠ [] ∨ us = [] := hr.imp (fun hr e => by
    subst e
    have := moreP_len hlen _ _ _ _ _ h
    exact hr (List.eq_nil_of_length_eq_zero (Nat.le_zero.1 this))) id
  obtain ⟨t1', ht1, h1'⟩ := hn _ _ _ h1 hr1
  obtain ⟨t', ht, h2⟩ := moreP_far (e' := e') hlen hn _ _ _ _ _ h hr ((far d us r1).length + 1) t1' (by simp [far]) ht1
  refine ⟨t', ht, ?_⟩
  simp only [h1']
  exact h2
theorem formP_far : ∀ (n l : Nat) (ts : List Tok) (t : Tree) (r : List Tok), l < 3 → formP e n l ts = .ok (t, r) → (r ≠ [] ∨ us = []) → ∀ n', n ≤ n' → ∃ t', SameT t t' ∧ formP e' n' l (far d us ts) = .ok (t', far d us r)
  | 0, l, ts, t, r, _, h, hr, n', hn => by cases l <;> cases h
  | n + 1, l, ts, t, r, _, h, hr, 0, hn => by omega
  | n + 1, 2, ts, t, r, _, h, hr, n' + 1, hn => chainOf_far (next := formP e n 1) (next' := formP e' n' 1) (formP_len e n 1) (fun ts t r h hr => formP_far n 1 ts t r (by omega) h hr n' (by omega)) h hr
  | n + 1, 1, ts, t, r, _, h, hr, n' + 1, hn => chainOf_far (next := formP e n 0) (next' := formP e' n' 0) (formP_len e n 0) (fun ts t r h hr => formP_far n 0 ts t r (by omega) h hr n' (by omega)) h hr
  | n + 1, 0, ts, t, r, _, h, hr, n' + 1, hn => by
    rw [formP] at h ⊢
    case x_4 => decide
    case x_5 => decide
    case x_4 => decide
    case x_5 => decide
    have hne : ts ≠ [] := by
      rintro rfl
      simp [isP, takeP] at h
    rw [isP_far (.inl hne)]
    split at h
    · rename_i h1
      rw [if_pos h1]
      split at h
      · cases h
      rename_i t1 r1 h2
      split at h
      · cases h
      rename_i y r2 h3
      simp only [Except.ok.injEq, Prod.mk.injEq] at h
      obtain ⟨rfl, rfl⟩ := h
      have hr1 : r1 ≠ [] := by
        rintro rfl
        cases (wantP_ok h3).2
      obtain ⟨t', ht, h2'⟩ := formP_far n 2 _ _ _ (by omega) h2 (.inl hr1) n' (by omega)
      refine ⟨t', ht, ?_⟩
      have htl : (far d us ts).tail = far d us ts.tail := by
        cases ts with
        | nil => exact absurd rfl hne
        | cons t r => rfl
      rw [htl]
      simp only [h2']
      rw [wantP_far h3]
    · rename_i h1
      rw [if_neg h1]
      split at h
      · cases h
      rename_i w r1 h2
      rw [takeP_far h2]
      simp only
      rw [show (shT d w).text = w.text from rfl]
      split at h
      · rename_i h3
        rw [if_pos h3]
        split at h
        · cases h
        rename_i k r2 h4
        simp only [Except.ok.injEq, Prod.mk.injEq] at h
        obtain ⟨rfl, rfl⟩ := h
        obtain ⟨k', hk, h4'⟩ := formP_far n 0 _ _ _ (by omega) h4 hr n' (by omega)
        exact ⟨.un (shT d w) k', ⟨same_sh d w, hk⟩, by simp only [h4']⟩
      · rename_i h3
        rw [if_neg h3]
        split at h
        · rename_i h4
          rw [if_pos h4]
          split at h
          · cases h
          rename_i x r2 h5
          simp only [Except.ok.injEq, Prod.mk.injEq] at h
          obtain ⟨rfl, rfl⟩ := h
          exact ⟨.leaf (shT d w) (shT d x), ⟨same_sh d w, same_sh d x⟩, by rw [takeP_far h5]⟩
        · cases h
  | n + 1, l + 3, ts, t, r, hl, h, hr, n', hn => by omega
/-! ### items -/
def SameO : Option Tree → Option Tree → Prop
  | none, none => True
  | some t, some t' => SameT t t'
  | _, _ => False
structure ItemSame (d : Nat) (i i' : ItemT) : Prop where
  word : i'.word = shT d i.word
  name : Same i.name i'.name
  of_ : Same i.of_ i'.of_
  caps : Same i.caps i'.caps
  text : Same i.text i'.text
  attrs : All2 SameA i.attrs i'.attrs
  form : SameO i.form i'.form
theorem placedP_far {ts r : List Tok} {n : Tok × Tok} (h : placedP e ts = .ok (n, r)) : placedP e' (far d us ts) = .ok ((shT d n.1, shT d n.2), far d us r) := by
  unfold placedP at h ⊢
  split at h
  · cases h
  rename_i t r1 h1
  split at h
  · cases h
  rename_i x r2 h2
  split at h
  · cases h
  rename_i y r3 h3
  simp only [Except.ok.injEq, Prod.mk.injEq] at h
  obtain ⟨rfl, rfl⟩ := h
  rw [takeP_far h1]
  simp only
  rw [wantP_far h2]
  simp only
  rw [takeP_far h3]
theorem itemK_far {w : Tok} {r r2 : List Tok} {i : ItemT} (h : itemK e w r = .ok (i, r2)) : ∃ i', ItemSame d i i' ∧ itemK e' (shT d w) (far d us r) = .ok (i', far d us r2) := by
  have z := Same.same zeroTok
  unfold itemK at h ⊢
  rw [show (shT d w).text = w.text from rfl]
  split at h
  · rename_i h1
    rw [if_pos h1]
    obtain ⟨n, r1, a1, h⟩ := andP_ok h
    obtain ⟨x, r2, a2, h⟩ := andP_ok h
    obtain ⟨y, r3, a3, h⟩ := andP_ok h
    simp only [Except.ok.injEq, Prod.mk.injEq] at h
    obtain ⟨rfl, rfl⟩ := h
    exact ⟨{ word := shT d w, name := shT d n, text := shT d x }, ⟨rfl, same_sh d n, z, z, same_sh d x, .nil, trivial⟩, by rw [takeP_far a1]; simp only [andP]; rw [takeP_far a2]; simp only; rw [wantP_far a3]⟩
  rename_i h1
  rw [if_neg h1]
  split at h
  · rename_i h2
    rw [if_pos h2]
    obtain ⟨n, r1, a1, h⟩ := andP_ok h
    obtain ⟨x, r2, a2, h⟩ := andP_ok h
    obtain ⟨y, r3, a3, h⟩ := andP_ok h
    simp only [Except.ok.injEq, Prod.mk.injEq] at h
    obtain ⟨rfl, rfl⟩ := h
    exact ⟨{ word := shT d w, name := shT d n.1, of_ := shT d n.2, text := shT d x }, ⟨rfl, same_sh d _, same_sh d _, z, same_sh d x, .nil, trivial⟩, by rw [placedP_far a1]; simp only [andP]; rw [takeP_far a2]; simp only; rw [wantP_far a3]⟩
  rename_i h2
  rw [if_neg h2]
  split at h
  · rename_i h3
    rw [if_pos h3]
    obtain ⟨n, r1, a1, h⟩ := andP_ok h
    obtain ⟨y, r3, a3, h⟩ := andP_ok h
    simp only [Except.ok.injEq, Prod.mk.injEq] at h
    obtain ⟨rfl, rfl⟩ := h
    exact ⟨{ word := shT d w, name := shT d n }, ⟨rfl, same_sh d _, z, z, z, .nil, trivial⟩, by rw [takeP_far a1]; simp only [andP]; rw [wantP_far a3]⟩
  rename_i h3
  rw [if_neg h3]
  split at h
  · rename_i h4
    rw [if_pos h4]
    obtain ⟨y, r3, a3, h⟩ := andP_ok h
    simp only [Except.ok.injEq, Prod.mk.injEq] at h
    obtain ⟨rfl, rfl⟩ := h
    exact ⟨{ word := shT d w }, ⟨rfl, z, z, z, z, .nil, trivial⟩, by rw [wantP_far a3]; simp only [andP]⟩
  rename_i h4
  rw [if_neg h4]
  split at h
  · rename_i h5
    rw [if_pos h5]
    obtain ⟨n, r1, a1, h⟩ := andP_ok h
    obtain ⟨y, r3, a3, h⟩ := andP_ok h
    obtain ⟨t, r4, a4, h⟩ := andP_ok h
    obtain ⟨z2, r5, a5, h⟩ := andP_ok h
    simp only [Except.ok.injEq, Prod.mk.injEq] at h
    obtain ⟨rfl, rfl⟩ := h
    have hr4 : r4 ≠ [] := by
      rintro rfl
      cases (wantP_ok a5).2
    obtain ⟨t', ht, a4'⟩ := formP_far (e' := e') (d := d) (us := us) _ 2 _ _ _ (by omega) a4 (.inl hr4) (3 * (far d us r3).length + 3) (by simp [far]; omega)
    exact ⟨{ word := shT d w, name := shT d n, form := some t' }, ⟨rfl, same_sh d _, z, z, z, .nil, ht⟩, by rw [takeP_far a1]; simp only [andP]; rw [wantP_far a3]; simp only; rw [a4']; simp only; rw [wantP_far a5]⟩
  rename_i h5
  rw [if_neg h5]
  split at h
  · rename_i h6
    rw [if_pos h6]
    obtain ⟨n, r1, a1, h⟩ := andP_ok h
    obtain ⟨c, r2, a2, h⟩ := andP_ok h
    obtain ⟨x, r3, a3, h⟩ := andP_ok h
    obtain ⟨y, r4, a4, h⟩ := andP_ok h
    obtain ⟨l, r5, a5, h⟩ := andP_ok h
    simp only [Except.ok.injEq, Prod.mk.injEq] at h
    obtain ⟨rfl, rfl⟩ := h
    obtain ⟨l0, l', hl, hl', a5'⟩ := attrsP_far (e' := e') (d := d) (us := us) _ _ _ _ _ a5 ((far d us r4).length + 1) [] (by simp [far])
    rw [List.nil_append] at hl a5'
    subst hl
    exact ⟨{ word := shT d w, name := shT d n.1, of_ := shT d n.2, caps := shT d c, text := shT d x, attrs := l' }, ⟨rfl, same_sh d _, same_sh d _, same_sh d _, same_sh d _, hl', trivial⟩, by
      rw [placedP_far a1]; simp only [andP]; rw [takeP_far a2]; simp only; rw [takeP_far a3]; simp only; rw [wantP_far a4]; simp only; rw [a5']⟩
  · cases h
theorem itemP_far {ts r : List Tok} {i : ItemT} (h : itemP e ts = .ok (i, r)) : ∃ i', ItemSame d i i' ∧ itemP e' (far d us ts) = .ok (i', far d us r) := by
  unfold itemP at h ⊢
  obtain ⟨w, r1, a1, h⟩ := andP_ok h
  rw [takeP_far a1]
  exact itemK_far h
end Go.Proofs.Ytknkkfdkcemolaa.Vm
end
section
/- Plain: two descriptions one behind the other. -/
set_option linter.unusedSimpArgs false
set_option linter.unusedVariables false
namespace Go.Proofs.Ytknkkfdkcemolaa.Vm
open Go
variable {m : Int}

theorem All2.append {α : Type} {R : α → α → Prop} {a b x y : List α} (h : All2 R a b) (h' : All2 R x y) : All2 R (a ++ x) (b ++ y) := by
  induction h with
  | nil => exact h'
  | cons h1 h2 ih => exact .cons h1 ih
theorem All2.map {α β : Type} {R : α → α → Prop} {f g : α → β} (hf : ∀ a b, R a b → g b = f a) {x y : List α} (h : All2 R x y) : y.map g = x.map f := by
  induction h with
  | nil => rfl
  | cons h1 h2 ih => rw [List.map_cons, List.map_cons, hf _ _ h1, ih]
theorem itemsP_far {e e' d mm : Nat} {us : List Tok} : ∀ (n : Nat) (out : List ItemT) (ts : List Tok) (l : List ItemT), itemsP e n out ts = .ok l → ∀ (n' : Nat) (out' : List ItemT), ts.length + mm ≤ n' →
    ∃ l0 l0' n'', l = out ++ l0 ∧ All2 (ItemSame d) l0 l0' ∧ mm ≤ n'' ∧ itemsP e' n' out' (far d us ts) = itemsP e' n'' (out' ++ l0') us
  | 0, out, ts, l, h, n', out', hn => by cases h
  | n + 1, out, [], l, h, n', out', hn => by
    rw [itemsP] at h
    simp only [Except.ok.injEq] at h
    subst h
    exact ⟨[], [], n', by simp, .nil, by simpa using hn, by simp [far]⟩
  | n + 1, out, t :: r, l, h, 0, out', hn => by simp at hn
  | n + 1, out, t :: r, l, h, n' + 1, out', hn => by
    rw [itemsP] at h
    split at h
    · cases h
    rename_i i r2 h1
    have hl := itemP_len h1
    simp only [List.length_cons] at hl hn
    obtain ⟨i', hi, h1'⟩ := itemP_far (e' := e') (d := d) (us := us) h1
    obtain ⟨l0, l0', n'', rfl, hl0, hm, h2⟩ := itemsP_far (mm := mm) n _ _ _ h n' (out' ++ [i']) (by omega)
    refine ⟨i :: l0, i' :: l0', n'', by simp, .cons hi hl0, hm, ?_⟩
    have h1'' : itemP e' (shT d t :: (r.map (shT d) ++ us)) = .ok (i', far d us r2) := h1'
    show itemsP e' (n' + 1) out' (shT d t :: (r.map (shT d) ++ us)) = _
    rw [itemsP, h1'']
    simp only
    rw [h2]
    simp
theorem itemsP_fuel {e : Nat} : ∀ (k j : Nat) (out : List ItemT) (ts : List Tok), ts.length < k → ts.length < j → itemsP e k out ts = itemsP e j out ts
  | 0, j, out, ts, hk, hj => by omega
  | k + 1, 0, out, ts, hk, hj => by omega
  | k + 1, j + 1, out, [], hk, hj => by rw [itemsP, itemsP]
  | k + 1, j + 1, out, t :: r, hk, hj => by
    rw [itemsP, itemsP]
    split
    · rfl
    · rename_i i r2 h
      have := itemP_len h
      simp only [List.length_cons] at this hk hj
      exact itemsP_fuel k j _ _ (by omega) (by omega)
/-! ### how it is shown -/
theorem quotS_same {t t' : Tok} (h : Same t t') : quotS t' = quotS t := by unfold quotS; rw [h.kind, h.text]
theorem attrS_same {a a' : AttrT} (h : SameA a a') : attrS a' = attrS a := by unfold attrS; rw [h.2.kind, h.1.text, quotS_same h.2]
theorem treeS_same : ∀ {t t' : Tree}, SameT t t' → treeS t' = treeS t ∧ depthT t' = depthT t
  | .leaf w n, .leaf w' n', h => by
    obtain ⟨h1, h2⟩ := h
    exact ⟨by simp only [treeS]; rw [h1.text, h2.kind, h2.text], rfl⟩
  | .un w k, .un w' k', h => by
    obtain ⟨h1, h2⟩ := h
    obtain ⟨i1, i2⟩ := treeS_same h2
    exact ⟨by simp only [treeS]; rw [h1.text, i1], by simp only [depthT]; rw [i2]⟩
  | .bin w a b, .bin w' a' b', h => by
    obtain ⟨h1, h2, h3⟩ := h
    obtain ⟨i1, i2⟩ := treeS_same h2
    obtain ⟨j1, j2⟩ := treeS_same h3
    exact ⟨by simp only [treeS]; rw [h1.text, i1, j1], by simp only [depthT]; rw [i2, j2]⟩
  | .leaf w n, .un w' k', h => h.elim
  | .leaf w n, .bin w' a' b', h => h.elim
  | .un w n, .leaf w' k', h => h.elim
  | .un w n, .bin w' a' b', h => h.elim
  | .bin w a b, .leaf w' k', h => h.elim
  | .bin w a b, .un w' a', h => h.elim
theorem lineS_same {d : Nat} {i i' : ItemT} (h : ItemSame d i i') : lineS i' = lineS i := by
  have hw : i'.word.text = i.word.text := by rw [h.word]; rfl
  unfold lineS wordsS attrsS
  rw [hw, h.name.text, h.of_.text, h.caps.text, quotS_same h.text, h.attrs.map (f := fun a => 32 :: 40 :: attrS a ++ [41]) (g := fun a => 32 :: 40 :: attrS a ++ [41]) (fun a b hab => by rw [attrS_same hab])]
  have hf := h.form
  cases h1 : i.form with
  | none =>
    cases h2 : i'.form with
    | none => rfl
    | some t => rw [h1, h2] at hf; exact hf.elim
  | some t =>
    cases h2 : i'.form with
    | none => rw [h1, h2] at hf; exact hf.elim
    | some t' =>
      rw [h1, h2] at hf
      simp only
      rw [(treeS_same hf).1]
theorem depthO_same {d : Nat} {i i' : ItemT} (h : ItemSame d i i') : depthO i'.form = depthO i.form := by
  have hf := h.form
  cases h1 : i.form with
  | none =>
    cases h2 : i'.form with
    | none => rfl
    | some t => rw [h1, h2] at hf; exact hf.elim
  | some t =>
    cases h2 : i'.form with
    | none => rw [h1, h2] at hf; exact hf.elim
    | some t' =>
      rw [h1, h2] at hf
      exact (treeS_same hf).2
theorem dumpS_same {d : Nat} {l l' : List ItemT} (h : All2 (ItemSame d) l l') : dumpS l' = dumpS l := by
  unfold dumpS
  rw [h.map (f := lineS) (g := lineS) (fun a b hab => lineS_same hab)]
theorem deepL_same {d : Nat} {l l' : List ItemT} (h : All2 (ItemSame d) l l') : deepL l' = deepL l := by
  unfold deepL
  induction h with
  | nil => rfl
  | cons h1 h2 ih => rw [List.any_cons, List.any_cons, ih, depthO_same h1]
theorem ats_same {d : Nat} {l l' : List ItemT} (h : All2 (ItemSame d) l l') : l'.map (fun i => (i.word.at_ : Int)) = l.map fun i => (i.word.at_ : Int) + d :=
  h.map fun a b hab => by rw [hab.word]; simp [shT]
theorem dumpS_app (a b : List ItemT) : dumpS (a ++ b) = dumpS a ++ dumpS b := by simp [dumpS]
theorem deepL_app (a b : List ItemT) : deepL (a ++ b) = (deepL a || deepL b) := by simp [deepL]
theorem toksF_zero : ∀ (k : Nat) (s : List UInt8) (a : Nat) (out : List Tok), (toksF k s a out).2.1 = 0 → (toksF k s a out).2.2 = 0
  | 0, s, a, out, h => rfl
  | k + 1, [], a, out, h => rfl
  | k + 1, c :: r, a, out, h => by
    by_cases he : (tok (c :: r)).2.2.2 = 0
    · by_cases ho : out.length = 2000
      · rw [toksF_many he ho] at h
        simp at h
      · rw [toksF_more he ho] at h ⊢
        exact toksF_zero k _ _ _ h
    · rw [toksF_wrong he] at h
      exact absurd h he
theorem toksR_zero {s : List UInt8} {a : Nat} {out : List Tok} (h : (toksR s a out).2.1 = 0) : (toksR s a out).2.2 = 0 := toksF_zero _ _ _ _ h
theorem toksR_le : ∀ (m : Nat) (s : List UInt8) (a : Nat) (out ts : List Tok), s.length ≤ m → toksR s a out = (ts, 0, 0) → ts.length ≤ out.length + s.length
  | m, s, a, out, ts, hm, h => by
    unfold toksR at h
    cases hd : s.drop (gapN s) with
    | nil =>
      rw [hd, toksW_nil] at h
      simp only [Prod.mk.injEq, and_true] at h
      rw [← h]
      omega
    | cons c r =>
      rw [hd] at h
      obtain ⟨kd, tx, n, h1, h2, h3, h4, h5⟩ := toksW_next h
      have hlen : s.length = gapN s + (c :: r).length := by
        rw [← hd, List.length_drop]
        have := gapN_le s
        omega
      match m, hm with
      | 0, hm =>
        simp only [List.length_cons] at hlen
        omega
      | m + 1, hm =>
      have := toksR_le m _ _ _ _ (by rw [List.length_drop]; simp only [List.length_cons] at hlen ⊢; omega) h5
      rw [List.length_drop] at this
      simp only [List.length_append, List.length_cons, List.length_nil] at this hlen h3
      omega
/-! ### what a text that is one has -/
theorem readP_zero {s : List UInt8} (h : (readP s).2.1 = 0) : ∃ ts l, s.length ≤ 8000 ∧ toksR s 0 [] = (ts, 0, 0) ∧ itemsP s.length (ts.length + 1) [] ts = .ok l ∧ deepL l = false ∧ readP s = (l, 0, 0) := by
  have hs : s.length ≤ 8000 := by
    rcases Nat.lt_or_ge 8000 s.length with h1 | h1
    · unfold readP at h
      have h2 : toks s = ([], 6, 0) := by unfold toks; rw [if_pos h1]
      rw [h2, if_pos (by decide)] at h
      cases h
    · exact h1
  rw [readP, toks_R hs] at h ⊢
  split at h
  · rename_i h1
    exact absurd h h1
  rename_i h1
  rw [if_neg h1]
  split at h
  · cases h
  rename_i l hl
  split at h
  · cases h
  rename_i hd
  have hd' : deepL l = false := by simpa using hd
  simp only [Decidable.not_not] at h1
  have h2 : (toksR s 0 []).2.2 = 0 := toksR_zero h1
  refine ⟨(toksR s 0 []).1, l, hs, Prod.ext rfl (Prod.ext h1 h2), hl, hd', ?_⟩
  simp only [hd', Bool.false_eq_true, if_false]
theorem readP_of {s : List UInt8} {ts : List Tok} {l : List ItemT} (hs : s.length ≤ 8000) (ht : toksR s 0 [] = (ts, 0, 0)) {n : Nat} (hl : itemsP s.length n [] ts = .ok l) (hn : ts.length < n) (hd : deepL l = false) : readP s = (l, 0, 0) := by
  unfold readP
  rw [toks_R hs, ht, if_neg (by simp)]
  have : itemsP s.length (ts.length + 1) [] ts = .ok l := by rw [← hl]; exact itemsP_fuel _ _ _ _ (by omega) hn
  simp only [this, hd, Bool.false_eq_true, if_false]
/-- Two descriptions, a line's end between them. -/
theorem readP_joins {s t : List UInt8} (hs : s.length ≤ 900) (ht : t.length ≤ 900) (h1 : (readP s).2.1 = 0) (h2 : (readP t).2.1 = 0) :
    (readP s).2 = (0, 0) ∧ (readP t).2 = (0, 0) ∧ (readP (s ++ 10 :: t)).2 = (0, 0) ∧ dumpS (readP (s ++ 10 :: t)).1 = dumpS (readP s).1 ++ dumpS (readP t).1 ∧ begins (s ++ 10 :: t) = begins s ++ (begins t).map (· + ((s.length + 1 : Nat) : Int)) := by
  obtain ⟨ts, l, _, a1, a2, a3, a4⟩ := readP_zero h1
  obtain ⟨us, k, _, b1, b2, b3, b4⟩ := readP_zero h2
  have c1 := toksR_nl t _ _ _ _ _ (Nat.le_refl _) a1
  rw [Nat.zero_add] at c1
  have lt := toksR_le s.length s 0 [] ts (Nat.le_refl _) a1
  have lu := toksR_le t.length t 0 [] us (Nat.le_refl _) b1
  simp only [List.length_nil, Nat.zero_add] at lt lu
  have c2 : toksR t (s.length + 1) ts = (ts ++ us.map (shT (s.length + 1)), 0, 0) := by
    unfold toksR at b1 ⊢
    have h3 := toksW_shift (s.length + 1) _ _ _ _ _ (Nat.le_refl _) b1
    rw [List.map_nil] at h3
    have h4 := toksW_out _ _ _ [] ts (us.map (shT (s.length + 1))) (Nat.le_refl _) (by rw [List.nil_append]; exact h3) (by rw [List.length_map]; omega)
    rw [show s.length + 1 + gapN t = 0 + gapN t + (s.length + 1) by omega]
    exact h4
  rw [c2] at c1
  obtain ⟨l0, l', n2, hl, hl', hn2, d1⟩ := itemsP_far (e' := (s ++ 10 :: t).length) (d := 0) (us := us.map (shT (s.length + 1))) (mm := us.length + 1) _ _ _ _ a2 (ts.length + (us.length + 1)) [] (Nat.le_refl _)
  obtain ⟨k0, k', n3, hk, hk', hn3, d2⟩ := itemsP_far (e' := (s ++ 10 :: t).length) (d := s.length + 1) (us := []) (mm := 1) _ _ _ _ b2 n2 l' hn2
  rw [List.nil_append] at hl hk d1
  subst hl hk
  have e0 : far 0 (us.map (shT (s.length + 1))) ts = ts ++ us.map (shT (s.length + 1)) := by
    have : ts.map (shT 0) = ts := by
      conv => rhs; rw [← List.map_id ts]
      rfl
    rw [far, this]
  have e1 : far (s.length + 1) [] us = us.map (shT (s.length + 1)) := by simp [far]
  rw [e0] at d1
  rw [e1] at d2
  rw [d2] at d1
  obtain ⟨n4, rfl⟩ : ∃ n4, n3 = n4 + 1 := ⟨n3 - 1, by omega⟩
  rw [itemsP] at d1
  have hd : deepL (l' ++ k') = false := by rw [deepL_app, deepL_same hl', deepL_same hk', a3, b3, Bool.or_false]
  have hr := readP_of (s := s ++ 10 :: t) (by simp; omega) c1 d1 (by simp) hd
  rw [hr, a4, b4]
  refine ⟨rfl, rfl, rfl, ?_, ?_⟩
  · rw [dumpS_app, dumpS_same hl', dumpS_same hk']
  · unfold begins
    rw [hr, a4, b4]
    simp only [List.map_append]
    rw [ats_same hl', ats_same hk', List.map_map]
    congr 1
end Go.Proofs.Ytknkkfdkcemolaa.Vm
end
section
/- Plain: a reading without what it does not look at. -/
set_option linter.unusedSimpArgs false
set_option linter.unusedVariables false
namespace Go.Proofs.Ytknkkfdkcemolaa.Vm
open Go
variable {m : Int}

variable {e e' : Nat} {us : List Tok}
theorem takeP_near {k : Nat} {T r0 : List Tok} {t : Tok} (h : takeP e k T = .ok (t, r0 ++ us)) : T = (t :: r0) ++ us ∧ t.kind = k ∧ takeP e' k (t :: r0) = .ok (t, r0) := by
  obtain ⟨rfl, hk⟩ := takeP_len h
  exact ⟨rfl, hk, by rw [takeP, if_pos hk]⟩
theorem isP_cons {k : Nat} {x : List UInt8} {t : Tok} {r r' : List Tok} : isP k x (t :: r) = isP k x (t :: r') := rfl
theorem isP_near {k : Nat} {x : List UInt8} {t0 : List Tok} (h : ¬ isP k x (t0 ++ us) = true) : ¬ isP k x t0 = true := by
  cases t0 with
  | nil => simp [isP]
  | cons t r => exact h
theorem wantP_near {k : Nat} {x : List UInt8} {T r0 : List Tok} {t : Tok} (h : wantP e k x T = .ok (t, r0 ++ us)) : T = (t :: r0) ++ us ∧ wantP e' k x (t :: r0) = .ok (t, r0) := by
  obtain ⟨h1, h2⟩ := wantP_ok h
  obtain ⟨rfl, hk, h3⟩ := takeP_near (e' := e') h1
  refine ⟨rfl, ?_⟩
  unfold wantP
  rw [if_pos (by exact h2)]
  exact h3
theorem argP_near {t x : Tok} {T r0 : List Tok} (h : argP e t T = .ok (x, r0 ++ us)) : ∃ t0, T = t0 ++ us ∧ argP e' t t0 = .ok (x, r0) := by
  unfold argP at h
  split at h
  · rename_i h1
    simp only [Except.ok.injEq, Prod.mk.injEq] at h
    obtain ⟨rfl, rfl⟩ := h
    exact ⟨r0, rfl, by unfold argP; rw [if_pos h1]⟩
  rename_i h1
  split at h
  · rename_i h2
    obtain ⟨rfl, _, h3⟩ := takeP_near (e' := e') h
    exact ⟨_, rfl, by unfold argP; rw [if_neg h1, if_pos h2]; exact h3⟩
  rename_i h2
  split at h
  · rename_i h3
    split at h
    · rename_i h4
      obtain ⟨rfl, _, h5⟩ := takeP_near (e' := e') h
      exact ⟨_, rfl, by unfold argP; rw [if_neg h1, if_neg h2, if_pos h3, if_pos (by exact h4)]; exact h5⟩
    · rename_i h4
      obtain ⟨rfl, _, h5⟩ := takeP_near (e' := e') h
      exact ⟨_, rfl, by unfold argP; rw [if_neg h1, if_neg h2, if_pos h3, if_neg (by exact h4)]; exact h5⟩
  rename_i h3
  split at h
  · rename_i h4
    obtain ⟨rfl, _, h5⟩ := takeP_near (e' := e') h
    exact ⟨_, rfl, by unfold argP; rw [if_neg h1, if_neg h2, if_neg h3, if_pos h4]; exact h5⟩
  · cases h
theorem attrP_near {T r0 : List Tok} {a : AttrT} (h : attrP e T = .ok (a, r0 ++ us)) : ∃ t0, T = t0 ++ us ∧ r0.length < t0.length ∧ attrP e' t0 = .ok (a, r0) := by
  unfold attrP at h
  split at h
  · cases h
  rename_i t r1 h1
  split at h
  · cases h
  rename_i x r2 h2
  split at h
  · cases h
  rename_i y r3 h3
  simp only [Except.ok.injEq, Prod.mk.injEq] at h
  obtain ⟨rfl, rfl⟩ := h
  obtain ⟨rfl, h3'⟩ := wantP_near (e' := e') h3
  obtain ⟨t1, rfl, h2'⟩ := argP_near (e' := e') h2
  obtain ⟨rfl, _, h1'⟩ := takeP_near (e' := e') h1
  have hA : attrP e' (t :: t1) = .ok (⟨t, x⟩, r0) := by
    unfold attrP
    rw [h1']
    simp only [h2']
    rw [h3']
  exact ⟨_, rfl, attrP_len hA, hA⟩
theorem attrsP_near : ∀ (n : Nat) (out : List AttrT) (T : List Tok) (l : List AttrT) (r0 : List Tok), attrsP e n out T = .ok (l, r0 ++ us) →
    ∃ t0, T = t0 ++ us ∧ ∀ n', t0.length < n' → attrsP e' n' out t0 = .ok (l, r0)
  | 0, out, T, l, r0, h => by cases h
  | n + 1, out, T, l, r0, h => by
    rw [attrsP] at h
    split at h
    · rename_i h1
      simp only [Except.ok.injEq, Prod.mk.injEq] at h
      obtain ⟨rfl, h2⟩ := h
      obtain ⟨t, r, rfl, _⟩ := isP_take (e := e) h1
      rw [List.tail_cons] at h2
      subst h2
      refine ⟨t :: r0, rfl, fun n' hn => ?_⟩
      obtain ⟨m, rfl⟩ : ∃ m, n' = m + 1 := ⟨n' - 1, by omega⟩
      rw [attrsP, if_pos (by exact h1)]
      rfl
    · rename_i h1
      obtain ⟨a, r1, h2, h3⟩ := andP_ok h
      obtain ⟨t1, rfl, h3'⟩ := attrsP_near n _ _ _ _ h3
      obtain ⟨t0, rfl, hl, h2'⟩ := attrP_near (e' := e') h2
      refine ⟨t0, rfl, fun n' hn => ?_⟩
      obtain ⟨m, rfl⟩ : ∃ m, n' = m + 1 := ⟨n' - 1, by omega⟩
      rw [attrsP, if_neg (isP_near h1), h2']
      simp only [andP]
      exact h3' m (by omega)
/-! ### formulas -/
theorem moreP_near {next next' : List Tok → PR Tree} {word : List UInt8} {N : Nat} (hlen : ∀ ts t r, next' ts = .ok (t, r) → r.length < ts.length)
    (hn : ∀ T t r0, next T = .ok (t, r0 ++ us) → ∃ t0, T = t0 ++ us ∧ (t0.length ≤ N → next' t0 = .ok (t, r0))) :
    ∀ (k : Nat) (t : Tree) (T : List Tok) (t2 : Tree) (r0 : List Tok), moreP next e word k t T = .ok (t2, r0 ++ us) →
    ∃ t0, T = t0 ++ us ∧ (t0.length ≤ N → ∀ k', t0.length < k' → moreP next' e' word k' t t0 = .ok (t2, r0))
  | 0, t, T, t2, r0, h => by cases h
  | k + 1, t, T, t2, r0, h => by
    rw [moreP] at h
    split at h
    · rename_i h1
      split at h
      · cases h
      rename_i w r1 h2
      split at h
      · cases h
      rename_i b r2 h3
      obtain ⟨t2', rfl, h4⟩ := moreP_near hlen hn k _ _ _ _ h
      obtain ⟨t1, rfl, h3'⟩ := hn _ _ _ h3
      obtain ⟨rfl, _, h2'⟩ := takeP_near (e' := e') h2
      refine ⟨_, rfl, fun hN k' hk => ?_⟩
      simp only [List.length_cons] at hN hk
      obtain ⟨m, rfl⟩ : ∃ m, k' = m + 1 := ⟨k' - 1, by omega⟩
      have h5 := h3' (by omega)
      have h6 := hlen _ _ _ h5
      rw [moreP, if_pos (by exact h1), h2']
      simp only [h5]
      exact h4 (by omega) m (by omega)
    · rename_i h1
      simp only [Except.ok.injEq, Prod.mk.injEq] at h
      obtain ⟨rfl, rfl⟩ := h
      refine ⟨r0, rfl, fun hN k' hk => ?_⟩
      obtain ⟨m, rfl⟩ : ∃ m, k' = m + 1 := ⟨k' - 1, by omega⟩
      rw [moreP, if_neg (isP_near h1)]
theorem chainOf_near {next : List Tok → PR Tree} {word : List UInt8} {T r0 : List Tok} {t : Tree} (h : chainOf next e word T = .ok (t, r0 ++ us)) :
    ∀ (c : Nat) (F : Nat → List Tok → PR Tree) (hlen : ∀ n ts t r, F n ts = .ok (t, r) → r.length < ts.length)
    (hn : ∀ T t r0, next T = .ok (t, r0 ++ us) → ∃ t0, T = t0 ++ us ∧ ∀ n, 3 * t0.length + c < n → F n t0 = .ok (t, r0)),
    ∃ t0, T = t0 ++ us ∧ ∀ n, 3 * t0.length + c < n → chainOf (F n) e' word t0 = .ok (t, r0) := by
  intro c F hlen hn
  unfold chainOf at h
  split at h
  · cases h
  rename_i t1 r1 h1
  have key : ∀ N, ∃ t1', r1 = t1' ++ us ∧ (t1'.length ≤ N → ∀ k', t1'.length < k' → moreP (F (3 * N + c + 1)) e' word k' t1 t1' = .ok (t, r0)) := fun N =>
    moreP_near (N := N) (hlen _) (fun T t r0 h => by
      obtain ⟨t0, h2, h3⟩ := hn T t r0 h
      exact ⟨t0, h2, fun hN => h3 _ (by omega)⟩) _ _ _ _ _ h
  obtain ⟨t1', rfl, _⟩ := key 0
  obtain ⟨t0, rfl, h1'⟩ := hn _ _ _ h1
  refine ⟨t0, rfl, fun n hn' => ?_⟩
  have h2 := h1' n (by omega)
  have h3 := hlen _ _ _ _ h2
  have h4 : ∃ t1'', t1' ++ us = t1'' ++ us ∧ (t1''.length ≤ t0.length → ∀ k', t1''.length < k' → moreP (F n) e' word k' t1 t1'' = .ok (t, r0)) :=
    moreP_near (N := t0.length) (hlen _) (fun T t r0 h => by
      obtain ⟨s0, h5, h6⟩ := hn T t r0 h
      exact ⟨s0, h5, fun hN => h6 _ (by omega)⟩) _ _ _ _ _ h
  obtain ⟨t1'', h5, h6⟩ := h4
  obtain rfl := List.append_cancel_right h5
  unfold chainOf
  simp only [h2]
  exact h6 (by omega) _ (by omega)
theorem formP_near : ∀ (n l : Nat) (T : List Tok) (t : Tree) (r0 : List Tok), l < 3 → formP e n l T = .ok (t, r0 ++ us) → ∃ t0, T = t0 ++ us ∧ ∀ n', 3 * t0.length + l < n' → formP e' n' l t0 = .ok (t, r0)
  | 0, l, T, t, r0, _, h => by cases l <;> cases h
  | n + 1, 2, T, t, r0, _, h => by
    obtain ⟨t0, h1, h2⟩ := chainOf_near (e' := e') (next := formP e n 1) (word := [111, 114]) h 1 (fun n => formP e' n 1) (fun n => formP_len e' n 1) (fun T t r0 h => formP_near n 1 T t r0 (by omega) h)
    refine ⟨t0, h1, fun n' hn => ?_⟩
    obtain ⟨m, rfl⟩ : ∃ m, n' = m + 1 := ⟨n' - 1, by omega⟩
    exact h2 m (by omega)
  | n + 1, 1, T, t, r0, _, h => by
    obtain ⟨t0, h1, h2⟩ := chainOf_near (e' := e') (next := formP e n 0) (word := [97, 110, 100]) h 0 (fun n => formP e' n 0) (fun n => formP_len e' n 0) (fun T t r0 h => formP_near n 0 T t r0 (by omega) h)
    refine ⟨t0, h1, fun n' hn => ?_⟩
    obtain ⟨m, rfl⟩ : ∃ m, n' = m + 1 := ⟨n' - 1, by omega⟩
    exact h2 m (by omega)
  | n + 1, 0, T, t, r0, _, h => by
    rw [formP] at h
    case x_4 => decide
    case x_5 => decide
    have fold : ∀ m (t0 : List Tok), formP e' (m + 1) 0 t0 = if isP 4 [40] t0 then (match formP e' m 2 t0.tail with
      | .error a => .error a
      | .ok (t, r) => match wantP e' 4 [41] r with
        | .error a => .error a
        | .ok (_, r2) => .ok (t, r2))
      else match takeP e' 2 t0 with
        | .error a => .error a
        | .ok (w, r) => if w.text = [110, 111, 116] then (match formP e' m 0 r with
            | .error a => .error a
            | .ok (k, r2) => .ok (.un w k, r2))
          else if w.text ∈ factW then (match takeP e' 1 r with
            | .error a => .error a
            | .ok (x, r2) => .ok (.leaf w x, r2))
          else .error w.at_ := fun m t0 => by
      rw [formP]
      case x_4 => decide
      case x_5 => decide
      rfl
    split at h
    · rename_i h1
      split at h
      · cases h
      rename_i t1 r1 h2
      split at h
      · cases h
      rename_i y r2 h3
      simp only [Except.ok.injEq, Prod.mk.injEq] at h
      obtain ⟨rfl, rfl⟩ := h
      obtain ⟨rfl, h3'⟩ := wantP_near (e' := e') h3
      obtain ⟨s0, h4, h5⟩ := formP_near n 2 _ _ _ (by omega) h2
      obtain ⟨u, r, rfl, _⟩ := isP_take (e := e) h1
      rw [List.tail_cons] at h4
      subst h4
      refine ⟨u :: s0, rfl, fun n' hn => ?_⟩
      obtain ⟨m, rfl⟩ : ∃ m, n' = m + 1 := ⟨n' - 1, by omega⟩
      simp only [List.length_cons] at hn
      rw [fold, if_pos (by exact h1), List.tail_cons, h5 m (by omega)]
      simp only
      rw [h3']
    · rename_i h1
      split at h
      · cases h
      rename_i w r1 h2
      split at h
      · rename_i h3
        split at h
        · cases h
        rename_i k r2 h4
        simp only [Except.ok.injEq, Prod.mk.injEq] at h
        obtain ⟨rfl, rfl⟩ := h
        obtain ⟨s0, rfl, h5⟩ := formP_near n 0 _ _ _ (by omega) h4
        obtain ⟨rfl, _, h2'⟩ := takeP_near (e' := e') h2
        refine ⟨w :: s0, rfl, fun n' hn => ?_⟩
        obtain ⟨m, rfl⟩ : ∃ m, n' = m + 1 := ⟨n' - 1, by omega⟩
        simp only [List.length_cons] at hn
        rw [fold, if_neg (by exact h1), h2']
        simp only [h3, if_true]
        rw [h5 m (by omega)]
      · rename_i h3
        split at h
        · rename_i h4
          split at h
          · cases h
          rename_i x r2 h5
          simp only [Except.ok.injEq, Prod.mk.injEq] at h
          obtain ⟨rfl, rfl⟩ := h
          obtain ⟨rfl, _, h5'⟩ := takeP_near (e' := e') h5
          obtain ⟨rfl, _, h2'⟩ := takeP_near (e' := e') (r0 := x :: r0) (us := us) h2
          refine ⟨w :: x :: r0, rfl, fun n' hn => ?_⟩
          obtain ⟨m, rfl⟩ : ∃ m, n' = m + 1 := ⟨n' - 1, by omega⟩
          rw [fold, if_neg (by exact h1), h2']
          simp only [h3, if_false, h4, if_true]
          rw [h5']
        · cases h
  | n + 1, l + 3, T, t, r0, hl, h => by omega
/-! ### items -/
theorem placedP_near {T r0 : List Tok} {n : Tok × Tok} (h : placedP e T = .ok (n, r0 ++ us)) : ∃ t0, T = t0 ++ us ∧ placedP e' t0 = .ok (n, r0) := by
  unfold placedP at h
  split at h
  · cases h
  rename_i t r1 h1
  split at h
  · cases h
  rename_i x r2 h2
  split at h
  · cases h
  rename_i y r3 h3
  simp only [Except.ok.injEq, Prod.mk.injEq] at h
  obtain ⟨rfl, rfl⟩ := h
  obtain ⟨rfl, _, h3'⟩ := takeP_near (e' := e') h3
  obtain ⟨rfl, h2'⟩ := wantP_near (e' := e') (r0 := y :: r0) (us := us) h2
  obtain ⟨rfl, _, h1'⟩ := takeP_near (e' := e') (r0 := x :: y :: r0) (us := us) h1
  refine ⟨_, rfl, ?_⟩
  unfold placedP
  rw [h1']
  simp only
  rw [h2']
  simp only
  rw [h3']
theorem itemK_near {w : Tok} {T r0 : List Tok} {i : ItemT} (h : itemK e w T = .ok (i, r0 ++ us)) : i.word = w ∧ ∃ t0, T = t0 ++ us ∧ itemK e' w t0 = .ok (i, r0) := by
  unfold itemK at h
  split at h
  · rename_i h1
    obtain ⟨n, r1, a1, h⟩ := andP_ok h
    obtain ⟨x, r2, a2, h⟩ := andP_ok h
    obtain ⟨y, r3, a3, h⟩ := andP_ok h
    simp only [Except.ok.injEq, Prod.mk.injEq] at h
    obtain ⟨rfl, rfl⟩ := h
    obtain ⟨rfl, b3⟩ := wantP_near (e' := e') a3
    obtain ⟨rfl, _, b2⟩ := takeP_near (e' := e') (r0 := y :: r0) (us := us) a2
    obtain ⟨rfl, _, b1⟩ := takeP_near (e' := e') (r0 := x :: y :: r0) (us := us) a1
    exact ⟨rfl, _, rfl, by unfold itemK; rw [if_pos h1, b1]; simp only [andP]; rw [b2]; simp only; rw [b3]⟩
  rename_i h1
  split at h
  · rename_i h2
    obtain ⟨n, r1, a1, h⟩ := andP_ok h
    obtain ⟨x, r2, a2, h⟩ := andP_ok h
    obtain ⟨y, r3, a3, h⟩ := andP_ok h
    simp only [Except.ok.injEq, Prod.mk.injEq] at h
    obtain ⟨rfl, rfl⟩ := h
    obtain ⟨rfl, b3⟩ := wantP_near (e' := e') a3
    obtain ⟨rfl, _, b2⟩ := takeP_near (e' := e') (r0 := y :: r0) (us := us) a2
    obtain ⟨t0, rfl, b1⟩ := placedP_near (e' := e') (r0 := x :: y :: r0) (us := us) a1
    exact ⟨rfl, _, rfl, by unfold itemK; rw [if_neg h1, if_pos h2, b1]; simp only [andP]; rw [b2]; simp only; rw [b3]⟩
  rename_i h2
  split at h
  · rename_i h3
    obtain ⟨n, r1, a1, h⟩ := andP_ok h
    obtain ⟨y, r3, a3, h⟩ := andP_ok h
    simp only [Except.ok.injEq, Prod.mk.injEq] at h
    obtain ⟨rfl, rfl⟩ := h
    obtain ⟨rfl, b3⟩ := wantP_near (e' := e') a3
    obtain ⟨rfl, _, b1⟩ := takeP_near (e' := e') (r0 := y :: r0) (us := us) a1
    exact ⟨rfl, _, rfl, by unfold itemK; rw [if_neg h1, if_neg h2, if_pos h3, b1]; simp only [andP]; rw [b3]⟩
  rename_i h3
  split at h
  · rename_i h4
    obtain ⟨y, r3, a3, h⟩ := andP_ok h
    simp only [Except.ok.injEq, Prod.mk.injEq] at h
    obtain ⟨rfl, rfl⟩ := h
    obtain ⟨rfl, b3⟩ := wantP_near (e' := e') a3
    exact ⟨rfl, _, rfl, by unfold itemK; rw [if_neg h1, if_neg h2, if_neg h3, if_pos h4, b3]; simp only [andP]⟩
  rename_i h4
  split at h
  · rename_i h5
    obtain ⟨n, r1, a1, h⟩ := andP_ok h
    obtain ⟨y, r3, a3, h⟩ := andP_ok h
    obtain ⟨t, r4, a4, h⟩ := andP_ok h
    obtain ⟨z2, r5, a5, h⟩ := andP_ok h
    simp only [Except.ok.injEq, Prod.mk.injEq] at h
    obtain ⟨rfl, rfl⟩ := h
    obtain ⟨rfl, b5⟩ := wantP_near (e' := e') a5
    obtain ⟨s0, rfl, b4⟩ := formP_near (e' := e') _ 2 _ _ _ (by omega) a4
    obtain ⟨rfl, b3⟩ := wantP_near (e' := e') a3
    obtain ⟨rfl, _, b1⟩ := takeP_near (e' := e') (r0 := y :: s0) (us := us) a1
    exact ⟨rfl, _, rfl, by unfold itemK; rw [if_neg h1, if_neg h2, if_neg h3, if_neg h4, if_pos h5, b1]; simp only [andP]; rw [b3]; simp only; rw [b4 _ (by omega)]; simp only; rw [b5]⟩
  rename_i h5
  split at h
  · rename_i h6
    obtain ⟨n, r1, a1, h⟩ := andP_ok h
    obtain ⟨c, r2, a2, h⟩ := andP_ok h
    obtain ⟨x, r3, a3, h⟩ := andP_ok h
    obtain ⟨y, r4, a4, h⟩ := andP_ok h
    obtain ⟨l, r5, a5, h⟩ := andP_ok h
    simp only [Except.ok.injEq, Prod.mk.injEq] at h
    obtain ⟨rfl, rfl⟩ := h
    obtain ⟨s0, rfl, b5⟩ := attrsP_near (e' := e') _ _ _ _ _ a5
    obtain ⟨rfl, b4⟩ := wantP_near (e' := e') a4
    obtain ⟨rfl, _, b3⟩ := takeP_near (e' := e') (r0 := y :: s0) (us := us) a3
    obtain ⟨rfl, _, b2⟩ := takeP_near (e' := e') (r0 := x :: y :: s0) (us := us) a2
    obtain ⟨t0, rfl, b1⟩ := placedP_near (e' := e') (r0 := c :: x :: y :: s0) (us := us) a1
    exact ⟨rfl, _, rfl, by unfold itemK; rw [if_neg h1, if_neg h2, if_neg h3, if_neg h4, if_neg h5, if_pos h6, b1]; simp only [andP]; rw [b2]; simp only; rw [b3]; simp only; rw [b4]; simp only; rw [b5 _ (by omega)]⟩
  · cases h
theorem itemP_near {T r0 : List Tok} {i : ItemT} (h : itemP e T = .ok (i, r0 ++ us)) : ∃ t0, T = i.word :: t0 ++ us ∧ itemP e' (i.word :: t0) = .ok (i, r0) := by
  unfold itemP at h
  obtain ⟨w, r1, a1, h⟩ := andP_ok h
  obtain ⟨hw, t0, rfl, h1⟩ := itemK_near (e' := e') h
  obtain ⟨rfl, _, b1⟩ := takeP_near (e' := e') (r0 := t0) (us := us) a1
  subst hw
  refine ⟨t0, rfl, ?_⟩
  unfold itemP
  rw [b1]
  exact h1
theorem itemsP_pre {e : Nat} : ∀ {n : Nat} {out l : List ItemT} {ts : List Tok}, itemsP e n out ts = .ok l → ∃ l', l = out ++ l'
  | 0, out, l, ts, h => by cases h
  | n + 1, out, l, [], h => by
    rw [itemsP] at h
    exact ⟨[], by rw [Except.ok.inj h]; simp⟩
  | n + 1, out, l, t :: ts, h => by
    rw [itemsP] at h
    split at h
    · cases h
    obtain ⟨l', rfl⟩ := itemsP_pre h
    exact ⟨_, List.append_assoc ..⟩
/-- Ahead of an item stand the items ahead of it. -/
theorem items_cut : ∀ (n : Nat) (out : List ItemT) (ts : List Tok) (l : List ItemT), itemsP e n out ts = .ok (out ++ l) → ∀ (k : Nat) (hk : k < l.length), ∃ c r, ts = c ++ (l[k]).word :: r ∧ ∀ m out', c.length < m → itemsP e' m out' c = .ok (out' ++ l.take k)
  | 0, out, ts, l, h, k, hk => by cases h
  | n + 1, out, [], l, h, k, hk => by
    rw [itemsP] at h
    have := congrArg List.length (Except.ok.inj h)
    rw [List.length_append] at this
    omega
  | n + 1, out, t :: ts, l, h, k, hk => by
    rw [itemsP] at h
    split at h
    · cases h
    rename_i i r2 h1
    have hpre : ∃ l', l = i :: l' := by
      have := itemsP_pre h
      obtain ⟨l', hl'⟩ := this
      rw [List.append_assoc] at hl'
      exact ⟨l', List.append_cancel_left hl'⟩
    obtain ⟨l', rfl⟩ := hpre
    have h' : itemsP e n (out ++ [i]) r2 = .ok ((out ++ [i]) ++ l') := by rw [h]; simp
    cases k with
    | zero =>
      obtain ⟨t0, h2, _⟩ := itemP_near (e' := e') (r0 := []) (us := r2) (by rw [List.nil_append]; exact h1)
      refine ⟨[], t0 ++ r2, by rw [h2]; rfl, fun m out' hm => ?_⟩
      obtain ⟨m, rfl⟩ : ∃ j, m = j + 1 := ⟨m - 1, by omega⟩
      rw [itemsP]
      simp
    | succ k =>
      have hk' : k < l'.length := by simpa using hk
      obtain ⟨c, r, rfl, h3⟩ := items_cut n _ _ _ h' k hk'
      obtain ⟨t0, h2, h4⟩ := itemP_near (e' := e') (r0 := c) (us := (l'[k]).word :: r) h1
      refine ⟨i.word :: t0, r, by rw [h2]; rfl, fun m out' hm => ?_⟩
      simp only [List.length_cons] at hm
      obtain ⟨m, rfl⟩ : ∃ j, m = j + 1 := ⟨m - 1, by omega⟩
      rw [itemsP, h4]
      simp only
      have hl := itemP_len h4
      simp only [List.length_cons] at hl
      rw [h3 m _ (by omega)]
      simp
end Go.Proofs.Ytknkkfdkcemolaa.Vm
end
section
/- Walks: the law of two descriptions. -/
set_option linter.unusedSimpArgs false
set_option linter.unusedVariables false
set_option maxRecDepth 100000
set_option maxHeartbeats 4000000
namespace Go.Proofs.Ytknkkfdkcemolaa.Vm
open Go
variable {m : Int}
attribute [local irreducible] wpD opsD thenD blockD planD planA LoopD
attribute [local simp] List.take_of_length_le List.drop_of_length_le bne mvD itemsL_flat

theorem toksR_at (N : Nat) : ∀ (m : Nat) (s : List UInt8) (a : Nat) (out ts : List Tok), s.length ≤ m → toksR s a out = (ts, 0, 0) → (∀ t, t ∈ out → t.at_ ≤ N) → a + s.length ≤ N → ∀ t, t ∈ ts → t.at_ ≤ N
  | m, s, a, out, ts, hm, h, ho, hN => by
    unfold toksR at h
    cases hd : s.drop (gapN s) with
    | nil =>
      rw [hd, toksW_nil] at h
      simp only [Prod.mk.injEq, and_true] at h
      rw [← h]
      exact ho
    | cons c r =>
      rw [hd] at h
      obtain ⟨kd, tx, n, h1, h2, h3, h4, h5⟩ := toksW_next h
      have hlen : s.length = gapN s + (c :: r).length := by
        rw [← hd, List.length_drop]
        have := gapN_le s
        omega
      match m, hm with
      | 0, hm =>
        simp only [List.length_cons] at hlen
        omega
      | m + 1, hm =>
      refine toksR_at N m _ _ _ _ (by rw [List.length_drop]; simp only [List.length_cons] at hlen ⊢; omega) h5 (fun t ht => ?_) (by rw [List.length_drop]; omega)
      rcases List.mem_append.1 ht with ht | ht
      · exact ho t ht
      · obtain rfl := List.mem_singleton.1 ht
        simp only
        omega
theorem begins_le {s : List UInt8} {N : Nat} (hs : s.length ≤ N) (h : (readP s).2.1 = 0) : ∀ x, x ∈ begins s → 0 ≤ x ∧ x ≤ N := by
  obtain ⟨ts, l, _, a1, a2, a3, a4⟩ := readP_zero h
  have h1 := toksR_at N _ _ _ _ _ (Nat.le_refl _) a1 (by simp) (by omega)
  have h2 := (itemsP_all (P := fun t => t.at_ ≤ N) (by simp [zeroTok]) a2 h1 (by simp)).1
  intro x hx
  unfold begins at hx
  rw [a4] at hx
  obtain ⟨i, hi, rfl⟩ := List.mem_map.1 hx
  have : i.word.at_ ≤ N := (h2 i hi).1
  omega
theorem dumpS_short (s : List UInt8) : (dumpS (readP s).1).length ≤ 100000000 := by
  obtain ⟨h1, h2⟩ := readP_all s
  have := dumpS_len h1 h2
  omega
theorem begins_short (s : List UInt8) : (begins s).length ≤ 2000 := by
  obtain ⟨h1, h2⟩ := readP_all s
  have := sizeL_len (readP s).1
  unfold begins
  rw [List.length_map]
  omega
theorem begins_none {s : List UInt8} (h : (readP s).2.1 ≠ 0) : begins s = [] := by
  unfold begins
  rw [readP_wrong h]
  rfl
@[simp] theorem flat_beginsL (l : List Int) : Flat (beginsL l) := by
  cases l with
  | nil => exact .nilsl
  | cons a l => simp [beginsL]
@[simp] theorem oneD_beginsL (H : Heap) (l : List Int) : oneD H (beginsL l) = true := by cases l <;> rfl
theorem SynJoins_ok (s t : List UInt8) : Ans (L m) 7 [.str s, .str t] (.bool true) := by
  refine fn_of_body L_ok (fn := Try.f7) rfl rfl rfl rfl (by kernel_rfl) ?_
  by_cases hb1 : 900 < s.length
  · have hb1' : (900 : Int) < s.length := by omega
    repeat' (first
      | apply w_seq
      | apply w_region
      | apply o_end
      | apply t_normal
      | (apply o_val; exact kc0; exact kc2)
      | (apply o_fn fine; exact kc0; exact kc1; exact awake_ok; exact kc3)
      | apply w_ret
      | apply t_ret
      | (apply w_true; exact kc3)
      | (apply o_no; exact ke7)
      | fail)
    · apply f_retf
      · simp [*]; rfl
      · simp
      · rfl
  have hb1' : ¬ (900 : Int) < s.length := by omega
  by_cases hb2 : 900 < t.length
  · have hb2' : (900 : Int) < t.length := by omega
    repeat' (first
      | apply w_seq
      | apply w_region
      | apply o_end
      | apply t_normal
      | (apply o_mpick; exact kc9; exact kd0; rfl; exact kd1; rfl; exact kd1; rfl)
      | (apply o_val; exact kc0; exact kc2)
      | (apply o_fn fine; exact kc0; exact kc1; exact awake_ok; exact kc3)
      | apply w_ret
      | apply t_ret
      | (apply w_true; exact kc3)
      | fail)
    · apply f_retf
      · simp [*]; rfl
      · simp
      · rfl
  have hb2' : ¬ (900 : Int) < t.length := by omega
  have a1 := Dump_ok (m := m) s (by omega)
  have a2 := Dump_ok (m := m) t (by omega)
  have a3 := Items_ok (m := m) s (by omega)
  have a4 := Items_ok (m := m) t (by omega)
  by_cases h1 : (readP s).2.1 = 0
  case neg =>
    have h1' : (((readP s).2.1 : Nat) : Int) ≠ 0 := by omega
    have h1b : ((((readP s).2.1 : Nat) : Int) == 0) = false := by simpa using h1'
    generalize (readP s).2.1 = c1 at *
    clear h1
    repeat' (first
      | apply w_seq
      | apply w_region
      | apply o_end
      | apply t_normal
      | (apply o_mpick; exact kc9; exact kd0; rfl; exact kd1; rfl; exact kd1; rfl)
      | (apply o_val; exact kc0; exact kc2)
      | (apply o_fn fine; exact kc0; exact kc1; exact a1; exact kc3)
      | (apply o_fn fine; exact kc0; exact kc1; exact a2; exact kc3)
      | (apply o_fn fine; exact kc0; exact kc1; exact a3; exact kc3)
      | (apply o_fn fine; exact kc0; exact kc1; exact a4; exact kc3)
      | (apply o_fn fine; exact kc0; exact kc1; exact awake_ok; exact kc3)
      | (apply o_mem; exact kc0; rfl; exact kc1)
      | apply w_skip
      | apply w_ret
      | apply t_ret
      | (apply w_true; exact kc3)
      | (apply w_false; exact kc3)
      | (apply o_no; exact ke7)
      | fail)
    · apply f_retf
      · simp [*]; rfl
      · simp
      · rfl
  by_cases h2 : (readP t).2.1 = 0
  case neg =>
    have h2' : (((readP t).2.1 : Nat) : Int) ≠ 0 := by omega
    have h2b : ((((readP t).2.1 : Nat) : Int) == 0) = false := by simpa using h2'
    rw [h1] at a1 a3
    generalize (readP t).2.1 = c2 at *
    clear h1 h2
    repeat' (first
      | apply w_seq
      | apply w_region
      | apply o_end
      | apply t_normal
      | (apply o_mpick; exact kc9; exact kd0; rfl; exact kd1; rfl; exact kd1; rfl)
      | (apply o_val; exact kc0; exact kc2)
      | (apply o_fn fine; exact kc0; exact kc1; exact a1; exact kc3)
      | (apply o_fn fine; exact kc0; exact kc1; exact a2; exact kc3)
      | (apply o_fn fine; exact kc0; exact kc1; exact a3; exact kc3)
      | (apply o_fn fine; exact kc0; exact kc1; exact a4; exact kc3)
      | (apply o_fn fine; exact kc0; exact kc1; exact awake_ok; exact kc3)
      | (apply o_mem; exact kc0; rfl; exact kc1)
      | apply w_skip
      | apply w_ret
      | apply t_ret
      | (apply w_true; exact kc3)
      | (apply w_false; exact kc3)
      | fail)
    · apply f_retf
      · simp [*]; rfl
      · simp
      · rfl
  obtain ⟨e1, e2, e3, e4, e5⟩ := readP_joins (by omega : s.length ≤ 900) (by omega : t.length ≤ 900) h1 h2
  have a5 := Dump_ok (m := m) (s ++ 10 :: t) (by simp; omega)
  have a6 := Items_ok (m := m) (s ++ 10 :: t) (by simp; omega)
  have hB := begins_le (N := 900) (by omega) h2
  have hd1 := dumpS_short s
  have hd2 := dumpS_short t
  have hn1 := begins_short s
  have hn2 := begins_short t
  have hK : ∀ (i : Nat) (h : i < (begins (s ++ 10 :: t)).length), (∀ h' : i < (begins s).length, (begins (s ++ 10 :: t))[i] = (begins s)[i]) ∧
      (∀ (j : Nat), i = (begins s).length + j → ∀ h' : j < (begins t).length, (begins (s ++ 10 :: t))[i] = (begins t)[j] + s.length + 1) := by
    rw [e5]
    intro i h
    refine ⟨fun h' => ?_, fun j hj h' => ?_⟩
    · rw [List.getElem_append_left h']
    · subst hj
      rw [List.getElem_append_right (by omega)]
      simp
      omega
  have hKl : (begins (s ++ 10 :: t)).length = (begins s).length + (begins t).length := by rw [e5]; simp
  rw [e3, e4] at a5
  rw [e3] at a6
  rw [e1] at a1 a3
  rw [e2] at a2 a4
  clear e1 e2 e3 e4 e5 h1 h2
  generalize begins (s ++ 10 :: t) = K at a6 hK hKl
  generalize begins s = A at a3 hK hKl hn1
  generalize begins t = B at a4 hK hKl hn2 hB
  generalize dumpS (readP s).1 = da at a1 a5 hd1
  generalize dumpS (readP t).1 = db at a2 a5 hd2
  have hcase : ∀ l : List Int, l = [] ∨ beginsL l = intsL l := fun l => by cases l with
    | nil => exact .inl rfl
    | cons a l => exact .inr rfl
  have hKs : (K.length : Int) = A.length + B.length := by omega
  have hKw : IntKind.i64.wrap ((A.length : Int) + B.length) = (A.length : Int) + B.length := wrap_i64 (by omega) (by omega)
  have hKl2 : K.length ≤ 4000 := by omega
  rcases hcase K with rfl | hKL
  · skip
    obtain rfl : A = [] := List.eq_nil_of_length_eq_zero (by simp at hKl; omega)
    obtain rfl : B = [] := List.eq_nil_of_length_eq_zero (by simp at hKl; omega)
    clear hKl hKs hKw hK hB
    simp only [beginsL] at a3 a4 a6
    repeat' (first
      | apply w_seq
      | apply w_region
      | apply o_end
      | apply t_normal
      | (apply o_add; exact kc0; exact kc2; rfl; exact kc2; rfl; exact ke2)
      | (apply o_cat; exact kc0; exact kc2; rfl; exact kc2; rfl; exact ke5; exact ke6)
      | (apply o_mpick; exact kc9; exact kd0; rfl; exact kd1; rfl; exact kd1; rfl)
      | (apply o_val; exact kc0; exact kc2)
      | (apply o_fn fine; exact kc0; exact kc1; exact a1; exact kc3)
      | (apply o_fn fine; exact kc0; exact kc1; exact a2; exact kc3)
      | (apply o_fn fine; exact kc0; exact kc1; exact a3; exact kc3)
      | (apply o_fn fine; exact kc0; exact kc1; exact a4; exact kc3)
      | (apply o_fn fine; exact kc0; exact kc1; exact a5; exact kc3)
      | (apply o_fn fine; exact kc0; exact kc1; exact a6; exact kc3)
      | (apply o_mem; exact kc0; rfl; exact kc1)
      | apply w_skip
      | apply w_block
      | (apply w_false; exact kc3)
      | fail)
    apply loop_is
    apply loop_unfold
    repeat' (first
      | apply w_seq
      | apply w_region
      | apply o_end
      | apply t_normal
      | (apply o_val; exact kc0; exact kc2)
      | (apply o_fn fine; exact kc0; exact kc1; exact awake_ok; exact kc3)
      | apply w_ret
      | apply w_exit
      | apply t_exit
      | apply b_here
      | (apply w_false; exact kc3)
      | fail)
    · apply f_retf
      · simp [*]; rfl
      · simp
      · rfl
  have hKne : ∀ (i : Nat), i < K.length → i < A.length ∨ ∃ j, i = A.length + j ∧ j < B.length := fun i hi => by
    rcases Nat.lt_or_ge i A.length with h | h
    · exact .inl h
    · exact .inr ⟨i - A.length, by omega, by omega⟩
  rw [hKL] at a6
  clear hKL hKl
  rcases hcase A with rfl | hAL
  · rcases hcase B with rfl | hBL
    · skip
      simp only [beginsL] at a3
      simp only [beginsL] at a4
      repeat' (first
        | apply w_seq
        | apply w_region
        | apply o_end
        | apply t_normal
        | (apply o_add; exact kc0; exact kc2; rfl; exact kc2; rfl; exact ke2)
        | (apply o_cat; exact kc0; exact kc2; rfl; exact kc2; rfl; exact ke5; exact ke6)
        | (apply o_mpick; exact kc9; exact kd0; rfl; exact kd1; rfl; exact kd1; rfl)
        | (apply o_val; exact kc0; exact kc2)
        | (apply o_fn fine; exact kc0; exact kc1; exact a1; exact kc3)
        | (apply o_fn fine; exact kc0; exact kc1; exact a2; exact kc3)
        | (apply o_fn fine; exact kc0; exact kc1; exact a3; exact kc3)
        | (apply o_fn fine; exact kc0; exact kc1; exact a4; exact kc3)
        | (apply o_fn fine; exact kc0; exact kc1; exact a5; exact kc3)
        | (apply o_fn fine; exact kc0; exact kc1; exact a6; exact kc3)
        | (apply o_mem; exact kc0; rfl; exact kc1)
        | apply w_skip
        | apply w_block
        | (apply w_false; exact kc3)
        | fail)
      refine w_loop (fun n f H => ∃ (i : Nat), i ≤ K.length ∧ n = K.length - i ∧ H = [wr0, wr0, wr0, wr0, wr0, wr0] ∧ f 0 = .str s ∧ f 9 = .nilsl ∧ f 11 = .nilsl ∧ f 15 = intsL K ∧ f 17 = .int .i64 i) K.length ⟨0, by simp, rfl, rfl, by simp, by simp, by simp, by simp, by simp⟩ ?_
      clear a1 a2 a3 a4 a5 a6 hKs hKw hcase
      rintro n f H ⟨i, hi, rfl, rfl, g0, g9, g11, g15, g17⟩
      by_cases hlt : i < K.length
      · have hli : (i : Int) < K.length := by omega
        obtain ⟨k1, k2⟩ := hK i hlt
        clear hK
        rcases hKne i hlt with hA | ⟨j, hij, hj⟩
        · exact absurd hA (by simp)
        · exact absurd hj (by simp)
      · have hli : ¬ (i : Int) < K.length := by omega
        clear hK hKne
        repeat' (first
          | apply w_seq
          | apply w_region
          | apply o_end
          | apply t_normal
          | (apply o_val; exact kc0; exact kc2)
          | (apply o_fn fine; exact kc0; exact kc1; exact awake_ok; exact kc3)
          | apply w_ret
          | apply w_exit
          | apply t_exit
          | apply b_here
          | (apply w_false; exact kc3)
          | fail)
        · apply f_retf
          · simp [*]; rfl
          · simp
          · rfl
    · skip
      simp only [beginsL] at a3
      rw [hBL] at a4
      clear hBL
      repeat' (first
        | apply w_seq
        | apply w_region
        | apply o_end
        | apply t_normal
        | (apply o_add; exact kc0; exact kc2; rfl; exact kc2; rfl; exact ke2)
        | (apply o_cat; exact kc0; exact kc2; rfl; exact kc2; rfl; exact ke5; exact ke6)
        | (apply o_mpick; exact kc9; exact kd0; rfl; exact kd1; rfl; exact kd1; rfl)
        | (apply o_val; exact kc0; exact kc2)
        | (apply o_fn fine; exact kc0; exact kc1; exact a1; exact kc3)
        | (apply o_fn fine; exact kc0; exact kc1; exact a2; exact kc3)
        | (apply o_fn fine; exact kc0; exact kc1; exact a3; exact kc3)
        | (apply o_fn fine; exact kc0; exact kc1; exact a4; exact kc3)
        | (apply o_fn fine; exact kc0; exact kc1; exact a5; exact kc3)
        | (apply o_fn fine; exact kc0; exact kc1; exact a6; exact kc3)
        | (apply o_mem; exact kc0; rfl; exact kc1)
        | apply w_skip
        | apply w_block
        | (apply w_false; exact kc3)
        | fail)
      refine w_loop (fun n f H => ∃ (i : Nat), i ≤ K.length ∧ n = K.length - i ∧ H = [wr0, wr0, wr0, wr0, wr0, wr0] ∧ f 0 = .str s ∧ f 9 = .nilsl ∧ f 11 = intsL B ∧ f 15 = intsL K ∧ f 17 = .int .i64 i) K.length ⟨0, by simp, rfl, rfl, by simp, by simp, by simp, by simp, by simp⟩ ?_
      clear a1 a2 a3 a4 a5 a6 hKs hKw hcase
      rintro n f H ⟨i, hi, rfl, rfl, g0, g9, g11, g15, g17⟩
      by_cases hlt : i < K.length
      · have hli : (i : Int) < K.length := by omega
        obtain ⟨k1, k2⟩ := hK i hlt
        clear hK
        rcases hKne i hlt with hA | ⟨j, hij, hj⟩
        · exact absurd hA (by simp)
        · obtain rfl : i = j := by simpa using hij
          have hA' : ¬ (i : Int) < 0 := by omega
          have hA3 : (0 : Int) ≤ i := by omega
          have k3 := k2 i (by simp) hj
          have hBj := hB B[i] (List.getElem_mem hj)
          have w4 : IntKind.i64.wrap (i : Int) = i := wrap_i64 (by omega) (by omega)
          have w2 : IntKind.i64.wrap (B[i] + s.length) = B[i] + s.length := wrap_i64 (by omega) (by omega)
          have w3 : IntKind.i64.wrap (B[i] + s.length + 1) = B[i] + s.length + 1 := wrap_i64 (by omega) (by omega)
          clear k1 k2 hKne hB hij
          repeat' (first
            | apply w_seq
            | apply w_region
            | apply o_end
            | apply t_normal
            | (apply o_add; exact kc0; exact kc2; rfl; exact kc2; rfl; exact ke2)
            | (apply o_val; exact kc0; exact kc2)
            | apply w_skip
            | apply w_block
            | apply b_normal
            | (apply w_true; exact kc3)
            | (apply w_false; exact kc3)
            | (apply w_drawA; rfl; exact ke3; exact kc4; exact kc4)
            | (apply a_end; exact kc4)
            | (apply a_val; exact kc4; exact kc5; exact kd9; exact kc6)
            | (apply a_no; exact kc4; exact ke8; exact kc6)
            | fail)
          exact ⟨K.length - (i + 1), by omega, i + 1, by omega, rfl, rfl, by simp [*], by simp [*], by simp [*], by simp [*], by simp [*]⟩
      · have hli : ¬ (i : Int) < K.length := by omega
        clear hK hKne
        repeat' (first
          | apply w_seq
          | apply w_region
          | apply o_end
          | apply t_normal
          | (apply o_val; exact kc0; exact kc2)
          | (apply o_fn fine; exact kc0; exact kc1; exact awake_ok; exact kc3)
          | apply w_ret
          | apply w_exit
          | apply t_exit
          | apply b_here
          | (apply w_false; exact kc3)
          | fail)
        · apply f_retf
          · simp [*]; rfl
          · simp
          · rfl
  · rcases hcase B with rfl | hBL
    · skip
      rw [hAL] at a3
      clear hAL
      simp only [beginsL] at a4
      repeat' (first
        | apply w_seq
        | apply w_region
        | apply o_end
        | apply t_normal
        | (apply o_add; exact kc0; exact kc2; rfl; exact kc2; rfl; exact ke2)
        | (apply o_cat; exact kc0; exact kc2; rfl; exact kc2; rfl; exact ke5; exact ke6)
        | (apply o_mpick; exact kc9; exact kd0; rfl; exact kd1; rfl; exact kd1; rfl)
        | (apply o_val; exact kc0; exact kc2)
        | (apply o_fn fine; exact kc0; exact kc1; exact a1; exact kc3)
        | (apply o_fn fine; exact kc0; exact kc1; exact a2; exact kc3)
        | (apply o_fn fine; exact kc0; exact kc1; exact a3; exact kc3)
        | (apply o_fn fine; exact kc0; exact kc1; exact a4; exact kc3)
        | (apply o_fn fine; exact kc0; exact kc1; exact a5; exact kc3)
        | (apply o_fn fine; exact kc0; exact kc1; exact a6; exact kc3)
        | (apply o_mem; exact kc0; rfl; exact kc1)
        | apply w_skip
        | apply w_block
        | (apply w_false; exact kc3)
        | fail)
      refine w_loop (fun n f H => ∃ (i : Nat), i ≤ K.length ∧ n = K.length - i ∧ H = [wr0, wr0, wr0, wr0, wr0, wr0] ∧ f 0 = .str s ∧ f 9 = intsL A ∧ f 11 = .nilsl ∧ f 15 = intsL K ∧ f 17 = .int .i64 i) K.length ⟨0, by simp, rfl, rfl, by simp, by simp, by simp, by simp, by simp⟩ ?_
      clear a1 a2 a3 a4 a5 a6 hKs hKw hcase
      rintro n f H ⟨i, hi, rfl, rfl, g0, g9, g11, g15, g17⟩
      by_cases hlt : i < K.length
      · have hli : (i : Int) < K.length := by omega
        obtain ⟨k1, k2⟩ := hK i hlt
        clear hK
        rcases hKne i hlt with hA | ⟨j, hij, hj⟩
        · have hA' : (i : Int) < A.length := by omega
          have hA2 : ¬ (A.length : Int) ≤ i := by omega
          have k3 := k1 hA
          clear k1 k2 hKne hB
          repeat' (first
            | apply w_seq
            | apply w_region
            | apply o_end
            | apply t_normal
            | (apply o_add; exact kc0; exact kc2; rfl; exact kc2; rfl; exact ke2)
            | (apply o_val; exact kc0; exact kc2)
            | apply w_skip
            | apply w_block
            | apply b_normal
            | (apply w_true; exact kc3)
            | (apply w_false; exact kc3)
            | (apply w_drawA; rfl; exact ke3; exact kc4; exact kc4)
            | (apply a_end; exact kc4)
            | (apply a_val; exact kc4; exact kc5; exact kd9; exact kc6)
            | (apply a_no; exact kc4; exact ke8; exact kc6)
            | fail)
          exact ⟨K.length - (i + 1), by omega, i + 1, by omega, rfl, rfl, by simp [*], by simp [*], by simp [*], by simp [*], by simp [*]⟩
        · exact absurd hj (by simp)
      · have hli : ¬ (i : Int) < K.length := by omega
        clear hK hKne
        repeat' (first
          | apply w_seq
          | apply w_region
          | apply o_end
          | apply t_normal
          | (apply o_val; exact kc0; exact kc2)
          | (apply o_fn fine; exact kc0; exact kc1; exact awake_ok; exact kc3)
          | apply w_ret
          | apply w_exit
          | apply t_exit
          | apply b_here
          | (apply w_false; exact kc3)
          | fail)
        · apply f_retf
          · simp [*]; rfl
          · simp
          · rfl
    · skip
      rw [hAL] at a3
      clear hAL
      rw [hBL] at a4
      clear hBL
      repeat' (first
        | apply w_seq
        | apply w_region
        | apply o_end
        | apply t_normal
        | (apply o_add; exact kc0; exact kc2; rfl; exact kc2; rfl; exact ke2)
        | (apply o_cat; exact kc0; exact kc2; rfl; exact kc2; rfl; exact ke5; exact ke6)
        | (apply o_mpick; exact kc9; exact kd0; rfl; exact kd1; rfl; exact kd1; rfl)
        | (apply o_val; exact kc0; exact kc2)
        | (apply o_fn fine; exact kc0; exact kc1; exact a1; exact kc3)
        | (apply o_fn fine; exact kc0; exact kc1; exact a2; exact kc3)
        | (apply o_fn fine; exact kc0; exact kc1; exact a3; exact kc3)
        | (apply o_fn fine; exact kc0; exact kc1; exact a4; exact kc3)
        | (apply o_fn fine; exact kc0; exact kc1; exact a5; exact kc3)
        | (apply o_fn fine; exact kc0; exact kc1; exact a6; exact kc3)
        | (apply o_mem; exact kc0; rfl; exact kc1)
        | apply w_skip
        | apply w_block
        | (apply w_false; exact kc3)
        | fail)
      refine w_loop (fun n f H => ∃ (i : Nat), i ≤ K.length ∧ n = K.length - i ∧ H = [wr0, wr0, wr0, wr0, wr0, wr0] ∧ f 0 = .str s ∧ f 9 = intsL A ∧ f 11 = intsL B ∧ f 15 = intsL K ∧ f 17 = .int .i64 i) K.length ⟨0, by simp, rfl, rfl, by simp, by simp, by simp, by simp, by simp⟩ ?_
      clear a1 a2 a3 a4 a5 a6 hKs hKw hcase
      rintro n f H ⟨i, hi, rfl, rfl, g0, g9, g11, g15, g17⟩
      by_cases hlt : i < K.length
      · have hli : (i : Int) < K.length := by omega
        obtain ⟨k1, k2⟩ := hK i hlt
        clear hK
        rcases hKne i hlt with hA | ⟨j, hij, hj⟩
        · have hA' : (i : Int) < A.length := by omega
          have hA2 : ¬ (A.length : Int) ≤ i := by omega
          have k3 := k1 hA
          clear k1 k2 hKne hB
          repeat' (first
            | apply w_seq
            | apply w_region
            | apply o_end
            | apply t_normal
            | (apply o_add; exact kc0; exact kc2; rfl; exact kc2; rfl; exact ke2)
            | (apply o_val; exact kc0; exact kc2)
            | apply w_skip
            | apply w_block
            | apply b_normal
            | (apply w_true; exact kc3)
            | (apply w_false; exact kc3)
            | (apply w_drawA; rfl; exact ke3; exact kc4; exact kc4)
            | (apply a_end; exact kc4)
            | (apply a_val; exact kc4; exact kc5; exact kd9; exact kc6)
            | (apply a_no; exact kc4; exact ke8; exact kc6)
            | fail)
          exact ⟨K.length - (i + 1), by omega, i + 1, by omega, rfl, rfl, by simp [*], by simp [*], by simp [*], by simp [*], by simp [*]⟩
        · have hA' : ¬ (i : Int) < A.length := by omega
          have hA2 : (A.length : Int) ≤ i := by omega
          have k3 := k2 j hij hj
          have hBj := hB B[j] (List.getElem_mem hj)
          have w0 : (i : Int) - A.length = j := by omega
          have w1 : IntKind.i64.wrap ((i : Int) - A.length) = j := by
            rw [w0]
            exact wrap_i64 (by omega) (by omega)
          have w4 : IntKind.i64.wrap (j : Int) = j := wrap_i64 (by omega) (by omega)
          have w2 : IntKind.i64.wrap (B[j] + s.length) = B[j] + s.length := wrap_i64 (by omega) (by omega)
          have w3 : IntKind.i64.wrap (B[j] + s.length + 1) = B[j] + s.length + 1 := wrap_i64 (by omega) (by omega)
          clear k1 k2 hKne hB hij
          repeat' (first
            | apply w_seq
            | apply w_region
            | apply o_end
            | apply t_normal
            | (apply o_add; exact kc0; exact kc2; rfl; exact kc2; rfl; exact ke2)
            | (apply o_val; exact kc0; exact kc2)
            | apply w_skip
            | apply w_block
            | apply b_normal
            | (apply w_true; exact kc3)
            | (apply w_false; exact kc3)
            | (apply w_drawA; rfl; exact ke3; exact kc4; exact kc4)
            | (apply a_end; exact kc4)
            | (apply a_val; exact kc4; exact kc5; exact kd9; exact kc6)
            | (apply a_no; exact kc4; exact ke8; exact kc6)
            | fail)
          exact ⟨K.length - (i + 1), by omega, i + 1, by omega, rfl, rfl, by simp [*], by simp [*], by simp [*], by simp [*], by simp [*]⟩
      · have hli : ¬ (i : Int) < K.length := by omega
        clear hK hKne
        repeat' (first
          | apply w_seq
          | apply w_region
          | apply o_end
          | apply t_normal
          | (apply o_val; exact kc0; exact kc2)
          | (apply o_fn fine; exact kc0; exact kc1; exact awake_ok; exact kc3)
          | apply w_ret
          | apply w_exit
          | apply t_exit
          | apply b_here
          | (apply w_false; exact kc3)
          | fail)
        · apply f_retf
          · simp [*]; rfl
          · simp
          · rfl
end Go.Proofs.Ytknkkfdkcemolaa.Vm
end
section
/- Plain: the beginning of a description. -/
set_option linter.unusedSimpArgs false
set_option linter.unusedVariables false
namespace Go.Proofs.Ytknkkfdkcemolaa.Vm
open Go
variable {m : Int}

theorem runL_cut {p : UInt8 → Bool} : ∀ {x q : List UInt8}, runL p (x ++ q) ≤ x.length → runL p x = runL p (x ++ q)
  | [], q, h => by
    rw [List.nil_append] at h ⊢
    exact (Nat.le_zero.1 h).symm
  | a :: x, q, h => by
    rw [List.cons_append, runL_cons] at h ⊢
    rw [runL_cons]
    split
    · rename_i hp
      rw [if_pos hp] at h
      rw [runL_cut (x := x) (q := q) (by simpa using h)]
    · rfl
/-- A token that ends within a text is one without what is behind. -/
theorem tok_cut {c : UInt8} {r q : List UInt8} {kd n : Nat} {tx : List UInt8} (h : tok (c :: r ++ q) = (kd, tx, n, 0)) (hn : n ≤ (c :: r).length) : tok (c :: r) = (kd, tx, n, 0) := by
  rw [List.cons_append] at h
  unfold tok at h ⊢
  simp only at h ⊢
  by_cases h1 : isSmall c = true
  · simp only [if_pos h1, Prod.mk.injEq] at h ⊢
    obtain ⟨a1, a2, a3, a4⟩ := h
    have hr : runL isInner (c :: r) = runL isInner (c :: (r ++ q)) := by
      rw [← List.cons_append]
      exact runL_cut (by rw [List.cons_append]; omega)
    have ht : (c :: r).take (runL isInner (c :: (r ++ q))) = (c :: (r ++ q)).take (runL isInner (c :: (r ++ q))) := by
      rw [← List.cons_append, List.take_append_of_le_length (by rw [List.cons_append]; omega)]
    rw [hr, ht]
    exact ⟨a1, a2, a3, a4⟩
  simp only [if_neg h1] at h ⊢
  by_cases h2 : isCap c = true
  · simp only [if_pos h2, Prod.mk.injEq] at h ⊢
    obtain ⟨a1, a2, a3, a4⟩ := h
    have hr : runL isCap (c :: r) = runL isCap (c :: (r ++ q)) := by
      rw [← List.cons_append]
      exact runL_cut (by rw [List.cons_append]; omega)
    have ht : (c :: r).take (runL isCap (c :: (r ++ q))) = (c :: (r ++ q)).take (runL isCap (c :: (r ++ q))) := by
      rw [← List.cons_append, List.take_append_of_le_length (by rw [List.cons_append]; omega)]
    rw [hr, ht]
    exact ⟨a1, a2, a3, a4⟩
  simp only [if_neg h2] at h ⊢
  by_cases h3 : isB c 34 = true
  · simp only [if_pos h3, List.drop_succ_cons, List.drop_zero, List.length_cons, List.length_append] at h ⊢ hn
    by_cases h4 : (runL isQuoted (r ++ q) + 1 == r.length + q.length + 1 || !isB ((c :: (r ++ q)).getD (runL isQuoted (r ++ q) + 1) 0) 34) = true
    · rw [if_pos h4] at h
      simp at h
    · rw [if_neg h4] at h
      simp only [Prod.mk.injEq] at h
      obtain ⟨a1, a2, a3, a4⟩ := h
      have hr : runL isQuoted r = runL isQuoted (r ++ q) := runL_cut (by omega)
      have hlt : runL isQuoted (r ++ q) < r.length := by omega
      have hg : (c :: r).getD (runL isQuoted (r ++ q) + 1) 0 = (c :: (r ++ q)).getD (runL isQuoted (r ++ q) + 1) 0 := by
        simp only [List.getD_eq_getElem?_getD, List.getElem?_cons_succ]
        rw [List.getElem?_append_left hlt]
      rw [hr, hg]
      have h4' := h4
      simp only [Bool.or_eq_true, beq_iff_eq, not_or] at h4'
      rw [if_neg (by
        simp only [Bool.or_eq_true, beq_iff_eq, not_or]
        exact ⟨by omega, h4'.2⟩)]
      have ht : (c :: r).take (runL isQuoted (r ++ q) + 1) = (c :: (r ++ q)).take (runL isQuoted (r ++ q) + 1) := by
        rw [← List.cons_append, List.take_append_of_le_length (by simp; omega)]
      rw [ht, a1, a2, a3, a4]
  simp only [if_neg h3] at h ⊢
  by_cases h4 : isSign c = true
  · simp only [if_pos h4, List.take_succ_cons, List.take_zero] at h ⊢
    exact h
  · rw [if_neg h4] at h
    simp at h
/-- Every token of a text begins behind its beginning, and behind the tokens before it. -/
def IncA : Nat → List Tok → Prop
  | _, [] => True
  | a, t :: ts => a ≤ t.at_ ∧ IncA (t.at_ + 1) ts
theorem IncA.mono {a b : Nat} {ts : List Tok} (h : IncA b ts) (hab : a ≤ b) : IncA a ts := by
  cases ts with
  | nil => trivial
  | cons t ts => exact ⟨Nat.le_trans hab h.1, h.2⟩
theorem IncA.mem : ∀ {a : Nat} {c : List Tok} {t : Tok} {r : List Tok}, IncA a (c ++ t :: r) → a + c.length ≤ t.at_
  | a, [], t, r, h => h.1
  | a, x :: c, t, r, h => by
    have := IncA.mem h.2
    have h1 := h.1
    simp only [List.length_cons]
    omega
theorem toksR_inc : ∀ (m : Nat) (s : List UInt8) (a : Nat) (out ts : List Tok), s.length ≤ m → toksR s a out = (out ++ ts, 0, 0) → IncA (a + gapN s) ts
  | m, s, a, out, ts, hm, h => by
    unfold toksR at h
    cases hd : s.drop (gapN s) with
    | nil =>
      rw [hd, toksW_nil] at h
      simp only [Prod.mk.injEq, and_true] at h
      obtain rfl : ts = [] := by simpa using h
      trivial
    | cons c r =>
      rw [hd] at h
      obtain ⟨kd, tx, n, h1, h2, h3, h4, h5⟩ := toksW_next h
      have hlen : s.length = gapN s + (c :: r).length := by
        rw [← hd, List.length_drop]
        have := gapN_le s
        omega
      match m, hm with
      | 0, hm =>
        simp only [List.length_cons] at hlen
        omega
      | m + 1, hm =>
      have hpre : ∃ ts', ts = ⟨kd, a + gapN s, tx⟩ :: ts' := by
        unfold toksR at h5
        obtain ⟨ts', h6⟩ := toksW_pre _ _ _ _ _ (Nat.le_refl _) h5
        rw [List.append_assoc] at h6
        exact ⟨ts', List.append_cancel_left h6⟩
      obtain ⟨ts', rfl⟩ := hpre
      refine ⟨Nat.le_refl _, ?_⟩
      have := toksR_inc m ((c :: r).drop n) (a + gapN s + n) (out ++ [⟨kd, a + gapN s, tx⟩]) ts' (by rw [List.length_drop]; simp only [List.length_cons] at hlen ⊢; omega) (by rw [h5]; simp)
      exact this.mono (by simp only; omega)
theorem gapS_less : ∀ {s q : List UInt8} {c : Bool}, gapS c (s ++ q) < s.length → gapS c s = gapS c (s ++ q)
  | [], q, c, h => by simp at h
  | b :: s, q, false, h => by
    rw [List.cons_append] at h ⊢
    unfold gapS at h ⊢
    split
    · rename_i h1
      rw [if_pos h1] at h
      rw [gapS_less (q := q) (by simpa using h)]
    · rename_i h1
      rw [if_neg h1] at h
      split
      · rename_i h2
        rw [if_pos h2] at h
        rw [gapS_less (q := q) (by simpa using h)]
      · rfl
  | b :: s, q, true, h => by
    rw [List.cons_append] at h ⊢
    unfold gapS at h ⊢
    split
    · rename_i h1
      rw [if_pos h1] at h
      rw [gapS_less (q := q) (by simpa using h)]
    · rename_i h1
      rw [if_neg h1] at h
      rw [gapS_less (q := q) (by simpa using h)]
/-- What stands ahead of a place where a token begins has the tokens ahead of it. -/
theorem toksR_cut (q : List UInt8) : ∀ (m : Nat) (p : List UInt8) (a : Nat) (out c r : List Tok) (t : Tok), p.length ≤ m → toksR (p ++ q) a out = (out ++ (c ++ t :: r), 0, 0) → t.at_ = a + p.length → toksR p a out = (out ++ c, 0, 0)
  | m, p, a, out, c, r, t, hm, h, ht => by
    have hinc := toksR_inc _ _ _ _ _ (Nat.le_refl _) h
    have hmem := hinc.mem
    rcases Nat.lt_or_ge (gapN p) p.length with hg | hg
    · have hge : gapN (p ++ q) = gapN p := gapS_ext q hg
      unfold toksR at h ⊢
      rw [hge, List.drop_append_of_le_length (by omega)] at h
      cases hd : p.drop (gapN p) with
      | nil =>
        have := congrArg List.length hd
        rw [List.length_drop, List.length_nil] at this
        omega
      | cons b s =>
        rw [hd] at h
        have hlen : p.length = gapN p + (b :: s).length := by
          rw [← hd, List.length_drop]
          omega
        rw [List.cons_append] at h
        obtain ⟨kd, tx, n, h1, h2, h3, h4, h5⟩ := toksW_next h
        rw [← List.cons_append] at h1 h3 h5
        have hpre : ∃ ts', c ++ t :: r = ⟨kd, a + gapN p, tx⟩ :: ts' := by
          unfold toksR at h5
          obtain ⟨ts', h6⟩ := toksW_pre _ _ _ _ _ (Nat.le_refl _) h5
          rw [List.append_assoc] at h6
          exact ⟨ts', List.append_cancel_left h6⟩
        obtain ⟨ts', hts⟩ := hpre
        cases c with
        | nil =>
          simp only [List.nil_append, List.cons.injEq] at hts
          rw [hts.1] at ht
          simp only at ht
          omega
        | cons t0 c' =>
          simp only [List.cons_append, List.cons.injEq] at hts
          obtain ⟨rfl, hts⟩ := hts
          have hin2 := toksR_inc _ _ _ (out ++ [⟨kd, a + gapN p, tx⟩]) (c' ++ t :: r) (Nat.le_refl _) (by rw [h5]; simp)
          have hm2 := hin2.mem
          have hn : n ≤ (b :: s).length := by omega
          have ht1 := tok_cut h1 hn
          rw [toksW_of ht1 h4]
          match m, hm with
          | 0, hm =>
            simp only [List.length_cons] at hlen
            omega
          | m + 1, hm =>
          have := toksR_cut q m ((b :: s).drop n) (a + gapN p + n) (out ++ [⟨kd, a + gapN p, tx⟩]) c' r t (by rw [List.length_drop]; simp only [List.length_cons] at hlen ⊢; omega)
            (by rw [List.drop_append_of_le_length hn] at h5; rw [h5]; simp) (by rw [List.length_drop]; omega)
          rw [this]
          simp
    · have hpl : gapN p = p.length := Nat.le_antisymm (gapN_le p) hg
      have hge : p.length ≤ gapN (p ++ q) := by
        rcases Nat.lt_or_ge (gapN (p ++ q)) p.length with h1 | h1
        · exfalso
          have := gapS_less h1
          unfold gapN at hpl h1
          omega
        · exact h1
      have hc : c = [] := by
        cases c with
        | nil => rfl
        | cons x c =>
          simp only [List.length_cons] at hmem
          omega
      subst hc
      unfold toksR
      rw [List.drop_of_length_le hg, toksW_nil]
      simp
end Go.Proofs.Ytknkkfdkcemolaa.Vm
end
section
/- Plain: a description cut ahead of an item. -/
set_option linter.unusedSimpArgs false
set_option linter.unusedVariables false
namespace Go.Proofs.Ytknkkfdkcemolaa.Vm
open Go
variable {m : Int}

abbrev No10 (x : List UInt8) : Prop := (10 : UInt8) ∉ x
theorem no10_app {x y : List UInt8} (hx : No10 x) (hy : No10 y) : No10 (x ++ y) := fun h => (List.mem_append.1 h).elim hx hy
theorem no10_cons {b : UInt8} {x : List UInt8} (hb : b ≠ 10) (hx : No10 x) : No10 (b :: x) := fun h => (List.mem_cons.1 h).elim (fun e => hb e.symm) hx
theorem no10_take {p : UInt8 → Bool} (hp : p 10 = false) (s : List UInt8) : No10 (s.take (runL p s)) := fun h => by
  have := runL_all p s _ h
  rw [hp] at this
  cases this
theorem tok_no10 {c : UInt8} {r : List UInt8} {kd n : Nat} {tx : List UInt8} (h : tok (c :: r) = (kd, tx, n, 0)) : No10 tx := by
  unfold tok at h
  simp only at h
  split at h
  · simp only [Prod.mk.injEq] at h
    rw [← h.2.1]
    exact no10_take (by decide) _
  split at h
  · simp only [Prod.mk.injEq] at h
    rw [← h.2.1]
    exact no10_take (by decide) _
  split at h
  · split at h
    · simp at h
    · simp only [Prod.mk.injEq] at h
      rw [← h.2.1, List.take_succ_cons, List.drop_succ_cons, List.drop_zero, List.drop_succ_cons, List.drop_zero]
      exact no10_take (by decide) _
  split at h
  · rename_i hs
    simp only [Prod.mk.injEq, List.take_succ_cons, List.take_zero] at h
    rw [← h.2.1]
    refine no10_cons (fun e => ?_) (by simp [No10])
    rw [e] at hs
    cases hs
  · simp at h
theorem toksR_no10 : ∀ (m : Nat) (s : List UInt8) (a : Nat) (out ts : List Tok), s.length ≤ m → toksR s a out = (ts, 0, 0) → (∀ t, t ∈ out → No10 t.text) → ∀ t, t ∈ ts → No10 t.text
  | m, s, a, out, ts, hm, h, ho => by
    unfold toksR at h
    cases hd : s.drop (gapN s) with
    | nil =>
      rw [hd, toksW_nil] at h
      simp only [Prod.mk.injEq, and_true] at h
      rw [← h]
      exact ho
    | cons c r =>
      rw [hd] at h
      obtain ⟨kd, tx, n, h1, h2, h3, h4, h5⟩ := toksW_next h
      have hlen : s.length = gapN s + (c :: r).length := by
        rw [← hd, List.length_drop]
        have := gapN_le s
        omega
      match m, hm with
      | 0, hm =>
        simp only [List.length_cons] at hlen
        omega
      | m + 1, hm =>
      refine toksR_no10 m _ _ _ _ (by rw [List.length_drop]; simp only [List.length_cons] at hlen ⊢; omega) h5 (fun t ht => ?_)
      rcases List.mem_append.1 ht with ht | ht
      · exact ho t ht
      · obtain rfl := List.mem_singleton.1 ht
        exact tok_no10 h1
theorem treeS_no10 : ∀ {t : Tree}, allT (fun t => No10 t.text) t → No10 (treeS t)
  | .leaf w n, h => by
    simp only [treeS]
    refine no10_app (no10_app (no10_cons (by decide) h.1) ?_) (by decide)
    split
    · simp [No10]
    · exact no10_cons (by decide) h.2
  | .un w k, h => by
    simp only [treeS]
    exact no10_app (no10_app (no10_cons (by decide) h.1) (no10_cons (by decide) (treeS_no10 h.2))) (by decide)
  | .bin w a b, h => by
    simp only [treeS]
    exact no10_app (no10_app (no10_app (no10_cons (by decide) h.1) (no10_cons (by decide) (treeS_no10 h.2.1))) (no10_cons (by decide) (treeS_no10 h.2.2))) (by decide)
theorem no10_join {sep : List UInt8} (hs : No10 sep) : ∀ {ws : List (List UInt8)}, (∀ w, w ∈ ws → No10 w) → No10 (Lib.join ws sep)
  | [], _ => by simp [Lib.join, No10, List.intercalate]
  | [x], h => by
    have := h x (List.mem_cons_self ..)
    simpa [Lib.join, No10, List.intercalate] using this
  | x :: y :: r, h => by
    have h1 := no10_join hs (ws := y :: r) (fun w hw => h w (List.mem_cons_of_mem _ hw))
    have h2 := h x (List.mem_cons_self ..)
    have e : Lib.join (x :: y :: r) sep = x ++ sep ++ Lib.join (y :: r) sep := by simp [Lib.join, List.intercalate]
    rw [e]
    exact no10_app (no10_app h2 hs) h1
theorem quotS_no10 {t : Tok} (h : No10 t.text) : No10 (quotS t) := by
  unfold quotS
  split
  · exact no10_app (no10_cons (by decide) h) (by decide)
  · exact h
theorem attrsS_no10 {l : List AttrT} (h : ∀ a, a ∈ l → No10 a.word.text ∧ No10 a.arg.text) : No10 (attrsS l) := by
  unfold attrsS
  intro hm
  obtain ⟨x, hx, hb⟩ := List.mem_flatten.1 hm
  obtain ⟨a, ha, rfl⟩ := List.mem_map.1 hx
  have h1 := h a ha
  revert hb
  refine no10_app (no10_cons (by decide) (no10_cons (by decide) ?_)) (by decide)
  unfold attrS
  split
  · exact h1.1
  · exact no10_app h1.1 (no10_cons (by decide) (quotS_no10 h1.2))
theorem lineS_count {i : ItemT} (h : allI (fun t => No10 t.text) i) : (lineS i).count 10 = 1 := by
  obtain ⟨h1, h2, h3, h4, h5, h6, h7⟩ := h
  have hw : No10 (Lib.join (wordsS i) [32]) := by
    refine no10_join (by decide) (fun w hw => ?_)
    unfold wordsS at hw
    have hq := quotS_no10 h5
    split at hw
    · simp only [List.mem_cons, List.not_mem_nil, or_false] at hw
      rcases hw with rfl | rfl | rfl
      · decide
      · exact h2
      · exact hq
    split at hw
    · simp only [List.mem_cons, List.not_mem_nil, or_false] at hw
      rcases hw with rfl | rfl | rfl | rfl | rfl
      · decide
      · exact h2
      · decide
      · exact h3
      · exact hq
    split at hw
    · simp only [List.mem_cons, List.not_mem_nil, or_false] at hw
      rcases hw with rfl | rfl | rfl | rfl | rfl | rfl
      · decide
      · exact h2
      · decide
      · exact h3
      · exact h4
      · exact hq
    split at hw
    · simp only [List.mem_cons, List.not_mem_nil, or_false] at hw
      subst hw
      decide
    · simp only [List.mem_cons, List.not_mem_nil, or_false] at hw
      rcases hw with rfl | rfl
      · exact h1
      · exact h2
  unfold lineS
  rw [List.count_append, List.count_append, List.count_append, List.count_eq_zero.2 hw, List.count_eq_zero.2 (attrsS_no10 h6)]
  cases hf : i.form with
  | none => simp
  | some t =>
    have := List.count_eq_zero.2 (no10_cons (b := 32) (by decide) (treeS_no10 (h7 t hf)))
    simp only [this]
    simp
theorem dumpS_count {l : List ItemT} (h : ∀ i, i ∈ l → allI (fun t => No10 t.text) i) : (dumpS l).count 10 = l.length := by
  induction l with
  | nil => rfl
  | cons i l ih =>
    have e : dumpS (i :: l) = lineS i ++ dumpS l := by simp [dumpS]
    rw [e, List.count_append, lineS_count (h i (List.mem_cons_self ..)), ih (fun j hj => h j (List.mem_cons_of_mem _ hj)), List.length_cons]
    omega
/-- Cut ahead of an item. -/
theorem readP_cut {s : List UInt8} (h : (readP s).2.1 = 0) (k : Nat) (hk : k < (begins s).length) : ∃ p : Nat, (begins s)[k] = p ∧ p ≤ s.length ∧ (readP (s.take p)).2 = (0, 0) ∧
    (∃ rest, dumpS (readP s).1 = dumpS (readP (s.take p)).1 ++ rest) ∧ (dumpS (readP (s.take p)).1).count 10 = k := by
  obtain ⟨ts, l, hs8, a1, a2, a3, a4⟩ := readP_zero h
  have hb : begins s = l.map fun i => (i.word.at_ : Int) := by unfold begins; rw [a4]
  have hkl : k < l.length := by rw [hb, List.length_map] at hk; exact hk
  have hno := toksR_no10 _ _ _ _ _ (Nat.le_refl _) a1 (by simp)
  have hall := (itemsP_all (P := fun t => No10 t.text) (by simp [zeroTok, No10]) a2 hno (by simp)).1
  have hat := toksR_at s.length _ _ _ _ _ (Nat.le_refl _) a1 (by simp) (by omega)
  obtain ⟨c, r, hts, h2⟩ := items_cut (e' := (s.take (l[k]).word.at_).length) _ [] _ l (by rw [List.nil_append]; exact a2) k hkl
  have hle : (l[k]).word.at_ ≤ s.length := hat _ (by rw [hts]; simp)
  have hpl : (s.take (l[k]).word.at_).length = (l[k]).word.at_ := by rw [List.length_take]; omega
  have h3 := toksR_cut (s.drop (l[k]).word.at_) _ (s.take (l[k]).word.at_) 0 [] c r (l[k]).word (Nat.le_refl _) (by rw [List.take_append_drop, a1, hts]; simp) (by rw [hpl]; omega)
  rw [List.nil_append] at h3
  have hd : deepL (l.take k) = false := by
    have e : l = l.take k ++ l.drop k := (List.take_append_drop k l).symm
    rw [e, deepL_app, Bool.or_eq_false_iff] at a3
    exact a3.1
  have hr := readP_of (s := s.take (l[k]).word.at_) (n := c.length + 1) (by rw [hpl]; omega) h3 (h2 (c.length + 1) [] (by omega)) (by omega) (by rw [List.nil_append]; exact hd)
  rw [List.nil_append] at hr
  refine ⟨(l[k]).word.at_, ?_, hle, by rw [hr], ⟨dumpS (l.drop k), ?_⟩, ?_⟩
  · simp only [hb, List.getElem_map]
  · rw [hr, a4, ← dumpS_app, List.take_append_drop]
  · rw [hr, dumpS_count (fun i hi => hall i (List.mem_of_mem_take hi)), List.length_take]
    omega
end Go.Proofs.Ytknkkfdkcemolaa.Vm
end
section
/- Plain: tokens are of their kinds; formulas look the same. -/
set_option linter.unusedSimpArgs false
set_option linter.unusedVariables false
set_option maxRecDepth 100000
namespace Go.Proofs.Ytknkkfdkcemolaa.Vm
open Go
variable {m : Int}

theorem sign_in {c : UInt8} (h : isSign c = true) : [c] ∈ signs4 := by
  have key : ∀ k : Fin 256, isSign (UInt8.ofNat k.val) = true → [UInt8.ofNat k.val] ∈ signs4 := by decide
  have h1 := key ⟨c.toNat, UInt8.toNat_lt c⟩
  simp only [UInt8.ofNat_toNat] at h1
  exact h1 h
theorem tok_wt {c : UInt8} {r : List UInt8} {kd n : Nat} {tx : List UInt8} (h : tok (c :: r) = (kd, tx, n, 0)) (a : Nat) : WT ⟨kd, a, tx⟩ := by
  unfold tok at h
  simp only at h
  split at h
  · rename_i hs
    simp only [Prod.mk.injEq] at h
    obtain ⟨h1, h2, h3, _⟩ := h
    have hpos : 0 < runL isInner (c :: r) := runL_pos (inner_of_small hs)
    refine ⟨fun hk => ?_, fun hk => ?_, fun hk => ⟨?_, ?_, ?_⟩⟩
    · simp only at hk
      rw [hk] at h1
      split at h1 <;> cases h1
    · simp only at hk ⊢
      rw [hk] at h1
      split at h1
      · rename_i hw
        rw [h2] at hw
        unfold isWord at hw
        obtain ⟨w, hw1, hw2⟩ := List.any_eq_true.1 hw
        have : w = tx := by simpa using hw2
        exact this ▸ hw1
      · cases h1
    · simp only
      rw [← h2]
      intro e
      have := congrArg List.length e
      rw [List.length_take, List.length_nil, List.length_cons] at this
      omega
    · simp only
      rw [← h2]
      intro hm
      have := runL_all isInner (c :: r) _ hm
      cases this
    · simp only
      rw [← h2]
      intro hm
      have := runL_all isInner (c :: r) _ hm
      cases this
  split at h
  · simp only [Prod.mk.injEq] at h
    rw [← h.1]
    exact ⟨fun hk => (by cases hk), fun hk => (by cases hk), fun hk => (by cases hk)⟩
  split at h
  · split at h
    · simp at h
    · simp only [Prod.mk.injEq] at h
      rw [← h.1]
      exact ⟨fun hk => (by cases hk), fun hk => (by cases hk), fun hk => (by cases hk)⟩
  split at h
  · rename_i hs
    simp only [Prod.mk.injEq, List.take_succ_cons, List.take_zero] at h
    rw [← h.1, ← h.2.1]
    exact ⟨fun _ => sign_in hs, fun hk => (by cases hk), fun hk => (by cases hk)⟩
  · simp at h
theorem toksR_wt : ∀ (m : Nat) (s : List UInt8) (a : Nat) (out ts : List Tok), s.length ≤ m → toksR s a out = (ts, 0, 0) → (∀ t, t ∈ out → WT t) → ∀ t, t ∈ ts → WT t
  | m, s, a, out, ts, hm, h, ho => by
    unfold toksR at h
    cases hd : s.drop (gapN s) with
    | nil =>
      rw [hd, toksW_nil] at h
      simp only [Prod.mk.injEq, and_true] at h
      rw [← h]
      exact ho
    | cons c r =>
      rw [hd] at h
      obtain ⟨kd, tx, n, h1, h2, h3, h4, h5⟩ := toksW_next h
      have hlen : s.length = gapN s + (c :: r).length := by
        rw [← hd, List.length_drop]
        have := gapN_le s
        omega
      match m, hm with
      | 0, hm =>
        simp only [List.length_cons] at hlen
        omega
      | m + 1, hm =>
      refine toksR_wt m _ _ _ _ (by rw [List.length_drop]; simp only [List.length_cons] at hlen ⊢; omega) h5 (fun t ht => ?_)
      rcases List.mem_append.1 ht with ht | ht
      · exact ho t ht
      · obtain rfl := List.mem_singleton.1 ht
        exact tok_wt h1 _
/-! ### formulas -/
abbrev NoPar (x : List UInt8) : Prop := (40 : UInt8) ∉ x ∧ (41 : UInt8) ∉ x
def LeafK : Tree → Prop
  | .leaf w n => NoPar w.text ∧ n.kind = 1
  | .un w k => NoPar w.text ∧ LeafK k
  | .bin w a b => NoPar w.text ∧ LeafK a ∧ LeafK b
theorem fact_nopar {x : List UInt8} (h : x ∈ factW) : NoPar x := by
  have key : ∀ x ∈ factW, NoPar x := by decide
  exact key x h
theorem moreP_leaf {next : List Tok → PR Tree} {e : Nat} {word : List UInt8} (hw : NoPar word) (hn : ∀ ts t r, next ts = .ok (t, r) → LeafK t) : ∀ (k : Nat) (t : Tree) (ts : List Tok) (t' : Tree) (r : List Tok), LeafK t → moreP next e word k t ts = .ok (t', r) → LeafK t' := by
  intro k
  induction k with
  | zero => intro t ts t' r _ h; cases h
  | succ k ih =>
    intro t ts t' r ht h
    rw [moreP] at h
    split at h
    · rename_i hi
      split at h
      · cases h
      rename_i w r1 h1
      split at h
      · cases h
      rename_i b r2 h2
      obtain ⟨w', r', rfl, _, hwt, h4⟩ := isP_take (e := e) hi
      rw [h4] at h1
      simp only [Except.ok.injEq, Prod.mk.injEq] at h1
      exact ih (.bin w t b) _ _ _ ⟨by rw [← h1.1, hwt]; exact hw, ht, hn _ _ _ h2⟩ h
    · simp only [Except.ok.injEq, Prod.mk.injEq] at h
      rw [← h.1]
      exact ht
theorem formP_leaf (e : Nat) : ∀ (n l : Nat) (ts : List Tok) (t : Tree) (r : List Tok), formP e n l ts = .ok (t, r) → LeafK t := by
  intro n
  induction n with
  | zero => intro l ts t r h; cases l <;> cases h
  | succ n ih =>
    intro l ts t r
    have chain : ∀ l word, NoPar word → chainOf (formP e n l) e word ts = .ok (t, r) → LeafK t := by
      intro l word hw h
      unfold chainOf at h
      split at h
      · cases h
      rename_i t1 r1 h1
      exact moreP_leaf hw (ih l) _ _ _ _ _ (ih l _ _ _ h1) h
    have fac : formP e (n + 1) 0 ts = .ok (t, r) → LeafK t := by
      intro h
      rw [formP] at h
      case x_4 => decide
      case x_5 => decide
      split at h
      · split at h
        · cases h
        rename_i t1 r1 h1
        split at h
        · cases h
        simp only [Except.ok.injEq, Prod.mk.injEq] at h
        rw [← h.1]
        exact ih _ _ _ _ h1
      · split at h
        · cases h
        rename_i w r1 h1
        split at h
        · rename_i hnot
          split at h
          · cases h
          rename_i k r2 h2
          simp only [Except.ok.injEq, Prod.mk.injEq] at h
          rw [← h.1]
          exact ⟨by rw [hnot]; decide, ih _ _ _ _ h2⟩
        · split at h
          · rename_i hf
            split at h
            · cases h
            rename_i x r2 h2
            simp only [Except.ok.injEq, Prod.mk.injEq] at h
            rw [← h.1]
            exact ⟨fact_nopar hf, (takeP_len h2).2⟩
          · cases h
    intro h
    match l with
    | 0 => exact fac h
    | 1 => exact chain 0 _ (by decide) h
    | 2 => exact chain 1 _ (by decide) h
    | l + 3 => exact fac h
theorem treeS_form : ∀ {t : Tree}, LeafK t → allT WT t → treeS t = formS (rtOf t)
  | .leaf w n, h, ha => by
    have h1 := ha.2.2.2 h.2
    simp only [treeS, rtOf, formS]
    rw [if_neg (by rw [h.2]; decide), if_neg h1.1]
  | .un w k, h, ha => by
    simp only [treeS, rtOf, formS]
    rw [treeS_form h.2 ha.2]
  | .bin w a b, h, ha => by
    simp only [treeS, rtOf, formS]
    rw [treeS_form h.2.1 ha.2.1, treeS_form h.2.2 ha.2.2]
/-! ### how deep -/
def isPar (c : UInt8) : Int := (if c = 40 then 1 else 0) - (if c = 41 then 1 else 0)
theorem deepF_cons (c : UInt8) (r : List UInt8) (n b : Int) : deepF (c :: r) n b = deepF r (n + (if c = 40 then 1 else 0) - (if c = 41 then 1 else 0)) (max b (n + (if c = 40 then 1 else 0) - (if c = 41 then 1 else 0))) := rfl
theorem deepF_none : ∀ {x : List UInt8} (r : List UInt8) {n b : Int}, NoPar x → n ≤ b → deepF (x ++ r) n b = deepF r n b
  | [], r, n, b, _, _ => rfl
  | c :: x, r, n, b, h, hb => by
    have h1 : c ≠ 40 := fun e => h.1 (e ▸ List.mem_cons_self ..)
    have h2 : c ≠ 41 := fun e => h.2 (e ▸ List.mem_cons_self ..)
    rw [List.cons_append, deepF_cons, if_neg h1, if_neg h2, show n + 0 - 0 = n by omega, Int.max_eq_left hb]
    exact deepF_none r ⟨fun hm => h.1 (List.mem_cons_of_mem _ hm), fun hm => h.2 (List.mem_cons_of_mem _ hm)⟩ hb
theorem deepF_open (r : List UInt8) (n b : Int) : deepF (40 :: r) n b = deepF r (n + 1) (max b (n + 1)) := by
  rw [deepF_cons, if_pos rfl, if_neg (by decide), show n + 1 - 0 = n + 1 by omega]
theorem deepF_close (r : List UInt8) {n b : Int} (h : n - 1 ≤ b) : deepF (41 :: r) n b = deepF r (n - 1) b := by
  rw [deepF_cons, if_neg (by decide), if_pos rfl, show n + 0 - 1 = n - 1 by omega, Int.max_eq_left h]
theorem nopar32 {x : List UInt8} (h : NoPar x) : NoPar (32 :: x) := ⟨fun hm => (List.mem_cons.1 hm).elim (fun e => by cases e) h.1, fun hm => (List.mem_cons.1 hm).elim (fun e => by cases e) h.2⟩
theorem depthT_pos (t : Tree) : 0 < depthT t := by cases t <;> simp [depthT]
theorem deepF_tree : ∀ {t : Tree} (r : List UInt8) {n b : Int}, LeafK t → allT WT t → n ≤ b → deepF (formS (rtOf t) ++ r) n b = deepF r n (max b (n + depthT t))
  | .leaf w x, r, n, b, h, ha, hb => by
    have h1 := ha.2.2.2 h.2
    simp only [rtOf, formS]
    rw [if_neg h1.1, show (40 :: w.text ++ 32 :: x.text ++ [41] ++ r) = 40 :: (w.text ++ ((32 :: x.text) ++ (41 :: r))) by simp, deepF_open, deepF_none _ h.1 (by omega), deepF_none _ (nopar32 h1.2) (by omega), deepF_close _ (by omega)]
    rw [show n + 1 - 1 = n by omega]
    rfl
  | .un w k, r, n, b, h, ha, hb => by
    simp only [rtOf, formS]
    rw [show (40 :: w.text ++ 32 :: formS (rtOf k) ++ [41] ++ r) = 40 :: (w.text ++ ([32] ++ (formS (rtOf k) ++ (41 :: r)))) by simp, deepF_open, deepF_none _ h.1 (by omega), deepF_none _ (by decide) (by omega), deepF_tree _ h.2 ha.2 (by omega), deepF_close _ (by omega)]
    have := depthT_pos k
    rw [show n + 1 - 1 = n by omega, show max (max b (n + 1)) (n + 1 + (depthT k : Int)) = max b (n + ((depthT k + 1 : Nat) : Int)) by omega]
    rfl
  | .bin w x y, r, n, b, h, ha, hb => by
    simp only [rtOf, formS]
    rw [show (40 :: w.text ++ 32 :: formS (rtOf x) ++ 32 :: formS (rtOf y) ++ [41] ++ r) = 40 :: (w.text ++ ([32] ++ (formS (rtOf x) ++ ([32] ++ (formS (rtOf y) ++ (41 :: r)))))) by simp, deepF_open, deepF_none _ h.1 (by omega), deepF_none _ (by decide) (by omega), deepF_tree _ h.2.1 ha.2.1 (by omega),
      deepF_none _ (by decide) (by omega), deepF_tree _ h.2.2 ha.2.2 (by omega), deepF_close _ (by omega)]
    have h1 := depthT_pos x
    have h2 := depthT_pos y
    rw [show n + 1 - 1 = n by omega, show max (max (max b (n + 1)) (n + 1 + (depthT x : Int))) (n + 1 + (depthT y : Int)) = max b (n + ((max (depthT x) (depthT y) + 1 : Nat) : Int)) by omega]
    rfl
theorem deepF_depth {t : Tree} (h : LeafK t) (ha : allT WT t) : deepF (formS (rtOf t)) 0 0 = depthT t := by
  have := deepF_tree [] (n := 0) (b := 0) h ha (by omega)
  rw [List.append_nil] at this
  rw [this]
  show max (0 : Int) (0 + depthT t) = _
  omega
end Go.Proofs.Ytknkkfdkcemolaa.Vm
end
section
/- Plain: the program's reader and the document's read the same: all. -/
set_option linter.unusedSimpArgs false
set_option linter.unusedVariables false
set_option maxRecDepth 100000
namespace Go.Proofs.Ytknkkfdkcemolaa.Vm
open Go
variable {m : Int}

theorem attr_told (a : AttrT) : attrS a = a.word.text ++ toldS a.arg := by
  unfold attrS toldS quotS
  split
  · simp
  split
  · simp
  · rfl
theorem attrs_told (l : List AttrT) : attrsS l = attrsR (l.map raOf) := by
  unfold attrsS attrsR
  rw [List.map_map]
  congr 1
  refine List.map_congr_left fun a _ => ?_
  simp [raOf, attr_told]
theorem told1 {t : Tok} {k : Nat} (h : t.kind = k) (h0 : k ≠ 0) (h3 : k ≠ 3) : toldS t = 32 :: t.text := by
  unfold toldS
  rw [if_neg (by rw [h]; exact h0), if_neg (by rw [h]; exact h3)]
theorem told3 {t : Tok} (h : t.kind = 3) : toldS t = 32 :: quotS t := by
  unfold toldS quotS
  rw [if_neg (by rw [h]; decide), if_pos h, if_pos h]
  rfl
theorem told0 : toldS zeroTok = [] := rfl
theorem formsO {i : ItemT} (h : ∀ t, i.form = some t → LeafK t ∧ allT WT t) : (match i.form with
    | none => []
    | some t => 32 :: treeS t) = (match (riOf i).form with
    | none => []
    | some t => 32 :: formS t) ∧ deepL [i] = deepR [riOf i] := by
  cases hf : i.form with
  | none => exact ⟨by simp [riOf, hf], by simp [deepL, deepR, riOf, hf, depthO]⟩
  | some t =>
    obtain ⟨h1, h2⟩ := h t hf
    refine ⟨by simp [riOf, hf, treeS_form h1 h2], ?_⟩
    simp only [deepL, deepR, riOf, hf, depthO, List.any_cons, List.any_nil, Bool.or_false, Option.map_some, deepF_depth h1 h2]
    congr 1
    exact propext (by omega)
theorem line_same {i : ItemT} (h : ∀ t, i.form = some t → LeafK t ∧ allT WT t) (h0 : Lib.join (wordsS i) [32] = lineR0 (riOf i)) : lineS i = lineR (riOf i) ∧ deepL [i] = deepR [riOf i] := by
  have h1 := formsO h
  refine ⟨?_, h1.2⟩
  unfold lineS lineR
  rw [h0, attrs_told]
  exact congrArg (fun z => lineR0 (riOf i) ++ attrsR (riOf i).al ++ z ++ [10]) h1.1
theorem placed_kinds {e : Nat} {r r2 : List Tok} {n : Tok × Tok} (h : placedP e r = .ok (n, r2)) : n.1.kind = 1 ∧ n.2.kind = 1 := by
  unfold placedP at h
  split at h
  · cases h
  rename_i t r1 h1
  split at h
  · cases h
  rename_i x r2 h2
  split at h
  · cases h
  rename_i y r3 h3
  simp only [Except.ok.injEq, Prod.mk.injEq] at h
  rw [← h.1]
  exact ⟨(takeP_len h1).2, (takeP_len h3).2⟩
theorem itemK_line {e : Nat} {w : Tok} {r r2 : List Tok} {i : ItemT} (hr : Each WT r) (h : itemK e w r = .ok (i, r2)) : lineS i = lineR (riOf i) ∧ deepL [i] = deepR [riOf i] := by
  unfold itemK at h
  split at h
  · rename_i h1
    obtain ⟨n, r1, a1, h⟩ := andP_ok h
    obtain ⟨x, r2, a2, h⟩ := andP_ok h
    obtain ⟨y, r3, a3, h⟩ := andP_ok h
    simp only [Except.ok.injEq, Prod.mk.injEq] at h
    obtain ⟨rfl, rfl⟩ := h
    refine line_same (fun t ht => by cases ht) ?_
    simp [wordsS, h1, lineR0, riOf, told1 (takeP_len a1).2, told3 (takeP_len a2).2, told0, Lib.join, List.intercalate, zeroTok]
    rfl
  split at h
  · rename_i h0 h1
    obtain ⟨n, r1, a1, h⟩ := andP_ok h
    obtain ⟨x, r2, a2, h⟩ := andP_ok h
    obtain ⟨y, r3, a3, h⟩ := andP_ok h
    simp only [Except.ok.injEq, Prod.mk.injEq] at h
    obtain ⟨rfl, rfl⟩ := h
    refine line_same (fun t ht => by cases ht) ?_
    have hp := placed_kinds a1
    simp [wordsS, h1, h0, lineR0, riOf, hp.2, told1 hp.1, told1 hp.2, told3 (takeP_len a2).2, told0, Lib.join, List.intercalate, zeroTok]
    rfl
  split at h
  · rename_i h0 h1 h2
    obtain ⟨n, r1, a1, h⟩ := andP_ok h
    obtain ⟨y, r3, a3, h⟩ := andP_ok h
    simp only [Except.ok.injEq, Prod.mk.injEq] at h
    obtain ⟨rfl, rfl⟩ := h
    refine line_same (fun t ht => by cases ht) ?_
    simp [wordsS, h2, lineR0, riOf, told1 (takeP_len a1).2, told0, Lib.join, List.intercalate, zeroTok]
    rfl
  split at h
  · rename_i h0 h1 h2 h3
    obtain ⟨y, r3, a3, h⟩ := andP_ok h
    simp only [Except.ok.injEq, Prod.mk.injEq] at h
    obtain ⟨rfl, rfl⟩ := h
    refine line_same (fun t ht => by cases ht) ?_
    simp [wordsS, h3, lineR0, riOf, told0, Lib.join, List.intercalate, zeroTok]
    rfl
  split at h
  · rename_i h0 h1 h2 h3 h4
    obtain ⟨n, r1, a1, h⟩ := andP_ok h
    obtain ⟨y, r3, a3, h⟩ := andP_ok h
    obtain ⟨t, r4, a4, h⟩ := andP_ok h
    obtain ⟨z2, r5, a5, h⟩ := andP_ok h
    simp only [Except.ok.injEq, Prod.mk.injEq] at h
    obtain ⟨rfl, rfl⟩ := h
    have hr3 := (wantP_all a3 (takeP_all a1 hr).2).2
    refine line_same (fun t' ht => ?_) ?_
    · obtain rfl := Option.some.inj ht
      exact ⟨formP_leaf e _ _ _ _ _ a4, (formP_all e _ _ _ _ _ a4 hr3).1⟩
    · simp [wordsS, h4, lineR0, riOf, told1 (takeP_len a1).2, told0, Lib.join, List.intercalate, zeroTok]
      rfl
  split at h
  · rename_i h0 h1 h2 h3 h4 h5
    obtain ⟨n, r1, a1, h⟩ := andP_ok h
    obtain ⟨c, r2, a2, h⟩ := andP_ok h
    obtain ⟨x, r3, a3, h⟩ := andP_ok h
    obtain ⟨y, r4, a4, h⟩ := andP_ok h
    obtain ⟨l, r5, a5, h⟩ := andP_ok h
    simp only [Except.ok.injEq, Prod.mk.injEq] at h
    obtain ⟨rfl, rfl⟩ := h
    have hp := placed_kinds a1
    refine line_same (fun t ht => by cases ht) ?_
    simp [wordsS, h5, lineR0, riOf, hp.2, told1 hp.1, told1 hp.2, told1 (takeP_len a2).2, told3 (takeP_len a3).2, told0, Lib.join, List.intercalate, zeroTok]
  · cases h
def GoodI (i : ItemT) : Prop := lineS i = lineR (riOf i) ∧ deepL [i] = deepR [riOf i]
theorem itemsP_good {e : Nat} : ∀ {k : Nat} {out l : List ItemT} {ts : List Tok}, itemsP e k out ts = .ok l → Each WT ts → (∀ i, i ∈ out → GoodI i) → ∀ i, i ∈ l → GoodI i
  | 0, _, _, _, h => by cases h
  | k + 1, out, l, [], h => by
    intro _ ho
    rw [itemsP] at h
    obtain rfl := Except.ok.inj h
    exact ho
  | k + 1, out, l, t :: r, h => by
    intro ha ho
    rw [itemsP] at h
    split at h
    · cases h
    · rename_i i r2 h1
      have q := itemP_all h1 ha wt_zero
      refine itemsP_good h q.2.1 (fun x hx => ?_)
      rcases List.mem_append.1 hx with hx | hx
      · exact ho x hx
      · obtain rfl := List.mem_singleton.1 hx
        unfold itemP at h1
        obtain ⟨w, r1, a1, h2⟩ := andP_ok h1
        exact itemK_line (takeP_all a1 ha).2 h2
def dumpR (l : List RI) : List UInt8 := (l.map lineR).flatten
theorem good_dump {l : List ItemT} (h : ∀ i, i ∈ l → GoodI i) : dumpS l = dumpR (l.map riOf) ∧ deepL l = deepR (l.map riOf) := by
  induction l with
  | nil => exact ⟨rfl, rfl⟩
  | cons i l ih =>
    have h1 := h i (List.mem_cons_self ..)
    have h2 := ih (fun j hj => h j (List.mem_cons_of_mem _ hj))
    refine ⟨?_, ?_⟩
    · have e1 : dumpS (i :: l) = lineS i ++ dumpS l := by simp [dumpS]
      have e2 : dumpR ((i :: l).map riOf) = lineR (riOf i) ++ dumpR (l.map riOf) := by simp [dumpR]
      rw [e1, e2, h1.1, h2.1]
    · have e1 : deepL (i :: l) = (deepL [i] || deepL l) := by simp [deepL]
      have e2 : deepR ((i :: l).map riOf) = (deepR [riOf i] || deepR (l.map riOf)) := by
        unfold deepR
        rw [List.map_cons, List.any_cons, List.any_cons, List.any_nil, Bool.or_false]
      rw [e1, e2, h1.2, h2.2]
theorem toks_wt {s : List UInt8} (h : (toks s).2.1 = 0) : Each WT (toks s).1 := by
  have hs : s.length ≤ 8000 := by
    rcases Nat.lt_or_ge 8000 s.length with h1 | h1
    · have h2 : toks s = ([], 6, 0) := by unfold toks; rw [if_pos h1]
      rw [h2] at h
      cases h
    · exact h1
  rw [toks_R hs] at h ⊢
  exact toksR_wt _ s 0 [] _ (Nat.le_refl _) (Prod.ext rfl (Prod.ext h (toksR_zero h))) (by simp)
/-- The document's answer is the program's. -/
theorem read_same (s : List UInt8) : (readR s).1 = (readP s).1.map riOf ∧ (readR s).2.1 = (readP s).2.1 ∧ (readR s).2.2 = ((readP s).2.2 : Int) ∧ dumpS (readP s).1 = dumpR (readR s).1 := by
  by_cases h : (toks s).2.1 = 0
  · have hP : readP s = match itemsP s.length ((toks s).1.length + 1) [] (toks s).1 with
        | .error a => ([], 4, a)
        | .ok l => if deepL l then ([], 5, 0) else (l, 0, 0) := by
      unfold readP
      rw [if_neg (not_not_intro h)]
      rfl
    have hR : readR s = match (rItems ((toks s).1.length + 2) [] ([], (toks s).1, none)).2.2.2 with
        | some b => ([], 4, if b < 0 then (s.length : Int) else b)
        | none => if deepR (rItems ((toks s).1.length + 2) [] ([], (toks s).1, none)).1 then ([], 5, 0) else ((rItems ((toks s).1.length + 2) [] ([], (toks s).1, none)).1, 0, 0) := by
      unfold readR
      rw [if_neg (not_not_intro h)]
      rfl
    have hw := toks_wt h
    have h1 := items_rel s.length ((toks s).1.length + 1) ((toks s).1.length + 2) [] [] (toks s).1 hw (by omega) (by omega)
    rw [List.map_nil] at h1
    cases hx : itemsP s.length ((toks s).1.length + 1) [] (toks s).1 with
    | error a =>
      rw [hx] at h1 hP
      obtain ⟨T, pre, r, b, h2, h3⟩ := h1
      rw [h2] at hR
      simp only at hP hR
      rw [hP, hR]
      refine ⟨rfl, rfl, ?_, rfl⟩
      show (if b < 0 then (s.length : Int) else b) = (a : Int)
      unfold badOf at h3
      split at h3
      · rename_i hb
        rw [if_pos hb, ← h3]
      · rename_i hb
        rw [if_neg hb, ← h3]
        omega
    | ok l =>
      rw [hx] at h1 hP
      obtain ⟨pre, h2⟩ := h1
      rw [h2] at hR
      have hg := good_dump (itemsP_good hx hw (by simp))
      simp only at hP hR
      rw [hg.2] at hP
      rw [hP, hR]
      by_cases hd : deepR (l.map riOf) = true
      · rw [if_pos hd, if_pos hd]
        exact ⟨rfl, rfl, rfl, rfl⟩
      · rw [if_neg hd, if_neg hd]
        exact ⟨rfl, rfl, rfl, hg.1⟩
  · have hP : readP s = ([], (toks s).2.1, (toks s).2.2) := by
      unfold readP
      rw [if_pos h]
    have hR : readR s = ([], (toks s).2.1, ((toks s).2.2 : Int)) := by
      unfold readR
      rw [if_pos h]
    rw [hP, hR]
    exact ⟨rfl, rfl, rfl, rfl⟩
end Go.Proofs.Ytknkkfdkcemolaa.Vm
end
section
/- Walks: what the first law of syn calls, besides. -/
set_option linter.unusedSimpArgs false
set_option linter.unusedVariables false
set_option maxRecDepth 100000
set_option maxHeartbeats 4000000
namespace Go.Proofs.Ytknkkfdkcemolaa.Vm
open Go
variable {m : Int}
attribute [local irreducible] wpD opsD thenD blockD planD planA LoopD
attribute [local simp] List.take_of_length_le List.drop_of_length_le bne mvD itemsL_flat

theorem Items_behind (c0 a0 : Nat) (s : List UInt8) (hs : s.length < 1000000) (hne : (readP s).1 ≠ []) : ∃ g, CallsV (L m) 11 [.str s] [wrB c0 a0] (Turns (.tuple [.slice 3 0 (readP s).1.length g, wrD (readP s).2.1 (readP s).2.2])
    [wrB c0 a0, wrB (readP s).2.1 (readP s).2.2, wrB (readP s).2.1 (readP s).2.2, .cells g 1 false (atsI (readP s).1)]) := by
  refine ⟨(readP s).1.length, ?_⟩
  refine turns_of_body L_ok (fn := Try.f11) rfl rfl rfl rfl (by kernel_rfl) ?_
  have a1 := Read_ok (m := m) s hs
  have hsz := (readP_all s).2
  generalize readP s = x at a1 hsz hne ⊢
  obtain ⟨l, c, a⟩ := x
  simp only at a1 hsz hne ⊢
  rw [itemsL_some hne] at a1
  have hlen := sizeL_len l
  repeat' (first
    | apply w_seq
    | apply w_region
    | apply o_end
    | apply t_normal
    | (apply o_val; exact kc0; exact kc2)
    | (apply o_fn fine; exact kc0; exact kc1; exact a1; exact kc3)
    | (apply o_mem; exact kc0; rfl; exact kc1)
    | apply w_block
    | fail)
  clear a1
  refine w_loopT (fun n f H => ∃ (out rest : List ItemT) (A : D), Sep out rest l ∧ n = rest.length ∧ f 3 = .ref 1 0 0 0 ∧ f 5 = .ref 2 0 0 0 ∧ f 6 = A ∧ f 14 = .isl 17 (l.map itemC) ∧ f 15 = .int .i64 l.length ∧ f 16 = .int .i64 out.length ∧
    ((out = [] ∧ A = .nilsl ∧ H = [wrB c0 a0, wr0, wrB c a]) ∨ (out ≠ [] ∧ A = .slice 3 0 out.length out.length ∧ H = [wrB c0 a0, wr0, wrB c a, .cells out.length 1 false (atsI out)]))) l.length
    ⟨[], l, .nilsl, rfl, by simp, by simp, by simp, by simp, by simp, by simp, by simp, .inl ⟨rfl, rfl, rfl⟩⟩ ?_
  rintro n f H ⟨out, rest, A, hsep, rfl, g3, g5, g6, g14, g15, g16, hor⟩
  cases rest with
  | cons x r =>
    have hlt : out.length < l.length := by rw [hsep.len]; simp
    have hx : l[out.length] = x := hsep.get hlt
    have hsep2 := hsep.next
    have hc : decide ((out.length : Int) < (l.length : Int)) = true := by simp; omega
    have hb1 : (out.length + 1) * 8 ≤ 140737488355328 := by omega
    have hb2 : out.length ≤ 140737488355327 := by omega
    rcases hor with ⟨rfl, rfl, rfl⟩ | ⟨h0, rfl, rfl⟩
    · simp only [List.length_nil] at hlt hx
      clear hc
      repeat' (first
        | apply w_seq
        | apply w_region
        | apply o_end
        | apply t_normal
        | (apply o_add; exact kc0; exact kc2; rfl; exact kc2; rfl; exact ke2)
        | (apply o_val; exact kc0; exact kc2)
        | (apply o_fuse; exact kc0; rfl; (focus (simp [*]; first | rfl | exact ⟨rfl, rfl⟩)); exact kc0; rfl; (focus (simp [*]; first | rfl | exact ⟨rfl, rfl⟩ | exact ⟨rfl, rfl, rfl⟩)); (focus (intro d hd; apply Under.flat; revert hd; revert d; simp; done)))
        | (apply o_frz (op := Op.buildSlice _ _ _); exact kc0; rfl; exact kc1; (focus (simp; done)); exact kd7)
        | (apply o_mem; exact kc0; rfl; exact kc1)
        | apply w_skip
        | apply w_block
        | apply b_normal
        | (apply w_true; exact kc3)
        | fail)
      refine ⟨r.length, by simp, [wrB c0 a0, wr0, wrB c a, .cells 1 1 false (atsI [x])], 4, [(3, .ref 1 0 0 0), (5, .ref 2 0 0 0), (6, .slice 3 0 1 1), (14, .isl 17 (l.map itemC)), (15, .int .i64 l.length), (16, .int .i64 1)],
        by simp, by simp [*], by simp, ?_, ?_, [x], r, .slice 3 0 1 1, hsep2, rfl, by simp [lookF], by simp [lookF], by simp [lookF], by simp [lookF], by simp [lookF], by simp [lookF], .inr ⟨by simp, rfl, rfl⟩⟩
      · intro b hb
        simp only [List.mem_cons, List.not_mem_nil, or_false] at hb
        rcases hb with rfl | rfl | rfl | rfl
        all_goals simp
      · intro p hp
        simp only [List.mem_cons, List.not_mem_nil, or_false] at hp
        rcases hp with rfl | rfl | rfl | rfl | rfl | rfl
        all_goals exact .inl ⟨by simp [*], by simp⟩
    · skip
      repeat' (first
        | apply w_seq
        | apply w_region
        | apply o_end
        | apply t_normal
        | (apply o_add; exact kc0; exact kc2; rfl; exact kc2; rfl; exact ke2)
        | (apply o_val; exact kc0; exact kc2)
        | (apply o_fuse; exact kc0; rfl; (focus (simp [*]; first | rfl | exact ⟨rfl, rfl⟩)); exact kc0; rfl; (focus (simp [*]; first | rfl | exact ⟨rfl, rfl⟩ | exact ⟨rfl, rfl, rfl⟩)); (focus (intro d hd; apply Under.flat; revert hd; revert d; simp; done)))
        | (apply o_frz (op := Op.buildSlice _ _ _); exact kc0; rfl; exact kc1; (focus (simp; done)); exact kd7)
        | (apply o_mem; exact kc0; rfl; exact kc1)
        | apply w_skip
        | apply w_block
        | apply b_normal
        | (apply w_true; exact kc3)
        | fail)
      refine ⟨r.length, by simp, [wrB c0 a0, wr0, wrB c a, .cells (out.length + 1) 1 false (atsI (out ++ [x]))], 4, [(3, .ref 1 0 0 0), (5, .ref 2 0 0 0), (6, .slice 3 0 (out.length + 1) (out.length + 1)), (14, .isl 17 (l.map itemC)), (15, .int .i64 l.length), (16, .int .i64 ((out.length + 1 : Nat) : Int))],
        by simp, by simp [*], by simp, ?_, ?_, out ++ [x], r, .slice 3 0 (out.length + 1) (out.length + 1), hsep2, rfl, by simp [lookF], by simp [lookF], by simp [lookF], by simp [lookF], by simp [lookF], by simp [lookF], .inr ⟨by simp, by simp, by simp⟩⟩
      · intro b hb
        simp only [List.mem_cons, List.not_mem_nil, or_false] at hb
        rcases hb with rfl | rfl | rfl | rfl
        · simp
        · simp
        · simp
        · intro y hy d hd
          obtain ⟨z, _, rfl⟩ := List.mem_map.1 hy
          obtain rfl := List.mem_singleton.1 hd
          exact .int _ _
      · intro p hp
        simp only [List.mem_cons, List.not_mem_nil, or_false] at hp
        rcases hp with rfl | rfl | rfl | rfl | rfl | rfl
        all_goals exact .inl ⟨by simp [*], by simp⟩
  | nil =>
    obtain rfl : out = l := by simpa [Sep] using hsep
    have hc : decide ((out.length : Int) < (out.length : Int)) = false := by simp
    rcases hor with ⟨h0, rfl, rfl⟩ | ⟨h0, rfl, rfl⟩
    · exact absurd h0 hne
    · clear hsep
      repeat' (first
        | apply w_seq
        | apply w_region
        | apply o_end
        | apply t_normal
        | (apply o_val; exact kc0; exact kc2)
        | apply w_ret
        | apply w_exit
        | apply t_exit
        | apply b_here
        | (apply w_false; exact kc3)
        | (apply w_drawN; rfl; exact ke3; exact kc4)
        | (apply a_end; exact kc4)
        | (apply a_val; exact kc4; exact kc5; exact kd9; exact kc6)
        | (apply a_tie; exact kc4; exact kc5; exact ke0; exact kc7; exact kc6; exact kc4)
        | (apply a_mem; exact kc4; exact kc5; exact ke1; exact kd8; exact kc7; exact kc6; exact kc4)
        | fail)
      apply t_retT
      · simp [*]; rfl
      · rfl
      · rfl
end Go.Proofs.Ytknkkfdkcemolaa.Vm
end
section
/- Walks: numbers are written over. -/
set_option linter.unusedSimpArgs false
set_option linter.unusedVariables false
set_option maxRecDepth 100000
set_option maxHeartbeats 4000000
namespace Go.Proofs.Ytknkkfdkcemolaa.Vm
open Go
variable {m : Int}
attribute [local irreducible] wpD opsD thenD blockD planD planA LoopD
attribute [local simp] List.take_of_length_le List.drop_of_length_le bne mvD itemsL_flat

theorem OverInts_ok (xs : List (List D)) (g : Nat) (hl : xs.length ≤ 1000000) (ht : ∀ x, x ∈ xs → x.tail = []) : CallsV (L m) 15 [.slice 0 0 xs.length g] [.cells g 1 false xs] (Turns (.tuple []) [.cells (g + 1) 1 false (List.replicate xs.length [.int .i64 (-999)] ++ [[.int .i64 (-999)]])]) := by
  refine turns_of_body L_ok (fn := Try.f15) rfl rfl rfl rfl (by kernel_rfl) ?_
  repeat' (first
    | apply w_seq
    | apply w_region
    | apply o_end
    | apply t_normal
    | (apply o_val; exact kc0; exact kc2)
    | apply w_block
    | fail)
  refine w_loop (fun n f H => ∃ (i : Nat), i ≤ xs.length ∧ n = xs.length - i ∧ H = [.cells g 1 false (List.replicate i [.int .i64 (-999)] ++ xs.drop i)] ∧ f 0 = .slice 0 0 xs.length g ∧ f 2 = .int .i64 i) xs.length ⟨0, by simp, rfl, by simp, by simp, by simp⟩ ?_
  rintro n f H ⟨i, hi, rfl, rfl, g0, g2⟩
  by_cases hlt : i < xs.length
  · have hli : (i : Int) < xs.length := by omega
    have hlen : i + (xs.length - i) = xs.length := by omega
    have hx := ht _ (List.getElem_mem hlt)
    clear ht
    repeat' (first
      | apply w_seq
      | apply w_region
      | apply o_end
      | apply t_normal
      | (apply o_add; exact kc0; exact kc2; rfl; exact kc2; rfl; exact ke2)
      | (apply o_val; exact kc0; exact kc2)
      | (apply o_mem; exact kc0; rfl; exact kc1)
      | apply w_skip
      | apply w_block
      | apply b_normal
      | (apply w_true; exact kc3)
      | fail)
    refine ⟨xs.length - (i + 1), by omega, i + 1, by omega, rfl, ?_, by simp [*], by simp [*]⟩
    rw [List.drop_eq_getElem_cons hlt, List.set_cons_zero, List.replicate_succ', List.append_assoc]
    rfl
  · have hli : ¬ (i : Int) < xs.length := by omega
    obtain rfl : i = xs.length := by omega
    have hb1 : (xs.length + 1) * 8 ≤ 140737488355328 := by omega
    have hb2 : xs.length ≤ 140737488355327 := by omega
    clear ht
    rw [List.drop_length, List.append_nil]
    repeat' (first
      | apply w_seq
      | apply w_region
      | apply o_end
      | apply t_normal
      | (apply o_val; exact kc0; exact kc2)
      | (apply o_frz (op := Op.buildSlice _ _ _); exact kc0; rfl; exact kc1; (focus (simp; done)); exact kd7)
      | (apply o_mem; exact kc0; rfl; exact kc1)
      | apply w_exit
      | apply t_exit
      | apply b_here
      | (apply w_false; exact kc3)
      | fail)
    first
      | (apply t_normT; exact kc2; rfl; rfl)
      | (apply t_retT; exact kc2; rfl; rfl)
end Go.Proofs.Ytknkkfdkcemolaa.Vm
end
section
/- Plain: all that the document's reader reads is short. -/
set_option linter.unusedSimpArgs false
set_option linter.unusedVariables false
set_option maxRecDepth 100000
namespace Go.Proofs.Ytknkkfdkcemolaa.Vm
open Go
variable {m : Int}

theorem rItems_short : ∀ (k : Nat) (out : List RI) (s : PS), Sh s → mu s ≤ 2001 → (∀ i, i ∈ out → ShortI i) → ∀ i, i ∈ (rItems k out s).1 → ShortI i := by
  intro k
  induction k with
  | zero => intro out s _ _ ho; exact ho
  | succ k ih =>
    intro out s hs hm ho
    rw [rItems]
    split
    · rename_i h
      simp only [Bool.and_eq_true, Bool.not_eq_true'] at h
      have hne : s.2.1 ≠ [] := by
        intro e
        rw [e] at h
        cases h.2
      have h1 : mu s = s.2.1.length + 1 := by simp [mu, h.1]
      have h2 := item_short hs hne (by omega)
      have h3 := (ritem_facts s hne).2 h.1
      refine ih _ _ h2.2 (by omega) (fun i hi => ?_)
      rcases List.mem_append.1 hi with hi | hi
      · exact ho i hi
      · obtain rfl := List.mem_singleton.1 hi
        exact h2.1
    · exact ho
theorem readR_short (s : List UInt8) : ∀ i, i ∈ (readR s).1 → ShortI i := by
  unfold readR
  have h1 := toks_all s
  have h2 := rItems_short ((toks s).1.length + 2) [] ([], (toks s).1, none) h1.2 (by simp [mu]; omega) (by simp)
  split
  · intro i hi; cases hi
  split
  · intro i hi; cases hi
  split
  · intro i hi; cases hi
  · exact h2
end Go.Proofs.Ytknkkfdkcemolaa.Vm
end
section
/- Walks: the first law of syn. -/
set_option linter.unusedSimpArgs false
set_option linter.unusedVariables false
set_option maxRecDepth 100000
set_option maxHeartbeats 4000000
namespace Go.Proofs.Ytknkkfdkcemolaa.Vm
open Go
variable {m : Int}
attribute [local irreducible] wpD opsD thenD blockD planD planA LoopD
attribute [local simp] List.take_of_length_le List.drop_of_length_le bne mvD itemsL_flat

theorem OverNil_ok : Ans (L m) 15 [.nilsl] (.tuple []) := by
  refine fn_of_body L_ok (fn := Try.f15) rfl rfl rfl rfl (by kernel_rfl) ?_
  repeat' (first
    | apply w_seq
    | apply w_region
    | apply o_end
    | apply t_normal
    | (apply o_val; exact kc0; exact kc2)
    | apply w_block
    | fail)
  apply loop_is
  apply loop_unfold
  repeat' (first
    | apply w_seq
    | apply w_region
    | apply o_end
    | apply t_normal
    | (apply o_val; exact kc0; exact kc2)
    | (apply o_frz (op := Op.buildSlice _ _ _); exact kc0; rfl; exact kc1; (focus (simp; done)); exact kd7)
    | (apply o_mem; exact kc0; rfl; exact kc1)
    | apply w_exit
    | apply t_exit
    | apply b_here
    | (apply w_false; exact kc3)
    | fail)
  first
    | (apply f_normalf; exact kc2; (focus (simp)); rfl)
    | (apply f_retf; exact kc2; (focus (simp)); rfl)
theorem SameNil_ok : Ans (L m) 14 [.nilsl, .nilsl] (.bool true) := by
  refine fn_of_body L_ok (fn := Try.f14) rfl rfl rfl rfl (by kernel_rfl) ?_
  repeat' (first
    | apply w_seq
    | apply w_region
    | apply o_end
    | apply t_normal
    | (apply o_val; exact kc0; exact kc2)
    | apply w_skip
    | apply w_block
    | (apply w_false; exact kc3)
    | fail)
  apply loop_is
  apply loop_unfold
  repeat' (first
    | apply w_seq
    | apply w_region
    | apply o_end
    | apply t_normal
    | (apply o_val; exact kc0; exact kc2)
    | (apply f_retf; exact kc2; (focus (simp; done)); exact kc3)
    | apply w_ret
    | apply w_exit
    | apply t_exit
    | apply b_here
    | (apply w_false; exact kc3)
    | fail)
theorem SynTells_none (s : List UInt8) (hs : s.length ≤ 2500) (h : (readP s).1 = []) : Ans (L m) 3 [.str s] (.bool true) := by
  refine fn_of_body L_ok (fn := Try.f3) rfl rfl rfl rfl (by kernel_rfl) ?_
  have hb : ¬ (2500 : Int) < s.length := by omega
  have a1 := Dump_ok (m := m) s (by omega)
  have a2 := Items_ok (m := m) s (by omega)
  have a3 := rRead_ok (m := m) s (by omega)
  obtain ⟨r1, r2, r3, r4⟩ := read_same s
  rw [show begins s = [] by unfold begins; rw [h]; rfl] at a2
  rw [r1, r2, r3, h] at a3
  rw [h] at a1
  simp only [dumpS, List.map_nil, List.flatten_nil, risD, beginsL] at a1 a2 a3
  clear r1 r2 r3 r4 h
  generalize (readP s).2.1 = c at a1 a2 a3
  generalize (readP s).2.2 = e at a1 a2 a3
  repeat' (first
    | apply w_seq
    | apply w_region
    | apply o_end
    | apply t_normal
    | (apply o_val; exact kc0; exact kc2)
    | (apply o_fn fine; exact kc0; exact kc1; exact a1; exact kc3)
    | (apply o_fn fine; exact kc0; exact kc1; exact a2; exact kc3)
    | (apply o_fn fine; exact kc0; exact kc1; exact a3; exact kc3)
    | (apply o_mem; exact kc0; rfl; exact kc1)
    | apply w_skip
    | apply w_block
    | (apply w_false; exact kc3)
    | fail)
  apply loop_is
  apply loop_unfold
  repeat' (first
    | apply w_seq
    | apply w_region
    | apply o_end
    | apply t_normal
    | (apply o_mpick; exact kc9; exact kd0; rfl; exact kd1; rfl; exact kd1; rfl)
    | (apply o_val; exact kc0; exact kc2)
    | (apply o_fn fine; exact kc0; exact kc1; exact SameNil_ok; exact kc3)
    | (apply o_fn fine; exact kc0; exact kc1; exact OverNil_ok; exact kc3)
    | (apply o_fn fine; exact kc0; exact kc1; exact awake_ok; exact kc3)
    | apply w_ret
    | apply w_exit
    | apply t_exit
    | apply b_here
    | (apply w_false; exact kc3)
    | fail)
  · apply f_retf
    · simp [*]; rfl
    · simp
    · rfl
theorem ats_same2 (l : List ItemT) : (l.map riOf).map (fun i => (i.at_ : Int)) = l.map fun i => (i.word.at_ : Int) := by
  rw [List.map_map]
  rfl
theorem dumpR_take {l : List RI} {i : Nat} (hi : i < l.length) : dumpR (l.take (i + 1)) = dumpR (l.take i) ++ lineR l[i] := by
  unfold dumpR
  rw [List.take_succ_eq_append_getElem hi, List.map_append, List.flatten_append]
  simp
theorem dumpR_le (l : List RI) (i : Nat) : (dumpR (l.take i)).length ≤ (dumpR l).length := by
  have e : dumpR l = dumpR (l.take i) ++ dumpR (l.drop i) := by
    unfold dumpR
    rw [← List.flatten_append, ← List.map_append, List.take_append_drop]
  rw [e, List.length_append]
  omega
abbrev atsR (l : List RI) : List (List D) := l.map fun i => [.int .i64 i.at_]
def SepR (out rest l : List RI) : Prop := out ++ rest = l
theorem SepR.len {out rest l : List RI} (h : SepR out rest l) : l.length = out.length + rest.length := by rw [← h]; simp
theorem SepR.get {out l : List RI} {x : RI} {r : List RI} (h : SepR out (x :: r) l) (hl : out.length < l.length) : l[out.length] = x := by
  subst h
  simp
theorem SepR.next {out l : List RI} {x : RI} {r : List RI} (h : SepR out (x :: r) l) : SepR (out ++ [x]) r l := by
  subst h
  simp [SepR]
theorem SepR.dump {out l : List RI} {x : RI} {r : List RI} (h : SepR out (x :: r) l) : dumpR l = dumpR out ++ (lineR x ++ dumpR r) := by
  subst h
  simp [dumpR]
theorem SynTells_some (s : List UInt8) (hs : s.length ≤ 2500) (h : (readP s).1 ≠ []) : Ans (L m) 3 [.str s] (.bool true) := by
  refine fn_of_body L_ok (fn := Try.f3) rfl rfl rfl rfl (by kernel_rfl) ?_
  have hb : ¬ (2500 : Int) < s.length := by omega
  have a1 := Dump_ok (m := m) s (by omega)
  obtain ⟨g, a2⟩ := Items_behind (m := m) (readP s).2.1 (readP s).2.2 s (by omega) h
  have a3 := rRead_ok (m := m) s (by omega)
  obtain ⟨r1, r2, r3, r4⟩ := read_same s
  have hsh := readR_short s
  have hdl := dumpS_short s
  have hll : (readP s).1.length ≤ 2000 := by
    have h1 := sizeL_len (readP s).1
    have h2 := (readP_all s).2
    omega
  rw [r2, r3] at a3
  rw [r4] at a1 hdl
  generalize (readP s).2.1 = c at a1 a2 a3
  generalize (readP s).2.2 = e at a1 a2 a3
  rw [r1] at a1 a3 hsh hdl
  generalize (readP s).1 = l at a1 a2 a3 hsh hdl hll h
  clear r1 r2 r3 r4
  have hne : l.map riOf ≠ [] := by simpa using h
  rw [risD_some hne] at a3
  have hat : atsI l = atsR (l.map riOf) := by
    unfold atsI atsR
    rw [List.map_map]
    rfl
  have hln : l.length = (l.map riOf).length := by simp
  rw [hat, hln] at a2
  rw [hln] at hll
  generalize l.map riOf = R at a1 a2 a3 hsh hdl hne hll
  clear hat hln h
  repeat' (first
    | apply w_seq
    | apply w_region
    | apply o_end
    | apply t_normal
    | (apply o_val; exact kc0; exact kc2)
    | (apply o_fn fine; exact kc0; exact kc1; exact a1; exact kc3)
    | (apply o_turns; exact kc0; exact kc1; exact a2)
    | (apply o_fn fine; exact kc0; exact kc1; exact a3; exact kc3)
    | (apply o_mem; exact kc0; rfl; exact kc1)
    | apply w_skip
    | apply w_block
    | (apply w_false; exact kc3)
    | fail)
  refine w_loopT (fun n f H => ∃ (out rest : List RI) (A : D), SepR out rest R ∧ n = rest.length ∧ f 3 = .str (dumpR R) ∧ f 4 = .ref 0 0 0 0 ∧ f 5 = .slice 3 0 R.length g ∧ f 6 = .ref 4 0 0 0 ∧ f 7 = .isl 16 (R.map riC) ∧ f 8 = .ref 5 0 0 0 ∧ f 9 = .str (dumpR out) ∧ f 10 = A ∧ f 11 = .int .i64 out.length ∧
    ((out = [] ∧ A = .nilsl ∧ H = [wrB c e, wrB c e, wrB c e, .cells g 1 false (atsR R), wrB c e, wrB c e]) ∨ (out ≠ [] ∧ A = .slice 6 0 out.length out.length ∧ H = [wrB c e, wrB c e, wrB c e, .cells g 1 false (atsR R), wrB c e, wrB c e, .cells out.length 1 false (atsR out)]))) R.length
    ⟨[], R, .nilsl, rfl, by simp, by simp, by simp, by simp, by simp, by simp, by simp, by simp [dumpR], by simp, by simp, .inl ⟨rfl, rfl, rfl⟩⟩ ?_
  clear a1 a2 a3
  rintro n f H ⟨out, rest, A, hsep, rfl, g3, g4, g5, g6, g7, g8, g9, g10, g11, hor⟩
  cases rest with
  | cons x r =>
    have hlt : out.length < R.length := by rw [hsep.len]; simp
    have hx : R[out.length] = x := hsep.get hlt
    have hsep2 := hsep.next
    have hc : decide ((out.length : Int) < (R.length : Int)) = true := by simp; omega
    have hb1 : (out.length + 1) * 8 ≤ 140737488355328 := by omega
    have hb2 : out.length ≤ 140737488355327 := by omega
    have hdp := hsep.dump
    have hdl2 := hdl
    rw [hdp, List.length_append, List.length_append] at hdl2
    have aL := Line_ok (m := m) x (hsh x (by rw [← hx]; exact List.getElem_mem hlt))
    have hE : dumpR (out ++ [x]) = dumpR out ++ lineR x := by simp [dumpR]
    clear hdp hsep hsh
    generalize lineR x = lx at aL hE hdl2
    generalize dumpR out = dO at g9 hE hdl2
    rcases hor with ⟨rfl, rfl, rfl⟩ | ⟨h0, rfl, rfl⟩
    · simp only [List.length_nil] at hlt hx
      have hE2 : dumpR [x] = dO ++ lx := hE
      clear hc
      repeat' (first
        | apply w_seq
        | apply w_region
        | apply o_end
        | apply t_normal
        | (apply o_add; exact kc0; exact kc2; rfl; exact kc2; rfl; exact ke2)
        | (apply o_cat; exact kc0; exact kc2; rfl; exact kc2; rfl; exact ke5; exact ke6)
        | (apply o_val; exact kc0; exact kc2)
        | (apply o_frz (op := Op.buildSlice _ _ _); exact kc0; rfl; exact kc1; (focus (simp; done)); exact kd7)
        | (apply o_fn fine; exact kc0; exact kc1; exact aL; exact kc3)
        | (apply o_mem; exact kc0; rfl; exact kc1)
        | apply w_skip
        | apply w_block
        | apply b_normal
        | (apply w_true; exact kc3)
        | fail)
      refine ⟨r.length, by simp, [wrB c e, wrB c e, wrB c e, .cells g 1 false (atsR R), wrB c e, wrB c e, .cells 1 1 false (atsR ([] ++ [x]))], 7, [(3, .str (dumpR R)), (4, .ref 0 0 0 0), (5, .slice 3 0 R.length g), (6, .ref 4 0 0 0), (7, .isl 16 (R.map riC)), (8, .ref 5 0 0 0), (9, .str (dumpR ([] ++ [x]))), (10, .slice 6 0 1 1), (11, .int .i64 ((1 : Nat) : Int))],
        by simp, by simp [*], by simp, ?_, ?_, [] ++ [x], r, .slice 6 0 1 1, hsep2, rfl, by simp [lookF], by simp [lookF], by simp [lookF], by simp [lookF], by simp [lookF], by simp [lookF], by simp [lookF], by simp [lookF], by simp [lookF], .inr ⟨by simp, by simp, by simp⟩⟩
      · intro b hb
        simp only [List.mem_cons, List.not_mem_nil, or_false] at hb
        rcases hb with rfl | rfl | rfl | rfl | rfl | rfl | rfl
        all_goals first | (simp; done) | (intro y hy d hd; obtain ⟨z, _, rfl⟩ := List.mem_map.1 hy; obtain rfl := List.mem_singleton.1 hd; exact .int _ _)
      · intro p hp
        simp only [List.mem_cons, List.not_mem_nil, or_false] at hp
        rcases hp with rfl | rfl | rfl | rfl | rfl | rfl | rfl | rfl | rfl
        all_goals exact .inl ⟨by simp [*], by simp⟩
    · skip
      repeat' (first
        | apply w_seq
        | apply w_region
        | apply o_end
        | apply t_normal
        | (apply o_add; exact kc0; exact kc2; rfl; exact kc2; rfl; exact ke2)
        | (apply o_cat; exact kc0; exact kc2; rfl; exact kc2; rfl; exact ke5; exact ke6)
        | (apply o_val; exact kc0; exact kc2)
        | (apply o_frz (op := Op.buildSlice _ _ _); exact kc0; rfl; exact kc1; (focus (simp; done)); exact kd7)
        | (apply o_fn fine; exact kc0; exact kc1; exact aL; exact kc3)
        | (apply o_mem; exact kc0; rfl; exact kc1)
        | apply w_skip
        | apply w_block
        | apply b_normal
        | (apply w_true; exact kc3)
        | fail)
      refine ⟨r.length, by simp, [wrB c e, wrB c e, wrB c e, .cells g 1 false (atsR R), wrB c e, wrB c e, .cells (out.length + 1) 1 false (atsR (out ++ [x]))], 7, [(3, .str (dumpR R)), (4, .ref 0 0 0 0), (5, .slice 3 0 R.length g), (6, .ref 4 0 0 0), (7, .isl 16 (R.map riC)), (8, .ref 5 0 0 0), (9, .str (dumpR (out ++ [x]))), (10, .slice 6 0 (out.length + 1) (out.length + 1)), (11, .int .i64 (((out.length + 1) : Nat) : Int))],
        by simp, by simp [*], by simp, ?_, ?_, out ++ [x], r, .slice 6 0 (out.length + 1) (out.length + 1), hsep2, rfl, by simp [lookF], by simp [lookF], by simp [lookF], by simp [lookF], by simp [lookF], by simp [lookF], by simp [lookF], by simp [lookF], by simp [lookF], .inr ⟨by simp, by simp, by simp⟩⟩
      · intro b hb
        simp only [List.mem_cons, List.not_mem_nil, or_false] at hb
        rcases hb with rfl | rfl | rfl | rfl | rfl | rfl | rfl
        all_goals first | (simp; done) | (intro y hy d hd; obtain ⟨z, _, rfl⟩ := List.mem_map.1 hy; obtain rfl := List.mem_singleton.1 hd; exact .int _ _)
      · intro p hp
        simp only [List.mem_cons, List.not_mem_nil, or_false] at hp
        rcases hp with rfl | rfl | rfl | rfl | rfl | rfl | rfl | rfl | rfl
        all_goals exact .inl ⟨by simp [*], by simp⟩
  | nil =>
    obtain rfl : out = R := by simpa [SepR] using hsep
    have hc : decide ((out.length : Int) < (out.length : Int)) = false := by simp
    rcases hor with ⟨h0, rfl, rfl⟩ | ⟨h0, rfl, rfl⟩
    · exact absurd h0 hne
    · have kS : Ans (L m) 14 [.isl 1 (atsR out), .isl 1 (atsR out)] (.bool true) := by
        have := SameInts_ok (m := m) (out.map fun i => (i.at_ : Int)) (out.map fun i => (i.at_ : Int)) (by rw [List.length_map]; omega)
        rw [beq_self_eq_true] at this
        have e1 : intsL (out.map fun i => (i.at_ : Int)) = .isl 1 (atsR out) := by
          unfold intsL atsR
          rw [List.map_map]
          rfl
        rwa [e1] at this
      have kO := OverInts_ok (m := m) (atsR out) g (by simp; omega) (by
        intro y hy
        obtain ⟨z, _, rfl⟩ := List.mem_map.1 hy
        rfl)
      have hfl : ∀ y, y ∈ atsR out → ∀ d, d ∈ y → Flat d := fun y hy d hd => by
        obtain ⟨z, _, rfl⟩ := List.mem_map.1 hy
        obtain rfl := List.mem_singleton.1 hd
        exact .int _ _
      rw [show (atsR out).length = out.length from by simp] at kO
      have kO3 := kO.amid fine rfl (by intro a ha; obtain rfl := List.mem_singleton.1 ha; simp) (by
        intro k hk
        obtain rfl := List.mem_singleton.1 hk
        intro y hy d hd
        exact .flat (hfl y hy d hd)) (by
        intro k hk
        obtain rfl := List.mem_singleton.1 hk
        intro y hy d hd
        have : y = [.int .i64 (-999)] := by
          rcases List.mem_append.1 hy with hy | hy
          · exact List.eq_of_mem_replicate hy
          · exact List.mem_singleton.1 hy
        subst this
        obtain rfl := List.mem_singleton.1 hd
        exact .int _ _) (.flat (by simp)) [wrB c e, wrB c e, wrB c e] [wrB c e, wrB c e, .cells out.length 1 false (atsR out)]
      simp only [List.map_cons, List.map_nil, List.length_cons, List.length_nil, rn, Nat.zero_add, Nat.reduceAdd, List.cons_append, List.nil_append] at kO3
      clear hsep hsh kO
      repeat' (first
        | apply w_seq
        | apply w_region
        | apply o_end
        | apply t_normal
        | (apply o_mpick; exact kc9; exact kd0; rfl; exact kd1; rfl; exact kd1; rfl)
        | (apply o_val; exact kc0; exact kc2)
        | (apply o_lend fine; exact kc0; exact kc1; (focus (exact kS )); (focus ( exact ⟨.slice_flat trivial rfl (by simp) (by simp) hfl, .slice_flat trivial rfl (by simp) (by simp) hfl, trivial⟩)); (focus (simp; done)))
        | (apply o_turns; exact kc0; exact kc1; exact kO3)
        | (apply o_fn fine; exact kc0; exact kc1; exact awake_ok; exact kc3)
        | apply w_ret
        | apply w_exit
        | apply t_exit
        | apply b_here
        | (apply w_false; exact kc3)
        | fail)
      · apply f_retf
        · simp [*]; rfl
        · simp
        · rfl
theorem SynTells_ok (s : List UInt8) : Ans (L m) 3 [.str s] (.bool true) := by
  rcases Nat.lt_or_ge 2500 s.length with hb | hb
  · refine fn_of_body L_ok (fn := Try.f3) rfl rfl rfl rfl (by kernel_rfl) ?_
    have hb' : (2500 : Int) < s.length := by omega
    repeat' (first
      | apply w_seq
      | apply w_region
      | apply o_end
      | apply t_normal
      | (apply o_val; exact kc0; exact kc2)
      | (apply o_fn fine; exact kc0; exact kc1; exact awake_ok; exact kc3)
      | apply w_ret
      | apply t_ret
      | (apply w_true; exact kc3)
      | fail)
    · apply f_retf
      · simp [*]; rfl
      · simp
      · rfl
  · by_cases h : (readP s).1 = []
    · exact SynTells_none s hb h
    · exact SynTells_some s hb h
end Go.Proofs.Ytknkkfdkcemolaa.Vm
end
