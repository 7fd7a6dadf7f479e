/- Slices cut; texts and bytes; interfaces, tuples, lengths. -/
import Derived.Test.YtejpgmemohchaaaVmH
set_option linter.unusedVariables false
set_option linter.unusedSimpArgs false
namespace Go.Proofs.Ytejpgmemohchaaa.Vm
open Go

def intD : D → Option Int
  | .int _ n => some n
  | _ => none
def optInt : Option D → Option (Option Int)
  | none => some none
  | some d => (intD d).map some
/-- Where a cut begins and ends: behind the text's or slice's own length no further than y. -/
def cutD (len y : Nat) (lo hi : Option Int) : Option (Nat × Nat) :=
  if 0 ≤ lo.getD 0 ∧ lo.getD 0 ≤ hi.getD len ∧ (hi = none ∨ hi.getD 0 ≤ y) then some ((lo.getD 0).toNat, (hi.getD len).toNat) else none
def sliceD (T : TypeId → TI) (H : Heap) (t : TypeId) (x : D) (lo hi mx : Option D) : Option D :=
  match optInt lo, optInt hi, optInt mx with
  | some lo, some hi, some none =>
    match (T t).k, x with
    | .str, .str l => (cutD l.length l.length lo hi).map fun (a, b) => .str ((l.take b).drop a)
    | .slice e, .slice r i n g => match H[r]? with
      | some (.cells g' sz _ xs) => if g' = g ∧ sz = (T e).size ∧ (T e).k.known = true then
          (cutD n (xs.length - i) lo hi).map fun (a, b) => .slice r (i + a) (b - a) g
        else none
      | _ => none
    | .slice e, .isl sz xs => if sz = (T e).size ∧ (T e).k.known = true then (cutD xs.length xs.length lo hi).map fun (a, b) => .isl sz ((xs.take b).drop a) else none
    | .slice e, .nilsl => if (T e).k.known = true then (cutD 0 0 lo hi).map fun _ => .nilsl else none
    | .slice e, .esl => if (T e).k.known = true then (cutD 0 0 lo hi).map fun _ => .esl else none
    | _, _ => none
  | some lo, some (some h), some (some m) =>
    match (T t).k with
    | .slice e => if (T e).k.known = true ∧ 0 ≤ m ∧ 0 ≤ h ∧ h ≤ m ∧ 0 ≤ lo.getD 0 ∧ lo.getD 0 ≤ h then
        (match x with
        | .slice r i n g => if alive H r g = true ∧ m ≤ n then some (if m = 0 then .esl else .undef) else none
        | .isl _ xs => if m ≤ xs.length then some (if m = 0 then .esl else .undef) else none
        | .nilsl => if m = 0 then some .nilsl else none
        | .esl => if m = 0 then some .esl else none
        | _ => none)
      else none
    | _ => none
  | _, _, _ => none

theorem bound_ok {P : Program} {w : World} {k : IntKind} {i : Int} {y : Nat} {code : BoundsCode} (h : 0 ≤ i ∧ i ≤ y) : (Instr.sliceBound (.int k i) y code).run P w = .ok i.toNat w := by
  simp [Instr.sliceBound, asIntOf, h]
/-- What an operand that may be missing is. -/
def OptRep (c : Cx) : Option Value → Option D → Prop
  | none, none => True
  | some v, some d => Rep c v d
  | _, _ => False
theorem bounds_ok {P : Program} {w : World} {c : Cx} {b : Bool} {len y cap : Nat} {lo hi : Option Value} {l h : Option D} {l' h' : Option Int} (hl : OptRep c lo l) (hh : OptRep c hi h) (el : optInt l = some l') (eh : optInt h = some h')
    (hy : y ≤ cap) {p : Nat × Nat} (hc : cutD len y l' h' = some p) : (Instr.sliceBounds b len cap lo hi none).run P w = .ok (p.1, p.2, cap) w ∧ p.1 ≤ p.2 ∧ (p.2 ≤ y ∨ p.2 = len) := by
  unfold cutD at hc
  split at hc
  case isFalse => cases hc
  rename_i h1
  obtain ⟨h1, h2, h3⟩ := h1
  obtain rfl := Option.some.inj hc
  cases hi with
  | none =>
    cases h with
    | some _ => cases hh
    | none =>
    simp only [optInt, Option.some.injEq] at eh
    subst eh
    simp only [Option.getD_none] at h1 h2 h3 ⊢
    cases lo with
    | none =>
      cases l with
      | some _ => cases hl
      | none =>
      simp only [optInt, Option.some.injEq] at el
      subst el
      exact ⟨by simp [Instr.sliceBounds], Nat.zero_le _, .inr rfl⟩
    | some lo =>
      cases l with
      | none => cases hl
      | some l =>
      simp only [optInt, Option.map_eq_some_iff] at el
      obtain ⟨n, en, rfl⟩ := el
      cases l <;> simp [intD] at en
      subst en
      cases hl
      simp only [Option.getD_some] at h1 h2 ⊢
      exact ⟨by simp [Instr.sliceBounds, bound_ok ⟨h1, h2⟩], by omega, .inr (by omega)⟩
  | some hi =>
    cases h with
    | none => cases hh
    | some h =>
    simp only [optInt, Option.map_eq_some_iff] at eh
    obtain ⟨m, em, rfl⟩ := eh
    cases h <;> simp [intD] at em
    subst em
    cases hh
    simp only [Option.getD_some, reduceCtorEq, false_or] at h1 h2 h3 ⊢
    cases lo with
    | none =>
      cases l with
      | some _ => cases hl
      | none =>
      simp only [optInt, Option.some.injEq] at el
      subst el
      simp only [Option.getD_none] at h1 h2 ⊢
      exact ⟨by simp [Instr.sliceBounds, bound_ok (y := cap) ⟨h2, Int.le_trans h3 (by omega)⟩], Nat.zero_le _, .inl (by omega)⟩
    | some lo =>
      cases l with
      | none => cases hl
      | some l =>
      simp only [optInt, Option.map_eq_some_iff] at el
      obtain ⟨n, en, rfl⟩ := el
      cases l <;> simp [intD] at en
      subst en
      cases hl
      rename_i k1 n1 k2 n2
      simp only [Option.getD_some] at h1 h2 ⊢
      have hb1 := bound_ok (P := P) (w := w) (k := k1) (i := n1) (y := cap) (code := if b = true then BoundsCode.sliceAcap else BoundsCode.sliceAlen) ⟨by omega, by omega⟩
      have hb2 := bound_ok (P := P) (w := w) (k := k2) (i := n2) (y := n1.toNat) (code := BoundsCode.sliceB) ⟨h1, by omega⟩
      exact ⟨by simp [Instr.sliceBounds, hb1, hb2], by omega, .inl (by omega)⟩
theorem bounds3_ok {P : Program} {w : World} {c : Cx} {b : Bool} {len cap : Nat} {lo hi mx : Option Value} {l h x : Option D} {l' : Option Int} {h' m : Int} (hl : OptRep c lo l) (hh : OptRep c hi h) (hx : OptRep c mx x)
    (el : optInt l = some l') (eh : optInt h = some (some h')) (em : optInt x = some (some m)) (h1 : 0 ≤ m ∧ m ≤ cap) (h2 : 0 ≤ h' ∧ h' ≤ m) (h3 : 0 ≤ l'.getD 0 ∧ l'.getD 0 ≤ h') :
    ∃ q : Nat, (Instr.sliceBounds b len cap lo hi mx).run P w = .ok (q, h'.toNat, m.toNat) w ∧ q ≤ h'.toNat := by
  cases mx with
  | none =>
    cases x with
    | some _ => cases hx
    | none => simp [optInt] at em
  | some mx =>
  cases x with
  | none => cases hx
  | some x =>
  simp only [optInt, Option.map_eq_some_iff, Option.some.injEq, exists_eq_right] at em
  cases x <;> simp [intD] at em
  subst em
  cases hx
  cases hi with
  | none =>
    cases h with
    | some _ => cases hh
    | none => simp [optInt] at eh
  | some hi =>
  cases h with
  | none => cases hh
  | some h =>
  simp only [optInt, Option.map_eq_some_iff, Option.some.injEq, exists_eq_right] at eh
  cases h <;> simp [intD] at eh
  subst eh
  cases hh
  rename_i k1 n1 k2 n2
  have hb1 := bound_ok (P := P) (w := w) (k := k1) (i := n1) (y := cap) (code := if b = true then BoundsCode.slice3Acap else BoundsCode.slice3Alen) h1
  have hb2 := bound_ok (P := P) (w := w) (k := k2) (i := n2) (y := n1.toNat) (code := BoundsCode.slice3B) ⟨h2.1, by omega⟩
  cases lo with
  | none => exact ⟨0, by simp [Instr.sliceBounds, hb1, hb2], Nat.zero_le _⟩
  | some lo =>
    cases l with
    | none => cases hl
    | some l =>
    simp only [optInt, Option.map_eq_some_iff] at el
    obtain ⟨n, en, rfl⟩ := el
    cases l <;> simp [intD] at en
    subst en
    cases hl
    rename_i k3 n3
    simp only [Option.getD_some] at h3
    have hb3 := bound_ok (P := P) (w := w) (k := k3) (i := n3) (y := n2.toNat) (code := BoundsCode.slice3C) ⟨h3.1, by omega⟩
    exact ⟨n3.toNat, by simp [Instr.sliceBounds, hb1, hb2, hb3], by omega⟩

theorem extract_list (s : ByteArray) (a b : Nat) : (s.extract a b).data.toList = (s.data.toList.take b).drop a := by
  have : (s.extract a b).data = s.data.extract a b := by simp [ByteArray.data_extract]
  rw [this]
  simp [Array.toList_extract, List.extract_eq_drop_take']
set_option maxHeartbeats 1000000 in
theorem slice_ok {L : Lang} (ok : L.Ok) {c : Cx} (inv : Inv c) {t : TypeId} {v : Value} {x d : D} {lo hi mx : Option Value} {l h m : Option D} (hv : Rep c v x) (hl : OptRep c lo l) (hh : OptRep c hi h) (hm : OptRep c mx m)
    (hs : sliceD L.T c.hp t x l h m = some d) : ValOk L.P c (Instr.sliceAt t v lo hi mx) d c.hp := by
  unfold sliceD at hs
  split at hs
  · rename_i l' h' el eh em
    have hmx : mx = none := by
      cases mx with
      | none => rfl
      | some _ =>
      cases m with
      | none => cases hm
      | some m => simp [optInt] at em
    subst hmx
    split at hs
    · rename_i s hT
      obtain ⟨d0, hu, hfit⟩ := ti_under (ok.ty t) (by rw [hT]; simp)
      rw [hT] at hfit
      obtain rfl : d0 = .string := hfit
      obtain ⟨p, hp, rfl⟩ := Option.map_eq_some_iff.1 hs
      cases hv with
      | str s _ es =>
      subst es
      have hsz : s.data.toList.length = s.size := by simp
      rw [hsz] at hp
      obtain ⟨b1, b2, b3⟩ := bounds_ok (P := L.P) (w := c.w) (b := false) hl hh el eh (Nat.le_refl _) hp
      refine .same inv (v := .string (s.extract p.1 p.2)) ?_ (.str _ _ (extract_list s _ _))
      simp [Instr.sliceAt, Instr.slice, run_underlying hu, b1]
    · rename_i e r i n g hT
      obtain ⟨d0, hu, hfit⟩ := ti_under (ok.ty t) (by rw [hT]; simp)
      rw [hT] at hfit
      obtain rfl : d0 = .slice e := hfit
      cases hx : c.hp[r]? with
      | none => simp [hx] at hs
      | some k =>
      cases k with
      | gone g0 => simp [hx] at hs
      | map g0 ro es => simp [hx] at hs
      | cells g0 sz ro xs =>
      simp only [hx] at hs
      by_cases hg : g0 = g ∧ sz = (L.T e).size ∧ (L.T e).k.known = true
      case neg => rw [if_neg hg] at hs; cases hs
      rw [if_pos hg] at hs
      obtain ⟨rfl, rfl, hk⟩ := hg
      obtain ⟨p, hp, rfl⟩ := Option.map_eq_some_iff.1 hs
      cases hv with
      | slice _ _ _ _ _ hr hgg hv =>
      obtain ⟨a, cap, rfl, q1, q2, q3, q4, q5, q6⟩ := hv _ _ _ hx
      obtain ⟨b1, b2, b3⟩ := bounds_ok (P := L.P) (w := c.w) (b := true) hl hh el eh (show xs.length - i ≤ cap by omega) hp
      refine .same inv (v := .slice (some (if cap = p.1 then a else a.add (p.1 * (L.T e).size))) (p.2 - p.1) (cap - p.1)) ?_ (.slice _ _ _ _ _ hr hgg fun sz' ro' xs' hx' => ?_)
      · simp [Instr.sliceAt, Instr.slice, run_underlying hu, b1, run_size ok hk]
        split <;> rfl
      · rw [hx] at hx'
        cases hx'
        have hb3 : p.2 ≤ xs.length - i := by omega
        refine ⟨_, _, rfl, by omega, by omega, by omega, ?_, ?_, by omega⟩
        · by_cases hcp : cap = p.1
          · exact .inr (by omega)
          · rw [if_neg hcp]
            obtain rfl := q4.resolve_right (by omega)
            left
            rw [add_lit, Nat.add_mul, Nat.add_assoc]
        · rw [show i + p.1 + (cap - p.1) = i + cap by omega]
          exact q5
    · rename_i e sz xs hT
      obtain ⟨d0, hu, hfit⟩ := ti_under (ok.ty t) (by rw [hT]; simp)
      rw [hT] at hfit
      obtain rfl : d0 = .slice e := hfit
      split at hs
      case isFalse => cases hs
      rename_i hg
      obtain ⟨rfl, hk⟩ := hg
      obtain ⟨p, hp, rfl⟩ := Option.map_eq_some_iff.1 hs
      cases hv with
      | islnil =>
        obtain ⟨b1, b2, b3⟩ := bounds_ok (P := L.P) (w := c.w) (b := true) hl hh el eh (Nat.le_refl 0) (by simpa using hp)
        have h1 : p.1 = 0 := by simp at b3; omega
        have h2 : p.2 = 0 := by simp at b3; omega
        refine .same inv (v := .slice none 0 0) ?_ (by simpa using Rep.islnil _)
        simp [Instr.sliceAt, Instr.slice, run_underlying hu, b1, run_size ok hk, h1, h2]
      | isl0 _ a cap =>
        obtain ⟨b1, b2, b3⟩ := bounds_ok (P := L.P) (w := c.w) (b := true) hl hh el eh (Nat.zero_le cap) (by simpa using hp)
        have h1 : p.1 = 0 := by simp at b3; omega
        have h2 : p.2 = 0 := by simp at b3; omega
        refine .same inv (v := .slice (some (if cap = 0 then a else a.add 0)) 0 cap) ?_ (by simpa using Rep.isl0 _ _ _)
        simp [Instr.sliceAt, Instr.slice, run_underlying hu, b1, run_size ok hk, h1, h2]
        split <;> rfl
      | isl b off n cap _ _ f hn hcap him hsz hc h1 hh2 =>
        subst hn
        obtain ⟨b1, b2, b3⟩ := bounds_ok (P := L.P) (w := c.w) (b := true) hl hh el eh hcap hp
        have hp2 : p.2 ≤ xs.length := by omega
        obtain ⟨p1, p2⟩ := p
        dsimp only at b1 b2 b3 hp2 ⊢
        by_cases he : p2 - p1 = 0
        · have : (xs.take p2).drop p1 = [] := by
            apply List.drop_eq_nil_of_le
            simp
            omega
          rw [this]
          refine .same inv (v := .slice (some (if cap = p1 then ⟨b, off, none⟩ else (⟨b, off, none⟩ : Addr).add (p1 * (L.T e).size))) 0 (cap - p1)) ?_ (.isl0 _ _ _)
          simp [Instr.sliceAt, Instr.slice, run_underlying hu, b1, run_size ok hk, he]
          split <;> rfl
        · have hget : ∀ j y, ((xs.take p2).drop p1)[j]? = some y → xs[p1 + j]? = some y := fun j y hj => by
            rw [List.getElem?_drop, List.getElem?_take] at hj
            split at hj
            · exact hj
            · cases hj
          refine .same inv (v := .slice (some ⟨b, off + p1 * (L.T e).size, none⟩) (p2 - p1) (cap - p1)) ?_
            (.isl b _ _ _ _ _ (fun k => f (p1 * (L.T e).size + k)) (by simp; omega) (by omega) him (fun j y hj => hsz _ y (hget j y hj)) (fun j y o d hj ho => ?_) (fun k hk => ?_) (fun j y o d hj ho => ?_))
          · have : ¬ cap = p1 := by omega
            simp [Instr.sliceAt, Instr.slice, run_underlying hu, b1, run_size ok hk, this, add_lit]
          · have := hc _ y o d (hget j y hj) ho
            rw [Nat.add_mul] at this
            rw [show off + p1 * (L.T e).size + j * (L.T e).size + o = off + (p1 * (L.T e).size + j * (L.T e).size) + o by omega, this]
            congr 2
            omega
          · apply h1
            have := Nat.mul_le_mul_right (L.T e).size hp2
            rw [Nat.sub_mul] at hk
            omega
          · have := hh2 _ y o d (hget j y hj) ho
            rw [Nat.add_mul] at this
            rwa [Nat.add_assoc] at this
    · rename_i e hT
      obtain ⟨d0, hu, hfit⟩ := ti_under (ok.ty t) (by rw [hT]; simp)
      rw [hT] at hfit
      obtain rfl : d0 = .slice e := hfit
      split at hs
      case isFalse => cases hs
      rename_i hk
      obtain ⟨p, hp, rfl⟩ := Option.map_eq_some_iff.1 hs
      cases hv
      obtain ⟨b1, b2, b3⟩ := bounds_ok (P := L.P) (w := c.w) (b := true) hl hh el eh (Nat.le_refl 0) hp
      have h1 : p.1 = 0 := by simp at b3; omega
      have h2 : p.2 = 0 := by simp at b3; omega
      refine .same inv (v := .slice none 0 0) ?_ .nilsl
      simp [Instr.sliceAt, Instr.slice, run_underlying hu, b1, run_size ok hk, h1, h2]
    · rename_i e hT
      obtain ⟨d0, hu, hfit⟩ := ti_under (ok.ty t) (by rw [hT]; simp)
      rw [hT] at hfit
      obtain rfl : d0 = .slice e := hfit
      split at hs
      case isFalse => cases hs
      rename_i hk
      obtain ⟨p, hp, rfl⟩ := Option.map_eq_some_iff.1 hs
      cases hv with
      | esl a =>
      obtain ⟨b1, b2, b3⟩ := bounds_ok (P := L.P) (w := c.w) (b := true) hl hh el eh (Nat.le_refl 0) hp
      have h1 : p.1 = 0 := by simp at b3; omega
      have h2 : p.2 = 0 := by simp at b3; omega
      refine .same inv (v := .slice a 0 0) ?_ (.esl a)
      simp [Instr.sliceAt, Instr.slice, run_underlying hu, b1, run_size ok hk, h1, h2]
    · cases hs
  · rename_i l' h' m' el eh em
    split at hs
    case h_2 => cases hs
    rename_i e hT
    obtain ⟨d0, hu, hfit⟩ := ti_under (ok.ty t) (by rw [hT]; simp)
    rw [hT] at hfit
    obtain rfl : d0 = .slice e := hfit
    split at hs
    case isFalse => cases hs
    rename_i hg
    obtain ⟨hk, g1, g2, g3, g4⟩ := hg
    cases x with
    | slice r i n g =>
      simp only at hs
      split at hs
      case isFalse => cases hs
      rename_i ha
      obtain rfl := Option.some.inj hs
      obtain ⟨sz, ro, xs, hx⟩ := alive_some ha.1
      cases hv with
      | slice _ _ _ _ _ hr hgg hv =>
      obtain ⟨a, cap, rfl, q1, _⟩ := hv _ _ _ hx
      obtain ⟨q, b1, b2⟩ := bounds3_ok (P := L.P) (w := c.w) (b := true) (len := n) (cap := cap) hl hh hm el eh em ⟨g1, by omega⟩ ⟨g2, g3⟩ g4
      by_cases hm0 : m' = 0
      · subst hm0
        have hq : q = 0 := by omega
        have hh0 : h' = 0 := by omega
        subst hq
        subst hh0
        rw [if_pos rfl]
        refine .same inv (v := .slice (some a) 0 0) ?_ (.esl _)
        simp [Instr.sliceAt, Instr.slice, run_underlying hu, b1, run_size ok hk]
      · rw [if_neg hm0]
        refine .same inv (v := .slice (if m'.toNat = q then some a else some (a.add (q * (L.T e).size))) (h'.toNat - q) (m'.toNat - q)) ?_ (.undef _)
        simp [Instr.sliceAt, Instr.slice, run_underlying hu, b1, run_size ok hk]
    | isl sz xs =>
      simp only at hs
      split at hs
      case isFalse => cases hs
      rename_i ha
      obtain rfl := Option.some.inj hs
      obtain ⟨base, n, cap, rfl, hn, hb⟩ : ∃ base n cap, v = .slice base n cap ∧ n = xs.length ∧ n ≤ cap := by
        cases hv with
        | islnil => exact ⟨none, 0, 0, rfl, rfl, Nat.le_refl _⟩
        | isl0 _ a cap => exact ⟨some a, 0, cap, rfl, rfl, Nat.zero_le _⟩
        | isl b off n cap _ _ f hn hcap => exact ⟨_, _, _, rfl, hn, hcap⟩
      obtain ⟨q, b1, b2⟩ := bounds3_ok (P := L.P) (w := c.w) (b := true) (len := n) (cap := cap) hl hh hm el eh em ⟨g1, by omega⟩ ⟨g2, g3⟩ g4
      by_cases hm0 : m' = 0
      · subst hm0
        have hq : q = 0 := by omega
        have hh0 : h' = 0 := by omega
        subst hq
        subst hh0
        rw [if_pos rfl]
        refine .same inv (v := .slice base 0 0) ?_ (.esl _)
        simp [Instr.sliceAt, Instr.slice, run_underlying hu, b1, run_size ok hk]
      · rw [if_neg hm0]
        refine .same inv (v := .slice (if m'.toNat = q then base else base.map (·.add (q * (L.T e).size))) (h'.toNat - q) (m'.toNat - q)) ?_ (.undef _)
        simp [Instr.sliceAt, Instr.slice, run_underlying hu, b1, run_size ok hk]
    | nilsl =>
      simp only at hs
      split at hs
      case isFalse => cases hs
      rename_i ha
      subst ha
      obtain rfl := Option.some.inj hs
      cases hv
      obtain ⟨q, b1, b2⟩ := bounds3_ok (P := L.P) (w := c.w) (b := true) (len := 0) (cap := 0) hl hh hm el eh em ⟨g1, by omega⟩ ⟨g2, g3⟩ g4
      have hq : q = 0 := by omega
      have hh0 : h' = 0 := by omega
      subst hq
      subst hh0
      refine .same inv (v := .slice none 0 0) ?_ .nilsl
      simp [Instr.sliceAt, Instr.slice, run_underlying hu, b1, run_size ok hk]
    | esl =>
      simp only at hs
      split at hs
      case isFalse => cases hs
      rename_i ha
      subst ha
      obtain rfl := Option.some.inj hs
      cases hv with
      | esl a =>
      obtain ⟨q, b1, b2⟩ := bounds3_ok (P := L.P) (w := c.w) (b := true) (len := 0) (cap := 0) hl hh hm el eh em ⟨g1, by omega⟩ ⟨g2, g3⟩ g4
      have hq : q = 0 := by omega
      have hh0 : h' = 0 := by omega
      subst hq
      subst hh0
      refine .same inv (v := .slice a 0 0) ?_ (.esl a)
      simp [Instr.sliceAt, Instr.slice, run_underlying hu, b1, run_size ok hk]
    | _ => simp at hs
  · cases hs
end Go.Proofs.Ytejpgmemohchaaa.Vm
