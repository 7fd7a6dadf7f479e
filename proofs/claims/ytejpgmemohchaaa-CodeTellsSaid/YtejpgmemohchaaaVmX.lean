/- Regions whose order is drawn, in which calls that turn memory stand one behind the other: all orders end alike. -/
import Derived.Test.YtejpgmemohchaaaVmW
set_option linter.unusedSimpArgs false
set_option linter.unusedVariables false
namespace Go.Proofs.Ytejpgmemohchaaa.Vm
open Go

variable {L : Lang} {Q : DPost}
/-- What must stand ahead of each operation, as bits. -/
def befM : List Oper → List Nat → List Nat
  | [], acc => acc
  | o :: r, acc => befM r (acc ++ [o.after.toList.foldl (fun s e => if Region.binds .any e then s ||| 2 ^ e.on ||| acc.getD e.on 0 else s) 0])
def bef (ops : Array Oper) (j i : Nat) : Bool := ((befM ops.toList []).getD j 0).testBit i

theorem befM_pre : ∀ (l : List Oper) (acc : List Nat) (j : Nat), j < acc.length → (befM l acc).getD j 0 = acc.getD j 0
  | [], acc, j, _ => rfl
  | o :: r, acc, j, h => by
    unfold befM
    rw [befM_pre r _ j (by simp; omega)]
    simp only [List.getD_eq_getElem?_getD, List.getElem?_append_left h]
theorem fold_bit (acc : List Nat) (i : Nat) : ∀ (es : List Edge) (s : Nat), (es.foldl (fun s e => if Region.binds .any e then s ||| 2 ^ e.on ||| acc.getD e.on 0 else s) s).testBit i = true →
    s.testBit i = true ∨ ∃ e, e ∈ es ∧ Region.binds .any e = true ∧ (e.on = i ∨ (acc.getD e.on 0).testBit i = true)
  | [], s, h => .inl h
  | e :: es, s, h => by
    rw [List.foldl_cons] at h
    rcases fold_bit acc i es _ h with h1 | ⟨e', h1, h2, h3⟩
    · by_cases hb : Region.binds .any e = true
      · rw [if_pos hb] at h1
        simp only [Nat.testBit_or, Bool.or_eq_true, Nat.testBit_two_pow, decide_eq_true_eq] at h1
        rcases h1 with (h1 | h1) | h1
        · exact .inl h1
        · exact .inr ⟨e, List.mem_cons_self .., hb, .inl h1⟩
        · exact .inr ⟨e, List.mem_cons_self .., hb, .inr h1⟩
      · rw [if_neg hb] at h1
        exact .inl h1
    · exact .inr ⟨e', List.mem_cons_of_mem _ h1, h2, h3⟩
theorem befM_at : ∀ (l : List Oper) (acc : List Nat) (j : Nat) (o : Oper) (i : Nat), l[j]? = some o → ((befM l acc).getD (acc.length + j) 0).testBit i = true →
    ∃ e, e ∈ o.after ∧ Region.binds .any e = true ∧ (e.on = i ∨ (e.on < acc.length + j → ((befM l acc).getD e.on 0).testBit i = true))
  | [], acc, j, o, i, h, _ => by simp at h
  | x :: l, acc, j, o, i, h, hb => by
    unfold befM at hb ⊢
    cases j with
    | zero =>
      obtain rfl : x = o := by simpa using h
      rw [befM_pre _ _ _ (by simp)] at hb
      simp only [Nat.add_zero, List.getD_eq_getElem?_getD, List.getElem?_append_right (Nat.le_refl _), Nat.sub_self, List.getElem?_cons_zero, Option.getD_some] at hb
      have hb' := fold_bit acc i x.after.toList 0 (by simpa only [List.getD_eq_getElem?_getD] using hb)
      rcases hb' with hb' | ⟨e, h1, h2, h3⟩
      · simp at hb'
      · refine ⟨e, by simpa using h1, h2, h3.imp_right fun h3 hlt => ?_⟩
        simp only [Nat.add_zero] at hlt
        rw [befM_pre _ _ _ (by simp; omega)]
        simp only [List.getD_eq_getElem?_getD, List.getElem?_append_left hlt] at h3 ⊢
        exact h3
    | succ j =>
      have := befM_at l (acc ++ [x.after.toList.foldl (fun s e => if Region.binds .any e then s ||| 2 ^ e.on ||| acc.getD e.on 0 else s) 0]) j o i (by simpa using h) (by
        rw [List.length_append, List.length_singleton, show acc.length + 1 + j = acc.length + (j + 1) by omega]
        exact hb)
      obtain ⟨e, h1, h2, h3⟩ := this
      refine ⟨e, h1, h2, h3.imp_right fun h3 hlt => h3 ?_⟩
      rw [List.length_append, List.length_singleton]
      omega
/-- Where all that must stand ahead at once was carried out, all that must stand ahead was. -/
theorem bef_listed {ops : Array Oper} {S : Nat → Prop} (hback : ∀ (i : Nat) (o : Oper), ops[i]? = some o → ∀ e, e ∈ o.after → Region.binds .any e = true → e.on < i)
    (hS : ∀ (j : Nat) (o : Oper), ops[j]? = some o → S j → ∀ e, e ∈ o.after → Region.binds .any e = true → S e.on) :
    ∀ (j : Nat) (o : Oper) (i : Nat), ops[j]? = some o → (∀ e, e ∈ o.after → Region.binds .any e = true → S e.on) → bef ops j i = true → S i := by
  intro j
  induction j using Nat.strongRecOn with
  | ind j ih =>
    intro o i ho hd hb
    have hj : j < ops.size := (Array.getElem?_eq_some_iff.1 ho).1
    obtain ⟨e, h1, h2, h3⟩ := befM_at ops.toList [] j o i (by rw [Array.getElem?_toList]; exact ho) (by rw [List.length_nil, Nat.zero_add]; exact hb)
    have hlt := hback j o ho e h1 h2
    have hs := hd e h1 h2
    rcases h3 with rfl | h3
    · exact hs
    · have h4 := h3 (by simpa using hlt)
      have he : e.on < ops.size := by omega
      exact ih e.on hlt ops[e.on] i (Array.getElem?_eq_getElem he) (hS e.on _ (Array.getElem?_eq_getElem he) hs) h4

def ActTo (L : Lang) (ops : Array Oper) (f : Fr) (H : Heap) (o : Oper) (v : D) (H' : Heap) : Prop :=
  (guardD ops f o = some false ∧ v = .tuple [] ∧ H' = H) ∨ (guardD ops f o = some true ∧
   ((callOf L f o.op = none ∧ opD L f H o.op = some (v, H')) ∨ ∃ g args, callOf L f o.op = some (g, args) ∧ CallsV L g args H (Turns v H')))
theorem ActTo.step {ops : Array Oper} {f : Fr} {H H' : Heap} {o : Oper} {v : D} {K : Fr → Heap → Prop} (h : ActTo L ops f H o v H') (k : K (f.put o.dst v) H') : stepD L ops Q o f H K := by
  unfold stepD
  rcases h with ⟨hg, rfl, rfl⟩ | ⟨hg, h⟩
  · rw [hg]
    exact ⟨(fun h => nomatch h), fun _ => k⟩
  · rw [hg]
    refine ⟨fun _ => ?_, (fun h => nomatch h)⟩
    unfold runD
    rcases h with ⟨hc, h⟩ | ⟨g, args, hc, h⟩
    · rw [hc]
      exact .inl ⟨v, H', h, k⟩
    · rw [hc]
      refine .inl (h.mono fun r H1 hr => ?_)
      obtain ⟨rfl, rfl⟩ := hr
      exact k
/-- It gives up. -/
def FailTo (L : Lang) (Q : DPost) (ops : Array Oper) (f0 f : Fr) (H : Heap) (o : Oper) : Prop :=
  guardD ops f o = some true ∧ ∃ g args p, callOf L f o.op = some (g, args) ∧ CallsV L g args H fun r H' => r = .panic p ∧ ∀ f', (∀ t, t ∉ dstsOf ops.toList → f' t = f0 t) → Q (.panic p) f' H'
theorem FailTo.step {ops : Array Oper} {f0 f : Fr} {H : Heap} {o : Oper} {K : Fr → Heap → Prop} (h : FailTo L Q ops f0 f H o) (hst : ∀ t, t ∉ dstsOf ops.toList → f t = f0 t) : stepD L ops Q o f H K := by
  obtain ⟨hg, g, args, p, hc, h⟩ := h
  unfold stepD
  rw [hg]
  refine ⟨fun _ => ?_, (fun h => nomatch h)⟩
  unfold runD
  rw [hc]
  refine .inl (h.mono fun r H1 hr => ?_)
  obtain ⟨rfl, h2⟩ := hr
  exact h2 f hst
def frm (f0 : Fr) (n1 : Nat) (ds1 ds2 : List Nat) (seen : List (Option Nat × D)) (k : Nat) (o : Oper) (u : Fr) : Fr := wkF (seen.take k) o.after.toList (mixF f0 u (if k < n1 then ds1 else ds2))
/-- Operations in their text's order. tied: those that hang on memory; hist: those that turn it, and how it was ahead of each. -/
def planA (L : Lang) (ops : Array Oper) (f0 : Fr) (Q : DPost) (n1 : Nat) (ds1 ds2 : List Nat) : List (Option Nat × D) → List Nat → List (Nat × Heap) → Heap → List Oper → Prop
  | seen, _, _, H, [] => Q .normal (finS seen f0) H
  | seen, tied, hist, H, o :: r =>
    (∃ v, (∀ H' u, StepTo L ops (frm f0 n1 ds1 ds2 seen seen.length o u) H' o v) ∧ planA L ops f0 Q n1 ds1 ds2 (seen ++ [(o.dst, v)]) tied hist H r) ∨
    (∃ v, (∀ u, StepTo L ops (frm f0 n1 ds1 ds2 seen seen.length o u) H o v) ∧ (∀ p, p ∈ hist → bef ops seen.length p.1 = true ∨ ∀ u, StepTo L ops (frm f0 n1 ds1 ds2 seen seen.length o u) p.2 o v) ∧
      planA L ops f0 Q n1 ds1 ds2 (seen ++ [(o.dst, v)]) (tied ++ [seen.length]) hist H r) ∨
    (∃ v H', (∀ u, ActTo L ops (frm f0 n1 ds1 ds2 seen seen.length o u) H o v H') ∧ (∀ p, p ∈ hist → bef ops seen.length p.1 = true) ∧
      (∀ k, k ∈ tied → bef ops seen.length k = true ∨ ∀ o' t' v', ops[k]? = some o' → seen[k]? = some (t', v') → ∀ u, StepTo L ops (frm f0 n1 ds1 ds2 seen k o' u) H' o' v') ∧
      planA L ops f0 Q n1 ds1 ds2 (seen ++ [(o.dst, v)]) tied (hist ++ [(seen.length, H)]) H' r) ∨
    ((∀ u, FailTo L Q ops f0 (frm f0 n1 ds1 ds2 seen seen.length o u) H o) ∧ (∀ p, p ∈ hist → bef ops seen.length p.1 = true) ∧ ((List.range ops.size).all fun j => Nat.ble j seen.length || bef ops j seen.length) = true)

def hpAt (hist : List (Nat × Heap)) (H : Heap) (p : Nat) : Heap := ((hist[p]?).map (·.2)).getD H
/-- Which p-th states of memory an operation may be carried out in. -/
def MayAt (ops : Array Oper) (hist : List (Nat × Heap)) (i p : Nat) : Prop := (∀ (q : Nat) (x : Nat × Heap), hist[q]? = some x → bef ops i x.1 = true → q < p) ∧ ∀ (q : Nat) (x : Nat × Heap), hist[q]? = some x → bef ops x.1 i = true → p ≤ q
structure GoodA (L : Lang) (ops : Array Oper) (f0 : Fr) (n1 : Nat) (ds1 ds2 : List Nat) (ws : List D) (tied : List Nat) (hist : List (Nat × Heap)) (H : Heap) : Prop where
  lt : ∀ (q : Nat) (x : Nat × Heap), hist[q]? = some x → x.1 < ws.length
  quiet : ∀ (i : Nat) (o : Oper) (v : D), ops[i]? = some o → ws[i]? = some v → (∀ (q : Nat) (x : Nat × Heap), hist[q]? = some x → x.1 ≠ i) → ∀ p, p ≤ hist.length → MayAt ops hist i p → ∀ u, StepTo L ops (frm f0 n1 ds1 ds2 (seenOf ops.toList ws) i o u) (hpAt hist H p) o v
  free : ∀ (i : Nat) (o : Oper) (v : D), ops[i]? = some o → ws[i]? = some v → (∀ (q : Nat) (x : Nat × Heap), hist[q]? = some x → x.1 ≠ i) → i ∈ tied ∨ ∀ H' u, StepTo L ops (frm f0 n1 ds1 ds2 (seenOf ops.toList ws) i o u) H' o v
  act : ∀ (q : Nat) (x : Nat × Heap) (o : Oper) (v : D), hist[q]? = some x → ops[x.1]? = some o → ws[x.1]? = some v → ∀ u, ActTo L ops (frm f0 n1 ds1 ds2 (seenOf ops.toList ws) x.1 o u) (hpAt hist H q) o v (hpAt hist H (q + 1))
  chain : ∀ (q q' : Nat) (x y : Nat × Heap), hist[q]? = some x → hist[q']? = some y → q < q' → bef ops y.1 x.1 = true

theorem seen_take {l : List Oper} {ws ws' : List D} {i : Nat} (h : ws'.take ws.length = ws) (hi : i ≤ ws.length) : (seenOf l ws').take i = (seenOf l ws).take i := by
  unfold seenOf
  rw [← List.map_take, ← List.map_take]
  congr 1
  simp only [List.zip, List.take_zipWith]
  congr 1
  rw [← h, List.take_take, Nat.min_eq_left hi]
theorem frm_same {f0 : Fr} {n1 : Nat} {ds1 ds2 : List Nat} {l : List Oper} {ws ws' : List D} {i : Nat} {o : Oper} {u : Fr} (h : ws'.take ws.length = ws) (hi : i ≤ ws.length) : frm f0 n1 ds1 ds2 (seenOf l ws') i o u = frm f0 n1 ds1 ds2 (seenOf l ws) i o u := by
  unfold frm
  rw [seen_take h hi]
theorem take_snoc' {ws : List D} {v : D} : (ws ++ [v]).take ws.length = ws := by simp
theorem hpAt_old {hist : List (Nat × Heap)} {H : Heap} {x : Nat × Heap} {q : Nat} (h : hist[q]? = some x) : hpAt hist H q = x.2 := by simp [hpAt, h]
theorem hpAt_end {hist : List (Nat × Heap)} {H : Heap} : hpAt hist H hist.length = H := by simp [hpAt]
theorem hpAt_snoc {hist : List (Nat × Heap)} {H H' : Heap} {j p : Nat} (hp : p ≤ hist.length) : hpAt (hist ++ [(j, H)]) H' p = hpAt hist H p := by
  unfold hpAt
  by_cases h : p < hist.length
  · rw [List.getElem?_append_left h, List.getElem?_eq_getElem h]; rfl
  · obtain rfl : p = hist.length := by omega
    simp
theorem hpAt_snoc_end {hist : List (Nat × Heap)} {H H' : Heap} {j : Nat} : hpAt (hist ++ [(j, H)]) H' (hist.length + 1) = H' := by
  simp [hpAt]
theorem snoc_get {hist : List (Nat × Heap)} {y x : Nat × Heap} {q : Nat} (h : (hist ++ [y])[q]? = some x) : hist[q]? = some x ∨ (q = hist.length ∧ x = y) := by
  rw [List.getElem?_append] at h
  split at h
  · exact .inl h
  · rename_i hq
    have : q - hist.length = 0 := by
      rcases Nat.eq_zero_or_pos (q - hist.length) with h0 | h0
      · exact h0
      · rw [List.getElem?_eq_none (by simp; omega)] at h; cases h
    rw [this] at h
    simp at h
    exact .inr ⟨by omega, h.symm⟩
theorem get_snoc {ws : List D} {v w : D} {i : Nat} (h : (ws ++ [v])[i]? = some w) : ws[i]? = some w ∨ (i = ws.length ∧ w = v) := by
  rw [List.getElem?_append] at h
  split at h
  · exact .inl h
  · rename_i hq
    have : i - ws.length = 0 := by
      rcases Nat.eq_zero_or_pos (i - ws.length) with h0 | h0
      · exact h0
      · rw [List.getElem?_eq_none (by simp; omega)] at h; cases h
    rw [this] at h
    simp at h
    exact .inr ⟨by omega, h.symm⟩
theorem lt_of_get {ws : List D} {w : D} {i : Nat} (h : ws[i]? = some w) : i < ws.length := (List.getElem?_eq_some_iff.1 h).1
theorem seen_same {l : List Oper} {ws : List D} : (seenOf l ws).take ws.length = seenOf l ws := by
  refine List.take_of_length_le ?_
  simp [seenOf]
  omega

theorem planA_good {ops : Array Oper} {f0 : Fr} {n1 : Nat} {ds1 ds2 : List Nat} : ∀ (r pre : List Oper) (ws : List D) (tied : List Nat) (hist : List (Nat × Heap)) (H H0 : Heap), pre ++ r = ops.toList → ws.length = pre.length → hpAt hist H 0 = H0 →
    GoodA L ops f0 n1 ds1 ds2 ws tied hist H → planA L ops f0 Q n1 ds1 ds2 (seenOf ops.toList ws) tied hist H r →
    ∃ ws tied hist H, GoodA L ops f0 n1 ds1 ds2 ws tied hist H ∧ hpAt hist H 0 = H0 ∧ ((ws.length = ops.size ∧ Q .normal (finF ops.toList ws f0) H) ∨ (ws.length < ops.size ∧ (∀ o, ops[ws.length]? = some o → ∀ u, FailTo L Q ops f0 (frm f0 n1 ds1 ds2 (seenOf ops.toList ws) ws.length o u) H o) ∧
      (∀ p, p ∈ hist → bef ops ws.length p.1 = true) ∧ ∀ j, j < ops.size → ws.length < j → bef ops j ws.length = true))
  | [], pre, ws, tied, hist, H, H0, hp, hl, h00, hg, h => by
    have hs : ws.length = ops.size := by rw [hl, ← Array.length_toList, ← hp]; simp
    refine ⟨ws, tied, hist, H, hg, h00, .inl ⟨hs, ?_⟩⟩
    rw [← fin_same]
    exact h
  | o :: r, pre, ws, tied, hist, H, H0, hp, hl, h00, hg, h => by
    have hlt : ws.length < ops.toList.length := by rw [← hp, hl]; simp
    have hlen : (seenOf ops.toList ws).length = ws.length := by
      simp only [seenOf, List.length_map, List.length_zip]
      omega
    have ho : ops[ws.length]? = some o := by
      rw [← Array.getElem?_toList, ← hp, hl]
      simp
    have hseen : ∀ v, seenOf ops.toList ws ++ [(o.dst, v)] = seenOf ops.toList (ws ++ [v]) := fun v => by
      have e1 : ops.toList = pre ++ o :: r := hp.symm
      have z1 : (pre ++ o :: r).zip ws = pre.zip ws := by
        have := List.zip_append (l₁ := pre) (l₂ := ws) (r₁ := o :: r) (r₂ := ([] : List D)) hl.symm
        simpa using this
      have z2 : (pre ++ o :: r).zip (ws ++ [v]) = pre.zip ws ++ [(o, v)] := by
        have := List.zip_append (l₁ := pre) (l₂ := ws) (r₁ := o :: r) (r₂ := [v]) hl.symm
        simpa using this
      simp only [seenOf, e1, z1, z2, List.map_append]
      rfl
    have hfr : ∀ (v : D) (i : Nat) (o' : Oper) (u : Fr), i ≤ ws.length → frm f0 n1 ds1 ds2 (seenOf ops.toList (ws ++ [v])) i o' u = frm f0 n1 ds1 ds2 (seenOf ops.toList ws) i o' u := fun v i o' u hi => frm_same take_snoc' hi
    have hopre : ∀ {i : Nat} {o' : Oper}, ops[i]? = some o' → i = ws.length → o' = o := fun h1 h2 => by
      subst h2
      rw [ho] at h1
      exact (Option.some.inj h1).symm
    have hget : ∀ {k : Nat} {o' : Oper} {v' : D}, ops[k]? = some o' → ws[k]? = some v' → (seenOf ops.toList ws)[k]? = some (o'.dst, v') := fun {k o' v'} h1 h2 => by
      simp only [seenOf, List.getElem?_map, List.getElem?_zip_eq_some, Option.map_eq_some_iff]
      exact ⟨(o', v'), ⟨by rw [Array.getElem?_toList]; exact h1, h2⟩, rfl⟩
    unfold planA at h
    rw [hlen] at h
    rcases h with ⟨v, h1, h2⟩ | ⟨v, h1, h3, h2⟩ | ⟨v, H', h1, h3, h4, h2⟩ | ⟨h1, h3, h4⟩
    rotate_right
    · refine ⟨ws, tied, hist, H, hg, h00, .inr ⟨by simpa using hlt, fun o' ho' u => ?_, h3, fun j hj hlj => ?_⟩⟩
      · rw [ho] at ho'
        obtain rfl := Option.some.inj ho'
        exact h1 u
      · have := List.all_eq_true.1 h4 j (List.mem_range.2 hj)
        rw [Bool.or_eq_true] at this
        rcases this with h | h
        · have := Nat.le_of_ble_eq_true h
          omega
        · exact h
    · rw [hseen] at h2
      refine planA_good r (pre ++ [o]) (ws ++ [v]) tied hist H H0 (by simpa using hp) (by simp [hl]) h00 ⟨fun q x hx => by have := hg.lt q x hx; simp; omega, ?_, ?_, ?_, hg.chain⟩ h2
      · intro i o' w hi hw hno p hpl hmay u
        rcases get_snoc hw with hw | ⟨rfl, rfl⟩
        · rw [hfr v i o' u (Nat.le_of_lt (lt_of_get hw))]
          exact hg.quiet i o' w hi hw hno p hpl hmay u
        · obtain rfl := hopre hi rfl
          rw [hfr _ _ _ u (Nat.le_refl _)]
          exact h1 _ u
      · intro i o' w hi hw hno
        rcases get_snoc hw with hw | ⟨rfl, rfl⟩
        · refine (hg.free i o' w hi hw hno).imp_right fun h H' u => ?_
          rw [hfr v i o' u (Nat.le_of_lt (lt_of_get hw))]
          exact h H' u
        · obtain rfl := hopre hi rfl
          refine .inr fun H' u => ?_
          rw [hfr _ _ _ u (Nat.le_refl _)]
          exact h1 H' u
      · intro q x o' w hx ho' hw u
        have hxl := hg.lt q x hx
        rcases get_snoc hw with hw | ⟨he, _⟩
        · rw [hfr v x.1 o' u (Nat.le_of_lt hxl)]
          exact hg.act q x o' w hx ho' hw u
        · omega
    · rw [hseen] at h2
      refine planA_good r (pre ++ [o]) (ws ++ [v]) (tied ++ [ws.length]) hist H H0 (by simpa using hp) (by simp [hl]) h00 ⟨fun q x hx => by have := hg.lt q x hx; simp; omega, ?_, ?_, ?_, hg.chain⟩ h2
      · intro i o' w hi hw hno p hpl hmay u
        rcases get_snoc hw with hw | ⟨rfl, rfl⟩
        · rw [hfr v i o' u (Nat.le_of_lt (lt_of_get hw))]
          exact hg.quiet i o' w hi hw hno p hpl hmay u
        · obtain rfl := hopre hi rfl
          rw [hfr _ _ _ u (Nat.le_refl _)]
          by_cases hpe : p = hist.length
          · rw [hpe, hpAt_end]; exact h1 u
          · have hlt' : p < hist.length := by omega
            have hx := List.getElem?_eq_getElem hlt'
            rw [hpAt_old hx]
            rcases h3 _ (List.getElem_mem hlt') with hb | hb
            · exact absurd (hmay.1 p _ hx hb) (by omega)
            · exact hb u
      · intro i o' w hi hw hno
        rcases get_snoc hw with hw | ⟨rfl, rfl⟩
        · refine (hg.free i o' w hi hw hno).imp (fun h => List.mem_append_left _ h) fun h H' u => ?_
          rw [hfr v i o' u (Nat.le_of_lt (lt_of_get hw))]
          exact h H' u
        · exact .inl (by simp)
      · intro q x o' w hx ho' hw u
        have hxl := hg.lt q x hx
        rcases get_snoc hw with hw | ⟨he, _⟩
        · rw [hfr v x.1 o' u (Nat.le_of_lt hxl)]
          exact hg.act q x o' w hx ho' hw u
        · omega
    · rw [hseen] at h2
      refine planA_good r (pre ++ [o]) (ws ++ [v]) tied (hist ++ [(ws.length, H)]) H' H0 (by simpa using hp) (by simp [hl]) (by rw [hpAt_snoc (Nat.zero_le _)]; exact h00) ⟨fun q x hx => ?_, ?_, ?_, ?_, ?_⟩ h2
      · rcases snoc_get hx with hx | ⟨_, rfl⟩
        · have := hg.lt q x hx; simp; omega
        · simp
      · intro i o' w hi hw hno p hpl hmay u
        have hno' : ∀ (q : Nat) (x : Nat × Heap), hist[q]? = some x → x.1 ≠ i := fun q x hx => hno q x (by rw [List.getElem?_append_left (List.getElem?_eq_some_iff.1 hx).1]; exact hx)
        have hni : ws.length ≠ i := hno hist.length (ws.length, H) (by simp)
        rcases get_snoc hw with hw | ⟨he, _⟩
        · rw [hfr v i o' u (Nat.le_of_lt (lt_of_get hw))]
          by_cases hpe : p ≤ hist.length
          · rw [hpAt_snoc hpe]
            exact hg.quiet i o' w hi hw hno' p hpe ⟨fun q x hx => hmay.1 q x (by rw [List.getElem?_append_left (List.getElem?_eq_some_iff.1 hx).1]; exact hx), fun q x hx => hmay.2 q x (by rw [List.getElem?_append_left (List.getElem?_eq_some_iff.1 hx).1]; exact hx)⟩ u
          · obtain rfl : p = hist.length + 1 := by simp at hpl; omega
            rw [hpAt_snoc_end]
            rcases hg.free i o' w hi hw hno' with ht | hf
            · rcases h4 i ht with hb | hb
              · exact absurd (hmay.2 hist.length (ws.length, H) (by simp) hb) (by omega)
              · exact hb o' _ w hi (hget hi hw) u
            · exact hf H' u
        · exact absurd he.symm hni
      · intro i o' w hi hw hno
        have hno' : ∀ (q : Nat) (x : Nat × Heap), hist[q]? = some x → x.1 ≠ i := fun q x hx => hno q x (by rw [List.getElem?_append_left (List.getElem?_eq_some_iff.1 hx).1]; exact hx)
        have hni : ws.length ≠ i := hno hist.length (ws.length, H) (by simp)
        rcases get_snoc hw with hw | ⟨he, _⟩
        · refine (hg.free i o' w hi hw hno').imp_right fun h H' u => ?_
          rw [hfr v i o' u (Nat.le_of_lt (lt_of_get hw))]
          exact h H' u
        · exact absurd he.symm hni
      · intro q x o' w hx ho' hw u
        rcases snoc_get hx with hx | ⟨rfl, rfl⟩
        · have hxl := hg.lt q x hx
          have hql : q < hist.length := (List.getElem?_eq_some_iff.1 hx).1
          rcases get_snoc hw with hw | ⟨he, _⟩
          · rw [hfr v x.1 o' u (Nat.le_of_lt hxl), hpAt_snoc (by omega), hpAt_snoc (by omega)]
            exact hg.act q x o' w hx ho' hw u
          · omega
        · obtain rfl := hopre ho' rfl
          have hw' : w = v := by
            rcases get_snoc hw with hw | ⟨_, rfl⟩
            · have := lt_of_get hw; omega
            · rfl
          subst hw'
          rw [hfr w _ _ u (Nat.le_refl _), hpAt_snoc (Nat.le_refl _), hpAt_end, hpAt_snoc_end]
          exact h1 u
      · intro q q' x y hx hy hqq
        rcases snoc_get hy with hy | ⟨rfl, rfl⟩
        · have hlt' : q' < hist.length := (List.getElem?_eq_some_iff.1 hy).1
          rw [List.getElem?_append_left (by omega)] at hx
          exact hg.chain q q' x y hx hy hqq
        · rw [List.getElem?_append_left hqq] at hx
          exact h3 x (List.mem_of_getElem? hx)
/-- How memory stands when some have been carried out. -/
def StandsH (hist : List (Nat × Heap)) (H : Heap) (listed : Array Bool) (h : Heap) : Prop := ∃ k, k ≤ hist.length ∧ h = hpAt hist H k ∧ ∀ (q : Nat) (x : Nat × Heap), hist[q]? = some x → (listed.getD x.1 false = true ↔ q < k)
theorem any_planA {ops : Array Oper} {f0 : Fr} {n1 : Nat} {H0 : Heap} (hc : planOk ops n1 = true) (h : planA L ops f0 Q n1 (dstsOf (ops.toList.take n1)) (dstsOf ops.toList) [] [] [] H0 ops.toList) : anyD L ops Q ops.size (Array.replicate ops.size false) f0 H0 := by
  simp only [planOk, Bool.and_eq_true, decide_eq_true_eq] at hc
  obtain ⟨⟨hlate, hn⟩, hb⟩ := hc
  have late : ∀ (j : Nat) (o : Oper), ops[j]? = some o → n1 ≤ j → ∀ i, i < n1 → ∃ e, e ∈ o.after ∧ e.on = i ∧ Region.binds .any e = true := fun j o ho hj i hi => by
    have hjn : j < ops.size := (Array.getElem?_eq_some_iff.1 ho).1
    have := List.all_eq_true.1 hlate j (List.mem_range.2 hjn)
    rw [ho] at this
    have hnj : ¬ j < n1 := by omega
    simp only [decide_eq_false hnj, Bool.false_or, Option.map_some, Option.getD_some, List.all_eq_true, List.mem_range] at this
    obtain ⟨e, he, h2⟩ := List.any_eq_true.1 (this i hi)
    simp only [Bool.and_eq_true, beq_iff_eq] at h2
    exact ⟨e, by simpa using he, h2.1, h2.2⟩
  obtain ⟨ws, tied, hist, H, w3, w5, wend⟩ := planA_good (ops := ops) (Q := Q) (L := L) ops.toList [] [] [] [] H0 H0 rfl rfl rfl ⟨fun q x hx => by simp at hx, fun i o v _ hv => by simp at hv, fun i o v _ hv => by simp at hv, fun q x o v hx => by simp at hx, fun q q' x y hx => by simp at hx⟩ (by rw [show seenOf ops.toList [] = [] from by simp [seenOf]]; exact h)
  have w1 : ws.length ≤ ops.size := by rcases wend with h | h <;> omega
  have back : ∀ (i : Nat) (o : Oper), ops[i]? = some o → ∀ e, e ∈ o.after → Region.binds .any e = true → e.on < i := fun i o ho e he hbd => by
    have hi : i < ops.size := (Array.getElem?_eq_some_iff.1 ho).1
    have := List.all_eq_true.1 hb i (List.mem_range.2 hi)
    rw [ho] at this
    simp only [Option.map_some, Option.getD_some, List.all_eq_true] at this
    have := this e (by simpa using he)
    rw [hbd] at this
    simpa using this
  have done : ∀ listed : Array Bool, listed.size = ops.size → Region.ready .any ops listed = [] → ∀ j, j < ops.size → listed.getD j false = true := by
    intro listed hls hr j
    induction j using Nat.strongRecOn with
    | ind j ih =>
      intro hj
      have hnot : j ∉ Region.ready .any ops listed := by rw [hr]; simp
      rw [mem_ready] at hnot
      cases hv : listed.getD j false with
      | true => rfl
      | false =>
        refine absurd ⟨?_, ops[j], Array.getElem?_eq_getElem hj, fun e he hbd => ?_⟩ hnot
        · have hj' : j < listed.size := by omega
          rw [Array.getD_eq_getD_getElem?, Array.getElem?_eq_getElem hj'] at hv ⊢
          exact hv
        · have hlt := back j ops[j] (Array.getElem?_eq_getElem hj) e he hbd
          exact ih e.on hlt (by omega)
  have fin : ∀ (listed : Array Bool) (f : Fr), listed.size = ops.size → Stands ops f0 ws listed f → (∀ j, listed.getD j false = true → j < ws.length) → ∀ h, StandsH hist H listed h → Region.ready .any ops listed = [] → Q .normal f h := by
    intro listed f hls hst hC h hsh hr
    have hd := done listed hls hr
    obtain ⟨w1, w4⟩ : ws.length = ops.size ∧ Q .normal (finF ops.toList ws f0) H := by
      rcases wend with h | h
      · exact h
      · have := hC _ (hd _ h.1)
        omega
    have : f = finF ops.toList ws f0 := by
      obtain ⟨g1, g2⟩ := fin_get hn ws f0 (by simpa using w1)
      funext t
      by_cases ht : t ∈ dstsOf ops.toList
      · have := dst_of_mem ht
        obtain ⟨j, o, h1, h2⟩ := this
        have hj : j < ops.size := by simpa using (List.getElem?_eq_some_iff.1 h1).1
        have hw : ws[j]? = some (ws[j]'(by omega)) := List.getElem?_eq_getElem (by omega)
        rw [g2 j o _ t h1 hw h2]
        exact hst.2.1 j o _ t (by rw [← Array.getElem?_toList]; exact h1) hw h2 (hd j hj)
      · rw [g1 t ht]; exact hst.1 t ht
    rw [this]
    obtain ⟨k, k1, rfl, k3⟩ := hsh
    have hk : k = hist.length := by
      rcases Nat.lt_or_ge k hist.length with hlt | hge
      · have hx := List.getElem?_eq_getElem hlt
        have := (k3 k _ hx).1 (hd _ (by rw [← w1]; exact w3.lt k _ hx))
        omega
      · omega
    rw [hk, hpAt_end]
    exact w4
  have key : ∀ (n : Nat) (listed : Array Bool) (f : Fr), listed.size = ops.size → listed.toList.count false ≤ n → Stands ops f0 ws listed f → (∀ j, listed.getD j false = true → j < ws.length) → ∀ h, StandsH hist H listed h → anyD L ops Q n listed f h := by
    intro n
    induction n with
    | zero =>
      intro listed f hls hcnt hst hC h hsh
      have hr : Region.ready .any ops listed = [] := by
        refine List.eq_nil_iff_forall_not_mem.2 fun i hi => ?_
        rw [mem_ready] at hi
        obtain ⟨h0, o, ho, _⟩ := hi
        have hi' : i < listed.size := by rw [hls]; exact (Array.getElem?_eq_some_iff.1 ho).1
        rw [Array.getD_eq_getD_getElem?, Array.getElem?_eq_getElem hi'] at h0
        have : false ∈ listed.toList := by
          rw [← (show listed[i] = false from h0)]
          simp
        have := List.count_pos_iff.2 this
        omega
      exact ⟨hr, fin listed f hls hst hC h hsh hr⟩
    | succ n ih =>
      intro listed f hls hcnt hst hC h hsh
      refine ⟨fin listed f hls hst hC h hsh, fun i hi => ?_⟩
      rw [mem_ready] at hi
      obtain ⟨h0, o, ho, hall⟩ := hi
      have hin : i < ops.size := (Array.getElem?_eq_some_iff.1 ho).1
      have hil : i < listed.size := by omega
      have hli : listed[i] = false := by
        rw [Array.getD_eq_getD_getElem?, Array.getElem?_eq_getElem hil] at h0
        exact h0
      have hmix : mixF f0 f (if i < n1 then dstsOf (ops.toList.take n1) else dstsOf ops.toList) = f := by
        by_cases hin1 : i < n1
        · rw [if_pos hin1]
          funext t
          unfold mixF
          split
          · rfl
          · rename_i ht
            by_cases hd : t ∈ dstsOf ops.toList
            · obtain ⟨j, p, h1, h2⟩ := dst_of_mem hd
              have hjn : n1 ≤ j := by
                rcases Nat.lt_or_ge j n1 with hj | hj
                · exact absurd (mem_dsts (l := ops.toList.take n1) (j := j) (by rw [List.getElem?_take, if_pos hj]; exact h1) h2) (by simpa using ht)
                · exact hj
              have hp : ops[j]? = some p := by rw [← Array.getElem?_toList]; exact h1
              obtain ⟨e, e1, e2, e3⟩ := late j p hp hjn i hin1
              refine (hst.2.2.1 j p t hp h2 ?_).symm
              cases hl : listed.getD j false with
              | false => rfl
              | true =>
                have := hst.2.2.2 j p hp hl e e1 e3
                rw [e2, Array.getD_eq_getD_getElem?, Array.getElem?_eq_getElem hil] at this
                exact absurd (hli.symm.trans this) (by simp)
            · exact (hst.1 t hd).symm
        · rw [if_neg hin1]
          funext t
          unfold mixF
          split
          · rfl
          · rename_i ht; exact (hst.1 t (by simpa using ht)).symm
      have hfrm : frm f0 n1 (dstsOf (ops.toList.take n1)) (dstsOf ops.toList) (seenOf ops.toList ws) i o f = f := by
        unfold frm
        rw [hmix]
        refine wk_same _ ?_
        intro e he hbind v t hs
        have hl := hall e (by simpa using he) hbind
        rw [List.getElem?_take] at hs
        split at hs
        case isFalse => cases hs
        simp only [seenOf, List.getElem?_map, Option.map_eq_some_iff, Prod.mk.injEq] at hs
        obtain ⟨⟨p, x⟩, hz, hd, rfl⟩ := hs
        obtain ⟨hp, hx⟩ := List.getElem?_zip_eq_some.1 hz
        exact hst.2.1 e.on p x t (by rw [← Array.getElem?_toList]; exact hp) hx hd hl
      have hbefI : ∀ k, bef ops i k = true → listed.getD k false = true := fun k hk => bef_listed (S := fun j => listed.getD j false = true) back (fun j p hp hl e he hb => hst.2.2.2 j p hp hl e he hb) i o k ho (fun e he hb => hall e he hb) hk
      have hbefL : ∀ j p k, ops[j]? = some p → listed.getD j false = true → bef ops j k = true → listed.getD k false = true := fun j p k hp hl hk => bef_listed (S := fun j => listed.getD j false = true) back (fun j p hp hl e he hb => hst.2.2.2 j p hp hl e he hb) j p k hp (fun e he hb => hst.2.2.2 j p hp hl e he hb) hk
      have hli' : listed.getD i false = false := by rw [Array.getD_eq_getD_getElem?, Array.getElem?_eq_getElem hil]; exact hli
      have hopsAt : ∀ q (x : Nat × Heap), hist[q]? = some x → ∃ p, ops[x.1]? = some p := fun q x hx => ⟨ops[x.1]'(by have := w3.lt q x hx; omega), Array.getElem?_eq_getElem _⟩
      obtain ⟨k, k1, rfl, k3⟩ := hsh
      by_cases hiw : i < ws.length
      case neg =>
        rcases wend with ⟨h, _⟩ | ⟨h1, h2, h3, h4⟩
        · omega
        · rcases Nat.lt_or_ge ws.length i with hlt | hge
          · have := hC _ (hbefI _ (h4 i hin hlt))
            omega
          · obtain rfl : i = ws.length := by omega
            have hk : k = hist.length := by
              rcases Nat.lt_or_ge k hist.length with hlt | hge
              · have hx := List.getElem?_eq_getElem hlt
                have := (k3 k _ hx).1 (hbefI _ (h3 _ (List.getElem_mem hlt)))
                omega
              · omega
            have hfl := h2 o ho f
            rw [hfrm] at hfl
            unfold atD
            rw [ho, hk, hpAt_end]
            exact hfl.step hst.1
      have hw : ws[i]? = some (ws[i]'(by omega)) := List.getElem?_eq_getElem (by omega)
      have hnext : ∃ h', (StepTo L ops f (hpAt hist H k) o (ws[i]'(by omega)) ∧ h' = hpAt hist H k ∨ ActTo L ops f (hpAt hist H k) o (ws[i]'(by omega)) h') ∧ StandsH hist H (listed.setIfInBounds i true) h' := by
        by_cases hact : ∃ (q : Nat) (x : Nat × Heap), hist[q]? = some x ∧ x.1 = i
        · obtain ⟨q, x, hx, rfl⟩ := hact
          have hq1 : ¬ q < k := fun hlt => by
            have := (k3 q x hx).2 hlt
            rw [hli'] at this
            cases this
          have hq2 : ¬ k < q := fun hlt => by
            have hlen : q < hist.length := (List.getElem?_eq_some_iff.1 hx).1
            have hy := List.getElem?_eq_getElem (show k < hist.length by omega)
            have hb := w3.chain k q _ x hy hx hlt
            have := (k3 k _ hy).1 (hbefI _ hb)
            omega
          obtain rfl : q = k := by omega
          have hs := w3.act q x o _ hx ho hw f
          rw [hfrm] at hs
          refine ⟨_, .inr hs, q + 1, (List.getElem?_eq_some_iff.1 hx).1, rfl, fun p y hy => ?_⟩
          by_cases hpx : y.1 = x.1
          · have hpq : p = q := by
              rcases Nat.lt_trichotomy p q with h1 | h1 | h1
              · have := (k3 p y hy).2 h1
                rw [hpx, hli'] at this
                cases this
              · exact h1
              · have hb := w3.chain q p x y hx hy h1
                rw [hpx] at hb
                have := hbefI _ hb
                rw [hli'] at this
                cases this
            rw [hpx]
            refine ⟨fun _ => by omega, fun _ => ?_⟩
            rw [Array.getD_eq_getD_getElem?, Array.getElem?_setIfInBounds_self_of_lt hil]
            rfl
          · rw [getD_set_ne false (Ne.symm hpx), k3 p y hy]
            have : p ≠ q := fun h => hpx (by subst h; rw [hx] at hy; rw [Option.some.inj hy])
            omega
        · have hno : ∀ (q : Nat) (x : Nat × Heap), hist[q]? = some x → x.1 ≠ i := fun q x hx he => hact ⟨q, x, hx, he⟩
          have hs := w3.quiet i o _ ho hw hno k k1 ⟨fun q x hx hb => (k3 q x hx).1 (hbefI _ hb), fun q x hx hb => by
            rcases Nat.lt_or_ge q k with hlt | hge
            · obtain ⟨p, hp⟩ := hopsAt q x hx
              have := hbefL _ p i hp ((k3 q x hx).2 hlt) hb
              rw [hli'] at this
              cases this
            · exact hge⟩ f
          rw [hfrm] at hs
          refine ⟨_, .inl ⟨hs, rfl⟩, k, k1, rfl, fun q x hx => ?_⟩
          rw [getD_set_ne false (Ne.symm (hno q x hx))]
          exact k3 q x hx
      obtain ⟨h', hst1, hst2⟩ := hnext
      have hstep : ∀ K : Fr → Heap → Prop, K (f.put o.dst (ws[i]'(by omega))) h' → stepD L ops Q o f (hpAt hist H k) K := fun K hK => by
        rcases hst1 with ⟨h1, rfl⟩ | h1
        · exact h1.step hK
        · exact h1.step hK
      · unfold atD
        rw [ho]
        refine hstep _ (ih _ _ (by simpa using hls) ?_ ⟨fun t ht => ?_, fun j p v t hj hv hd hl => ?_, fun j p t hj hd hl => ?_, fun j p hj hl e he hb => ?_⟩ (fun j hj => ?_) _ hst2)
        · rw [Array.toList_setIfInBounds]
          have h1 : (listed.toList.set i true).count false + 1 = listed.toList.count false := by
            have hil' : i < listed.toList.length := by simpa using hil
            have := List.count_set (a := true) (b := false) (l := listed.toList) (i := i) hil'
            have hp : 0 < listed.toList.count false := List.count_pos_iff.2 (by rw [← hli]; simp)
            have e1 : (listed.toList[i] == false) = true := by simp [hli]
            rw [this, e1, if_pos rfl, if_neg (by decide)]
            omega
          omega
        · cases hd : o.dst with
          | none => exact hst.1 t ht
          | some y =>
            have : t ≠ y := fun he => ht (he ▸ mem_dsts (by rw [Array.getElem?_toList]; exact ho) hd)
            simp only [Fr.put, if_neg this]
            exact hst.1 t ht
        · by_cases hij : j = i
          · subst hij
            rw [ho] at hj
            obtain rfl := Option.some.inj hj
            rw [hw] at hv
            obtain rfl := Option.some.inj hv
            rw [hd]
            simp [Fr.put]
          · have hl' : listed.getD j false = true := by rwa [getD_set_ne false (Ne.symm hij)] at hl
            have hold := hst.2.1 j p v t hj hv hd hl'
            cases hd' : o.dst with
            | none => exact hold
            | some y =>
              have : t ≠ y := fun he => hij (dst_one hn (by rw [Array.getElem?_toList]; exact hj) (by rw [Array.getElem?_toList]; exact ho) hd (he ▸ hd'))
              simp only [Fr.put, if_neg this]
              exact hold
        · have hij : j ≠ i := fun he => by
            subst he
            rw [Array.getD_eq_getD_getElem?, Array.getElem?_setIfInBounds_self_of_lt hil] at hl
            cases hl
          have hl' : listed.getD j false = false := by rwa [getD_set_ne false (Ne.symm hij)] at hl
          have hold := hst.2.2.1 j p t hj hd hl'
          cases hd' : o.dst with
          | none => exact hold
          | some y =>
            have : t ≠ y := fun he => hij (dst_one hn (by rw [Array.getElem?_toList]; exact hj) (by rw [Array.getElem?_toList]; exact ho) hd (he ▸ hd'))
            simp only [Fr.put, if_neg this]
            exact hold
        · by_cases hij : j = i
          · subst hij
            rw [ho] at hj
            obtain rfl := Option.some.inj hj
            exact getD_set_true (hall e (by simpa using he) hb)
          · have hl' : listed.getD j false = true := by rwa [getD_set_ne false (Ne.symm hij)] at hl
            exact getD_set_true (hst.2.2.2 j p hj hl' e he hb)
        · by_cases hij : j = i
          · omega
          · exact hC j (by rwa [getD_set_ne false (Ne.symm hij)] at hj)
  refine key _ _ f0 (by simp) (by simp [List.count_replicate]) ⟨fun _ _ => rfl, fun j o v t hj hv hd hl => ?_, fun _ _ _ _ _ _ => rfl, fun j o hj hl => ?_⟩ (fun j hl => ?_) H0 ?_
  · simp only [Array.getD_eq_getD_getElem?, Array.getElem?_replicate] at hl
    split at hl <;> simp at hl
  · simp only [Array.getD_eq_getD_getElem?, Array.getElem?_replicate] at hl
    split at hl <;> simp at hl
  · simp only [Array.getD_eq_getD_getElem?, Array.getElem?_replicate] at hl
    split at hl <;> simp at hl
  · refine ⟨0, Nat.zero_le _, ?_, fun q x hx => ⟨fun hl => ?_, fun h => by omega⟩⟩
    · exact w5.symm
    · simp only [Array.getD_eq_getD_getElem?, Array.getElem?_replicate] at hl
      split at hl <;> simp at hl

theorem w_drawA {f : Fr} {H : Heap} {id : Nat} {ops : Array Oper} {n1 : Nat} {ds1 ds2 : List Nat} (hn : firstAssign ops = n1) (hc : planOk ops n1 = true) (hd1 : dstsOf (ops.toList.take n1) = ds1) (hd2 : dstsOf ops.toList = ds2) (h : planA L ops f Q n1 ds1 ds2 [] [] [] H ops.toList) : wpD L (.region id ops true) f H Q := by
  subst hd1 hd2
  exact any_planA hc h
/-! ### steps -/
section
variable {H : Heap} {ops : Array Oper} {f0 : Fr} {n1 : Nat} {ds1 ds2 ds : List Nat} {seen seen' : List (Option Nat × D)} {tied : List Nat} {hist : List (Nat × Heap)} {r : List Oper} {dst : Option Nat} {op : Op} {ty : TypeId} {pos : String} {after : Array Edge} {guard : Option (Nat × Bool)}
theorem frm_at (hds : (if seen.length < n1 then ds1 else ds2) = ds) (u : Fr) : frm f0 n1 ds1 ds2 seen seen.length ⟨dst, op, ty, pos, after, guard⟩ u = wkF seen after.toList (mixF f0 u ds) := by
  unfold frm
  rw [List.take_length, hds]
theorem a_end {F : Fr} (hF : finS seen f0 = F) (k : Q .normal F H) : planA L ops f0 Q n1 ds1 ds2 seen tied hist H [] := by
  subst hF
  exact k
/-- It hangs on no memory that may turn. -/
theorem a_val {v : D} (hds : (if seen.length < n1 then ds1 else ds2) = ds) (hg : ∀ u, guardD ops (wkF seen after.toList (mixF f0 u ds)) ⟨dst, op, ty, pos, after, guard⟩ = some true) (h : ∀ H' u, valD L (wkF seen after.toList (mixF f0 u ds)) H' op = some v) (hs : seen ++ [(dst, v)] = seen')
    (k : planA L ops f0 Q n1 ds1 ds2 seen' tied hist H r) : planA L ops f0 Q n1 ds1 ds2 seen tied hist H (⟨dst, op, ty, pos, after, guard⟩ :: r) := by
  subst hs
  refine .inl ⟨v, fun H' u => ?_, k⟩
  rw [frm_at hds]
  exact .inr ⟨hg u, .inl ⟨(valD_op (h H' u)).1, .inl (valD_op (h H' u)).2⟩⟩
/-- It hangs on memory; all that turns it stands ahead of it, or behind it. -/
theorem a_tie {v : D} (hds : (if seen.length < n1 then ds1 else ds2) = ds) (hg : ∀ u, guardD ops (wkF seen after.toList (mixF f0 u ds)) ⟨dst, op, ty, pos, after, guard⟩ = some true) (h : ∀ u, valD L (wkF seen after.toList (mixF f0 u ds)) H op = some v) (hb : (hist.all fun p => bef ops seen.length p.1) = true) (hs : seen ++ [(dst, v)] = seen')
    {tied' : List Nat} (ht : tied ++ [seen.length] = tied') (k : planA L ops f0 Q n1 ds1 ds2 seen' tied' hist H r) : planA L ops f0 Q n1 ds1 ds2 seen tied hist H (⟨dst, op, ty, pos, after, guard⟩ :: r) := by
  subst hs ht
  refine .inr (.inl ⟨v, fun u => ?_, fun p hp => .inl (List.all_eq_true.1 hb p hp), k⟩)
  rw [frm_at hds]
  exact .inr ⟨hg u, .inl ⟨(valD_op (h u)).1, .inl (valD_op (h u)).2⟩⟩
theorem a_frz {v : D} (hds : (if seen.length < n1 then ds1 else ds2) = ds) (hg : ∀ u, guardD ops (wkF seen after.toList (mixF f0 u ds)) ⟨dst, op, ty, pos, after, guard⟩ = some true) (hc : ∀ u, callOf L (wkF seen after.toList (mixF f0 u ds)) op = none)
    (h : ∀ (H' : Heap) u, ∃ d H'', opD L (wkF seen after.toList (mixF f0 u ds)) H' op = some (d, H'') ∧ H''.take H'.length = H' ∧ Snap (fun r => H'.length ≤ r) H'' d v) (hs : seen ++ [(dst, v)] = seen')
    (k : planA L ops f0 Q n1 ds1 ds2 seen' tied hist H r) : planA L ops f0 Q n1 ds1 ds2 seen tied hist H (⟨dst, op, ty, pos, after, guard⟩ :: r) := by
  subst hs
  refine .inl ⟨v, fun H' u => ?_, k⟩
  rw [frm_at hds]
  exact .inr ⟨hg u, .inl ⟨hc u, .inr (.inl (h H' u))⟩⟩
theorem a_fn (fine : Fine L) {g : FuncId} {args : List D} {v : D} (hds : (if seen.length < n1 then ds1 else ds2) = ds) (hg : ∀ u, guardD ops (wkF seen after.toList (mixF f0 u ds)) ⟨dst, op, ty, pos, after, guard⟩ = some true) (hc : ∀ u, callOf L (wkF seen after.toList (mixF f0 u ds)) op = some (g, args)) (h : Ans L g args v) (hf : ∀ a, a ∈ args → Flat a)
    (hs : seen ++ [(dst, v)] = seen') (k : planA L ops f0 Q n1 ds1 ds2 seen' tied hist H r) : planA L ops f0 Q n1 ds1 ds2 seen tied hist H (⟨dst, op, ty, pos, after, guard⟩ :: r) := by
  subst hs
  refine .inl ⟨v, fun H' u => ?_, k⟩
  rw [frm_at hds]
  exact .inr ⟨hg u, .inr ⟨g, args, hc u, .inl ((ans_use fine h hf).mono fun r H' hr => ⟨hr.2, hr.1⟩)⟩⟩
theorem a_no (hds : (if seen.length < n1 then ds1 else ds2) = ds) (hg : ∀ u, guardD ops (wkF seen after.toList (mixF f0 u ds)) ⟨dst, op, ty, pos, after, guard⟩ = some false) (hs : seen ++ [(dst, .tuple [])] = seen') (k : planA L ops f0 Q n1 ds1 ds2 seen' tied hist H r) : planA L ops f0 Q n1 ds1 ds2 seen tied hist H (⟨dst, op, ty, pos, after, guard⟩ :: r) := by
  subst hs
  refine .inl ⟨.tuple [], fun H' u => ?_, k⟩
  rw [frm_at hds]
  exact .inl ⟨hg u, rfl⟩
theorem a_if {j t : Nat} {want b : Bool} {x : D} (hds : (if seen.length < n1 then ds1 else ds2) = ds) (_ho : guard = some (j, want)) (_hj : (ops[j]?).bind (·.dst) = some t) (_hf : ∀ u, (wkF seen after.toList (mixF f0 u ds)) t = x) (_hb : x = .bool b)
    (k1 : b = want → planA L ops f0 Q n1 ds1 ds2 seen tied hist H (⟨dst, op, ty, pos, after, guard⟩ :: r)) (k0 : b = (!want) → planA L ops f0 Q n1 ds1 ds2 seen tied hist H (⟨dst, op, ty, pos, after, guard⟩ :: r)) : planA L ops f0 Q n1 ds1 ds2 seen tied hist H (⟨dst, op, ty, pos, after, guard⟩ :: r) := by
  by_cases hb : b = want
  · exact k1 hb
  · exact k0 (by cases b <;> cases want <;> simp_all)
/-- It turns memory. -/
theorem a_turns {g : FuncId} {args : List D} {v : D} {H' : Heap} (hds : (if seen.length < n1 then ds1 else ds2) = ds) (hg : ∀ u, guardD ops (wkF seen after.toList (mixF f0 u ds)) ⟨dst, op, ty, pos, after, guard⟩ = some true) (hc : ∀ u, callOf L (wkF seen after.toList (mixF f0 u ds)) op = some (g, args)) (h : CallsV L g args H (Turns v H'))
    (hb : ((hist.all fun p => bef ops seen.length p.1) && tied.all fun k => bef ops seen.length k) = true) (hs : seen ++ [(dst, v)] = seen') {hist' : List (Nat × Heap)} (hh : hist ++ [(seen.length, H)] = hist') (k : planA L ops f0 Q n1 ds1 ds2 seen' tied hist' H' r) : planA L ops f0 Q n1 ds1 ds2 seen tied hist H (⟨dst, op, ty, pos, after, guard⟩ :: r) := by
  subst hs hh
  simp only [Bool.and_eq_true, List.all_eq_true] at hb
  refine .inr (.inr (.inl ⟨v, H', fun u => ?_, hb.1, fun k hk => .inl (hb.2 k hk), k⟩))
  rw [frm_at hds]
  exact .inr ⟨hg u, .inr ⟨g, args, hc u, h⟩⟩
/-- A call that gives up; all that stands behind it waits for it. -/
theorem a_up {g : FuncId} {args : List D} {p : D} (hds : (if seen.length < n1 then ds1 else ds2) = ds) (hg : ∀ u, guardD ops (wkF seen after.toList (mixF f0 u ds)) ⟨dst, op, ty, pos, after, guard⟩ = some true) (hc : ∀ u, callOf L (wkF seen after.toList (mixF f0 u ds)) op = some (g, args)) (h : CallsV L g args H fun r H' => r = .panic p ∧ ∀ f, (∀ t, t ∉ dstsOf ops.toList → f t = f0 t) → Q (.panic p) f H')
    (hb : (hist.all fun p => bef ops seen.length p.1) = true) (hj : ((List.range ops.size).all fun j => Nat.ble j seen.length || bef ops j seen.length) = true) : planA L ops f0 Q n1 ds1 ds2 seen tied hist H (⟨dst, op, ty, pos, after, guard⟩ :: r) := by
  rw [List.all_eq_true] at hb
  refine .inr (.inr (.inr ⟨fun u => ?_, hb, hj⟩))
  rw [frm_at hds]
  exact ⟨hg u, g, args, p, hc u, h⟩
theorem a_mem {v : D} {H' : Heap} (hds : (if seen.length < n1 then ds1 else ds2) = ds) (hg : ∀ u, guardD ops (wkF seen after.toList (mixF f0 u ds)) ⟨dst, op, ty, pos, after, guard⟩ = some true) (hc : ∀ u, callOf L (wkF seen after.toList (mixF f0 u ds)) op = none) (h : ∀ u, opD L (wkF seen after.toList (mixF f0 u ds)) H op = some (v, H'))
    (hb : ((hist.all fun p => bef ops seen.length p.1) && tied.all fun k => bef ops seen.length k) = true) (hs : seen ++ [(dst, v)] = seen') {hist' : List (Nat × Heap)} (hh : hist ++ [(seen.length, H)] = hist') (k : planA L ops f0 Q n1 ds1 ds2 seen' tied hist' H' r) : planA L ops f0 Q n1 ds1 ds2 seen tied hist H (⟨dst, op, ty, pos, after, guard⟩ :: r) := by
  subst hs hh
  simp only [Bool.and_eq_true, List.all_eq_true] at hb
  refine .inr (.inr (.inl ⟨v, H', fun u => ?_, hb.1, fun k hk => .inl (hb.2 k hk), k⟩))
  rw [frm_at hds]
  exact .inr ⟨hg u, .inl ⟨hc u, h u⟩⟩
end
end Go.Proofs.Ytejpgmemohchaaa.Vm
