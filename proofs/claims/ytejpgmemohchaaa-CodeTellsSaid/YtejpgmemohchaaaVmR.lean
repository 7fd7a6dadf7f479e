/- Regions whose order is drawn: each operation is shown from what must stand ahead of it alone; then all orders end alike. -/
import Derived.Test.YtejpgmemohchaaaVmQ
set_option linter.unusedVariables false
set_option linter.unusedSimpArgs false
namespace Go.Proofs.Ytejpgmemohchaaa.Vm
open Go

variable {L : Lang} {H : Heap} {Q : DPost}
def StepTo (L : Lang) (ops : Array Oper) (f : Fr) (H : Heap) (o : Oper) (v : D) : Prop :=
  (guardD ops f o = some false ∧ v = .tuple []) ∨ (guardD ops f o = some true ∧
   ((callOf L f o.op = none ∧ (opD L f H o.op = some (v, H) ∨ (∃ d H', opD L f H o.op = some (d, H') ∧ H'.take H.length = H ∧ Snap (fun r => H.length ≤ r) H' d v) ∨ ∃ d H', opD L f H o.op = some (d, H') ∧ Shift H H' d H v)) ∨
    ∃ g args, callOf L f o.op = some (g, args) ∧ ((CallsV L g args H fun r H' => r = .ret v ∧ H' = H) ∨ ExtV L g args H v)))
theorem StepTo.step {ops : Array Oper} {f : Fr} {o : Oper} {v : D} {K : Fr → Heap → Prop} (h : StepTo L ops f H o v) (k : K (f.put o.dst v) H) : stepD L ops Q o f H K := by
  unfold stepD
  rcases h with ⟨hg, rfl⟩ | ⟨hg, h⟩
  · rw [hg]
    exact ⟨(fun h => nomatch h), fun _ => k⟩
  · rw [hg]
    refine ⟨fun _ => ?_, (fun h => nomatch h)⟩
    unfold runD
    rcases h with ⟨hc, h⟩ | ⟨g, args, hc, h⟩
    · rw [hc]
      rcases h with h | ⟨d, H', h1, h2, h3⟩ | ⟨d, H', h1, h2⟩
      · exact .inl ⟨v, H, h, k⟩
      · exact .inr (.inl ⟨d, H', v, h1, h2, h3, k⟩)
      · exact .inr (.inr (.inl ⟨d, H', v, H, h1, h2, k⟩))
    · rw [hc]
      rcases h with h | h
      · refine .inl (h.mono fun r H' hr => ?_)
        obtain ⟨rfl, rfl⟩ := hr
        exact k
      · exact .inr (.inl ⟨v, h, k⟩)

def dstsOf : List Oper → List Nat
  | [] => []
  | o :: r => match o.dst with
    | some t => t :: dstsOf r
    | none => dstsOf r
def mixF (f0 u : Fr) (ds : List Nat) : Fr := fun t => if ds.contains t then u t else f0 t
/-- What is known from what must stand ahead: the values of operands, and of guards. -/
def wkF (seen : List (Option Nat × D)) : List Edge → Fr → Fr
  | [], f => f
  | { on := k, ground := .data } :: r, f => wkF seen r (match seen[k]? with
    | some (t, v) => f.put t v
    | none => f)
  | { on := k, ground := .guard } :: r, f => wkF seen r (match seen[k]? with
    | some (t, v) => f.put t v
    | none => f)
  | _ :: r, f => wkF seen r f
def finF : List Oper → List D → Fr → Fr
  | o :: r, v :: vs, f => finF r vs (f.put o.dst v)
  | _, _, f => f
def finS : List (Option Nat × D) → Fr → Fr
  | (t, v) :: r, f => finS r (f.put t v)
  | [], f => f
/-- The first n1 operations stand ahead of all others: they may read what the others write over. -/
def planD (L : Lang) (ops : Array Oper) (f0 : Fr) (H : Heap) (Q : DPost) (n1 : Nat) (ds1 ds2 : List Nat) : List (Option Nat × D) → List Oper → Prop
  | seen, [] => Q .normal (finS seen f0) H
  | seen, o :: r => ∃ v, (∀ u, StepTo L ops (wkF seen o.after.toList (mixF f0 u (if seen.length < n1 then ds1 else ds2))) H o v) ∧ planD L ops f0 H Q n1 ds1 ds2 (seen ++ [(o.dst, v)]) r
def seenOf (l : List Oper) (ws : List D) : List (Option Nat × D) := (l.zip ws).map fun p => (p.1.dst, p.2)
theorem fin_same : ∀ (l : List Oper) (ws : List D) (f : Fr), finS (seenOf l ws) f = finF l ws f
  | [], ws, f => by cases ws <;> rfl
  | o :: l, [], f => rfl
  | o :: l, v :: ws, f => fin_same l ws _
def isAssign : Op → Bool
  | .assign _ => true
  | _ => false
def firstAssign (ops : Array Oper) : Nat := ops.toList.findIdx fun o => isAssign o.op
def planOk (ops : Array Oper) (n1 : Nat) : Bool := (List.range ops.size).all (fun j => decide (j < n1) || ((ops[j]?).map fun o => (List.range n1).all fun i => o.after.toList.any fun e => e.on == i && Region.binds .any e).getD true) && decide (dstsOf ops.toList).Nodup && (List.range ops.size).all fun i => ((ops[i]?).map fun o => o.after.toList.all fun e => !Region.binds .any e || decide (e.on < i)).getD true

theorem mem_dsts {l : List Oper} {j : Nat} {o : Oper} {t : Nat} (h : l[j]? = some o) (ht : o.dst = some t) : t ∈ dstsOf l := by
  induction l generalizing j with
  | nil => simp at h
  | cons x l ih =>
    cases j with
    | zero =>
      obtain rfl : x = o := by simpa using h
      simp [dstsOf, ht]
    | succ j =>
      have := ih (by simpa using h)
      unfold dstsOf
      split
      · exact List.mem_cons_of_mem _ this
      · exact this
theorem dst_of_mem {l : List Oper} {t : Nat} (ht : t ∈ dstsOf l) : ∃ (j : Nat) (o : Oper), l[j]? = some o ∧ o.dst = some t := by
  induction l with
  | nil => simp [dstsOf] at ht
  | cons x l ih =>
    unfold dstsOf at ht
    split at ht
    · rename_i y hy
      rcases List.mem_cons.1 ht with rfl | ht
      · exact ⟨0, x, rfl, hy⟩
      · obtain ⟨j, o, h1, h2⟩ := ih ht
        exact ⟨j + 1, o, by simpa using h1, h2⟩
    · obtain ⟨j, o, h1, h2⟩ := ih ht
      exact ⟨j + 1, o, by simpa using h1, h2⟩
theorem dst_one {l : List Oper} (hn : (dstsOf l).Nodup) {i j : Nat} {o p : Oper} {t : Nat} (hi : l[i]? = some o) (hj : l[j]? = some p) (ho : o.dst = some t) (hp : p.dst = some t) : i = j := by
  induction l generalizing i j with
  | nil => simp at hi
  | cons x l ih =>
    have hn' : (dstsOf l).Nodup := by
      unfold dstsOf at hn
      split at hn
      · exact (List.nodup_cons.1 hn).2
      · exact hn
    cases i with
    | zero =>
      obtain rfl : x = o := by simpa using hi
      cases j with
      | zero => rfl
      | succ j =>
        simp only [dstsOf, ho, List.nodup_cons] at hn
        exact absurd (mem_dsts (by simpa using hj) hp) hn.1
    | succ i =>
      cases j with
      | zero =>
        obtain rfl : x = p := by simpa using hj
        simp only [dstsOf, hp, List.nodup_cons] at hn
        exact absurd (mem_dsts (by simpa using hi) ho) hn.1
      | succ j => exact congrArg (· + 1) (ih hn' (by simpa using hi) (by simpa using hj))
theorem fin_get {l : List Oper} (hn : (dstsOf l).Nodup) : ∀ (vs : List D) (f : Fr), vs.length = l.length → (∀ t, t ∉ dstsOf l → finF l vs f t = f t) ∧ ∀ (j : Nat) (o : Oper) (v : D) (t : Nat), l[j]? = some o → vs[j]? = some v → o.dst = some t → finF l vs f t = v := by
  induction l with
  | nil => exact fun vs f h => ⟨fun t _ => by cases vs <;> rfl, fun j o v t h => by simp at h⟩
  | cons x l ih =>
    intro vs f hl
    have hn' : (dstsOf l).Nodup := by
      unfold dstsOf at hn
      split at hn
      · exact (List.nodup_cons.1 hn).2
      · exact hn
    cases vs with
    | nil => simp at hl
    | cons v vs =>
      obtain ⟨h1, h2⟩ := ih hn' vs (f.put x.dst v) (by simpa using hl)
      refine ⟨fun t ht => ?_, fun j o w t hj hw ht => ?_⟩
      · have ht' : t ∉ dstsOf l := fun hm => ht (by
          unfold dstsOf
          split
          · exact List.mem_cons_of_mem _ hm
          · exact hm)
        simp only [finF]
        rw [h1 t ht']
        cases hd : x.dst with
        | none => rfl
        | some y =>
          have : t ≠ y := fun he => ht (by simp [dstsOf, hd, he])
          simp [Fr.put, this]
      · cases j with
        | zero =>
          obtain rfl : x = o := by simpa using hj
          obtain rfl : v = w := by simpa using hw
          simp only [dstsOf, ht, List.nodup_cons] at hn
          simp only [finF]
          rw [h1 t hn.1, ht]
          simp [Fr.put]
        | succ j => exact h2 j o w t (by simpa using hj) (by simpa using hw) ht

theorem plan_vals {ops : Array Oper} {f0 : Fr} {n1 : Nat} {ds1 ds2 : List Nat} : ∀ (r pre : List Oper) (vs : List D), pre ++ r = ops.toList → vs.length = pre.length → planD L ops f0 H Q n1 ds1 ds2 (seenOf pre vs) r →
    ∃ ws : List D, ws.length = ops.size ∧ ws.take vs.length = vs ∧ (∀ (i : Nat) (o : Oper) (v : D), vs.length ≤ i → ops[i]? = some o → ws[i]? = some v → ∀ u, StepTo L ops (wkF (seenOf (ops.toList.take i) (ws.take i)) o.after.toList (mixF f0 u (if i < n1 then ds1 else ds2))) H o v) ∧ Q .normal (finF ops.toList ws f0) H
  | [], pre, vs, hp, hl, h => by
    have hs : vs.length = ops.size := by rw [hl, ← Array.length_toList, ← hp]; simp
    rw [List.append_nil] at hp
    refine ⟨vs, hs, List.take_length, fun i o v hi ho => ?_, ?_⟩
    · have := (Array.getElem?_eq_some_iff.1 ho).1
      omega
    · rw [← hp, ← fin_same]
      exact h
  | o :: r, pre, vs, hp, hl, h => by
    obtain ⟨v, h1, h2⟩ := h
    have hlen : (seenOf pre vs).length = vs.length := by simp [seenOf, hl]
    rw [hlen] at h1
    have hseen : seenOf pre vs ++ [(o.dst, v)] = seenOf (pre ++ [o]) (vs ++ [v]) := by
      simp only [seenOf, List.zip_append hl.symm, List.map_append]
      rfl
    rw [hseen] at h2
    obtain ⟨ws, w1, w2, w3, w4⟩ := plan_vals r (pre ++ [o]) (vs ++ [v]) (by simpa using hp) (by simp [hl]) h2
    have hv : ws.take vs.length = vs := by
      have := congrArg (List.take vs.length) w2
      rw [List.take_take] at this
      simpa using this
    refine ⟨ws, w1, hv, fun i p w hi ho hw => ?_, w4⟩
    by_cases he : i = vs.length
    · subst he
      have ho' : ops.toList[vs.length]? = some o := by rw [← hp, hl]; simp
      rw [Array.getElem?_toList] at ho'
      rw [ho] at ho'
      obtain rfl := Option.some.inj ho'
      have hw' : ws[vs.length]? = some v := by
        have := congrArg (fun l : List D => l[vs.length]?) w2
        simpa using this
      rw [hw] at hw'
      obtain rfl := Option.some.inj hw'
      rw [hv, ← hp, hl, List.take_left]
      rw [hl] at h1
      exact h1
    · exact w3 i p w (by simp; omega) ho hw

/-- How the frame stands when some have been carried out. -/
def Stands (ops : Array Oper) (f0 : Fr) (ws : List D) (listed : Array Bool) (f : Fr) : Prop :=
  (∀ t, t ∉ dstsOf ops.toList → f t = f0 t) ∧ (∀ (j : Nat) (o : Oper) (v : D) (t : Nat), ops[j]? = some o → ws[j]? = some v → o.dst = some t → listed.getD j false = true → f t = v) ∧
  (∀ (j : Nat) (o : Oper) (t : Nat), ops[j]? = some o → o.dst = some t → listed.getD j false = false → f t = f0 t) ∧
  ∀ (j : Nat) (o : Oper), ops[j]? = some o → listed.getD j false = true → ∀ e, e ∈ o.after → Region.binds .any e = true → listed.getD e.on false = true

theorem wk_same {f : Fr} {seen : List (Option Nat × D)} : ∀ (es : List Edge), (∀ e, e ∈ es → Region.binds .any e = true → ∀ (v : D) (t : Nat), seen[e.on]? = some (some t, v) → f t = v) → wkF seen es f = f
  | [], _ => rfl
  | ⟨k, g⟩ :: r, h => by
    have hr := wk_same r fun e he => h e (List.mem_cons_of_mem _ he)
    have hf : Region.binds .any ⟨k, g⟩ = true → (match seen[k]? with
      | some (t, v) => f.put t v
      | none => f) = f := fun hb => by
      split
      · rename_i t v hv
        cases t with
        | none => rfl
        | some t =>
          funext x
          simp only [Fr.put]
          split
          · rename_i hx; rw [hx]; exact (h ⟨k, g⟩ (List.mem_cons_self ..) hb v t hv).symm
          · rfl
      · rfl
    cases g with
    | data => unfold wkF; rw [hf rfl]; exact hr
    | guard => unfold wkF; rw [hf rfl]; exact hr
    | chain => unfold wkF; exact hr
    | phase => unfold wkF; exact hr
    | textOnly d => unfold wkF; exact hr
    | gcOnly d => unfold wkF; exact hr

theorem any_plan {ops : Array Oper} {f0 : Fr} {n1 : Nat} (hc : planOk ops n1 = true) (h : planD L ops f0 H Q n1 (dstsOf (ops.toList.take n1)) (dstsOf ops.toList) [] ops.toList) : anyD L ops Q ops.size (Array.replicate ops.size false) f0 H := by
  simp only [planOk, Bool.and_eq_true, decide_eq_true_eq] at hc
  obtain ⟨⟨hlate, hn⟩, hb⟩ := hc
  have late : ∀ (j : Nat) (o : Oper), ops[j]? = some o → n1 ≤ j → ∀ i, i < n1 → ∃ e, e ∈ o.after ∧ e.on = i ∧ Region.binds .any e = true := fun j o ho hj i hi => by
    have hjn : j < ops.size := (Array.getElem?_eq_some_iff.1 ho).1
    have := List.all_eq_true.1 hlate j (List.mem_range.2 hjn)
    rw [ho] at this
    have hnj : ¬ j < n1 := by omega
    simp only [decide_eq_false hnj, Bool.false_or, Option.map_some, Option.getD_some, List.all_eq_true, List.mem_range] at this
    obtain ⟨e, he, h2⟩ := List.any_eq_true.1 (this i hi)
    simp only [Bool.and_eq_true, beq_iff_eq] at h2
    exact ⟨e, by simpa using he, h2.1, h2.2⟩
  obtain ⟨ws, w1, _, w3, w4⟩ := plan_vals (ops := ops) ops.toList [] [] rfl rfl h
  have back : ∀ (i : Nat) (o : Oper), ops[i]? = some o → ∀ e, e ∈ o.after → Region.binds .any e = true → e.on < i := fun i o ho e he hbd => by
    have hi : i < ops.size := (Array.getElem?_eq_some_iff.1 ho).1
    have := List.all_eq_true.1 hb i (List.mem_range.2 hi)
    rw [ho] at this
    simp only [Option.map_some, Option.getD_some, List.all_eq_true] at this
    have := this e (by simpa using he)
    rw [hbd] at this
    simpa using this
  have done : ∀ listed : Array Bool, listed.size = ops.size → Region.ready .any ops listed = [] → ∀ j, j < ops.size → listed.getD j false = true := by
    intro listed hls hr j
    induction j using Nat.strongRecOn with
    | ind j ih =>
      intro hj
      have hnot : j ∉ Region.ready .any ops listed := by rw [hr]; simp
      rw [mem_ready] at hnot
      cases hv : listed.getD j false with
      | true => rfl
      | false =>
        refine absurd ⟨?_, ops[j], Array.getElem?_eq_getElem hj, fun e he hbd => ?_⟩ hnot
        · have hj' : j < listed.size := by omega
          rw [Array.getD_eq_getD_getElem?, Array.getElem?_eq_getElem hj'] at hv ⊢
          exact hv
        · have hlt := back j ops[j] (Array.getElem?_eq_getElem hj) e he hbd
          exact ih e.on hlt (by omega)
  have fin : ∀ (listed : Array Bool) (f : Fr), listed.size = ops.size → Stands ops f0 ws listed f → Region.ready .any ops listed = [] → Q .normal f H := by
    intro listed f hls hst hr
    have hd := done listed hls hr
    have : f = finF ops.toList ws f0 := by
      obtain ⟨g1, g2⟩ := fin_get hn ws f0 (by simpa using w1)
      funext t
      by_cases ht : t ∈ dstsOf ops.toList
      · have := dst_of_mem ht
        obtain ⟨j, o, h1, h2⟩ := this
        have hj : j < ops.size := by simpa using (List.getElem?_eq_some_iff.1 h1).1
        have hw : ws[j]? = some (ws[j]'(by omega)) := List.getElem?_eq_getElem (by omega)
        rw [g2 j o _ t h1 hw h2]
        exact hst.2.1 j o _ t (by rw [← Array.getElem?_toList]; exact h1) hw h2 (hd j hj)
      · rw [g1 t ht]; exact hst.1 t ht
    rw [this]
    exact w4
  have key : ∀ (n : Nat) (listed : Array Bool) (f : Fr), listed.size = ops.size → listed.toList.count false ≤ n → Stands ops f0 ws listed f → anyD L ops Q n listed f H := by
    intro n
    induction n with
    | zero =>
      intro listed f hls hcnt hst
      have hr : Region.ready .any ops listed = [] := by
        refine List.eq_nil_iff_forall_not_mem.2 fun i hi => ?_
        rw [mem_ready] at hi
        obtain ⟨h0, o, ho, _⟩ := hi
        have hi' : i < listed.size := by rw [hls]; exact (Array.getElem?_eq_some_iff.1 ho).1
        rw [Array.getD_eq_getD_getElem?, Array.getElem?_eq_getElem hi'] at h0
        have : false ∈ listed.toList := by
          rw [← (show listed[i] = false from h0)]
          simp
        have := List.count_pos_iff.2 this
        omega
      exact ⟨hr, fin listed f hls hst hr⟩
    | succ n ih =>
      intro listed f hls hcnt hst
      refine ⟨fin listed f hls hst, fun i hi => ?_⟩
      rw [mem_ready] at hi
      obtain ⟨h0, o, ho, hall⟩ := hi
      have hin : i < ops.size := (Array.getElem?_eq_some_iff.1 ho).1
      have hil : i < listed.size := by omega
      have hli : listed[i] = false := by
        rw [Array.getD_eq_getD_getElem?, Array.getElem?_eq_getElem hil] at h0
        exact h0
      have hw : ws[i]? = some (ws[i]'(by omega)) := List.getElem?_eq_getElem (by omega)
      have hstep := w3 i o _ (Nat.zero_le _) ho hw f
      have hmix : mixF f0 f (if i < n1 then dstsOf (ops.toList.take n1) else dstsOf ops.toList) = f := by
        by_cases hin1 : i < n1
        · rw [if_pos hin1]
          funext t
          unfold mixF
          split
          · rfl
          · rename_i ht
            by_cases hd : t ∈ dstsOf ops.toList
            · obtain ⟨j, p, h1, h2⟩ := dst_of_mem hd
              have hjn : n1 ≤ j := by
                rcases Nat.lt_or_ge j n1 with hj | hj
                · exact absurd (mem_dsts (l := ops.toList.take n1) (j := j) (by rw [List.getElem?_take, if_pos hj]; exact h1) h2) (by simpa using ht)
                · exact hj
              have hp : ops[j]? = some p := by rw [← Array.getElem?_toList]; exact h1
              obtain ⟨e, e1, e2, e3⟩ := late j p hp hjn i hin1
              refine (hst.2.2.1 j p t hp h2 ?_).symm
              cases hl : listed.getD j false with
              | false => rfl
              | true =>
                have := hst.2.2.2 j p hp hl e e1 e3
                rw [e2, Array.getD_eq_getD_getElem?, Array.getElem?_eq_getElem hil] at this
                exact absurd (hli.symm.trans this) (by simp)
            · exact (hst.1 t hd).symm
        · rw [if_neg hin1]
          funext t
          unfold mixF
          split
          · rfl
          · rename_i ht; exact (hst.1 t (by simpa using ht)).symm
      rw [hmix, wk_same] at hstep
      · unfold atD
        rw [ho]
        refine hstep.step (ih _ _ (by simpa using hls) ?_ ⟨fun t ht => ?_, fun j p v t hj hv hd hl => ?_, fun j p t hj hd hl => ?_, fun j p hj hl e he hb => ?_⟩)
        · rw [Array.toList_setIfInBounds]
          have h1 : (listed.toList.set i true).count false + 1 = listed.toList.count false := by
            have hil' : i < listed.toList.length := by simpa using hil
            have := List.count_set (a := true) (b := false) (l := listed.toList) (i := i) hil'
            have hp : 0 < listed.toList.count false := List.count_pos_iff.2 (by rw [← hli]; simp)
            have e1 : (listed.toList[i] == false) = true := by simp [hli]
            rw [this, e1, if_pos rfl, if_neg (by decide)]
            omega
          omega
        · cases hd : o.dst with
          | none => exact hst.1 t ht
          | some y =>
            have : t ≠ y := fun he => ht (he ▸ mem_dsts (by rw [Array.getElem?_toList]; exact ho) hd)
            simp only [Fr.put, if_neg this]
            exact hst.1 t ht
        · by_cases hij : j = i
          · subst hij
            rw [ho] at hj
            obtain rfl := Option.some.inj hj
            rw [hw] at hv
            obtain rfl := Option.some.inj hv
            rw [hd]
            simp [Fr.put]
          · have hl' : listed.getD j false = true := by rwa [getD_set_ne false (Ne.symm hij)] at hl
            have hold := hst.2.1 j p v t hj hv hd hl'
            cases hd' : o.dst with
            | none => exact hold
            | some y =>
              have : t ≠ y := fun he => hij (dst_one hn (by rw [Array.getElem?_toList]; exact hj) (by rw [Array.getElem?_toList]; exact ho) hd (he ▸ hd'))
              simp only [Fr.put, if_neg this]
              exact hold
        · have hij : j ≠ i := fun he => by
            subst he
            rw [Array.getD_eq_getD_getElem?, Array.getElem?_setIfInBounds_self_of_lt hil] at hl
            cases hl
          have hl' : listed.getD j false = false := by rwa [getD_set_ne false (Ne.symm hij)] at hl
          have hold := hst.2.2.1 j p t hj hd hl'
          cases hd' : o.dst with
          | none => exact hold
          | some y =>
            have : t ≠ y := fun he => hij (dst_one hn (by rw [Array.getElem?_toList]; exact hj) (by rw [Array.getElem?_toList]; exact ho) hd (he ▸ hd'))
            simp only [Fr.put, if_neg this]
            exact hold
        · by_cases hij : j = i
          · subst hij
            rw [ho] at hj
            obtain rfl := Option.some.inj hj
            exact getD_set_true (hall e (by simpa using he) hb)
          · have hl' : listed.getD j false = true := by rwa [getD_set_ne false (Ne.symm hij)] at hl
            exact getD_set_true (hst.2.2.2 j p hj hl' e he hb)
      · intro e he hbind v t hs
        have hl := hall e (by simpa using he) hbind
        simp only [seenOf, List.getElem?_map, Option.map_eq_some_iff, Prod.mk.injEq] at hs
        obtain ⟨⟨p, x⟩, hz, hd, rfl⟩ := hs
        obtain ⟨hp, hx⟩ := List.getElem?_zip_eq_some.1 hz
        rw [List.getElem?_take] at hp hx
        split at hp
        · rename_i hlt
          rw [if_pos hlt] at hx
          exact hst.2.1 e.on p x t (by rw [← Array.getElem?_toList]; exact hp) hx hd hl
        · cases hp
  refine key _ _ f0 (by simp) (by simp [List.count_replicate]) ⟨fun _ _ => rfl, fun j o v t hj hv hd hl => ?_, fun _ _ _ _ _ _ => rfl, fun j o hj hl => ?_⟩
  · simp only [Array.getD_eq_getD_getElem?, Array.getElem?_replicate] at hl
    split at hl <;> simp at hl
  · simp only [Array.getD_eq_getD_getElem?, Array.getElem?_replicate] at hl
    split at hl <;> simp at hl

theorem w_draw {f : Fr} {id : Nat} {ops : Array Oper} {n1 : Nat} {ds1 ds2 : List Nat} (hn : firstAssign ops = n1) (hc : planOk ops n1 = true) (hd1 : dstsOf (ops.toList.take n1) = ds1) (hd2 : dstsOf ops.toList = ds2) (h : planD L ops f H Q n1 ds1 ds2 [] ops.toList) : wpD L (.region id ops true) f H Q := by
  subst hd1 hd2
  exact any_plan hc h

variable {ops : Array Oper} {f0 : Fr} {n1 : Nat} {ds1 ds2 ds : List Nat} {seen seen' : List (Option Nat × D)} {r : List Oper} {dst : Option Nat} {op : Op} {ty : TypeId} {pos : String} {after : Array Edge} {guard : Option (Nat × Bool)}
theorem p_end {F : Fr} (hF : finS seen f0 = F) (k : Q .normal F H) : planD L ops f0 H Q n1 ds1 ds2 seen [] := by
  subst hF
  exact k
theorem p_val {v : D} (hds : (if seen.length < n1 then ds1 else ds2) = ds) (hg : ∀ u, guardD ops (wkF seen after.toList (mixF f0 u ds)) ⟨dst, op, ty, pos, after, guard⟩ = some true) (h : ∀ u, valD L (wkF seen after.toList (mixF f0 u ds)) H op = some v) (hs : seen ++ [(dst, v)] = seen') (k : planD L ops f0 H Q n1 ds1 ds2 seen' r) : planD L ops f0 H Q n1 ds1 ds2 seen (⟨dst, op, ty, pos, after, guard⟩ :: r) := by
  subst hs hds
  exact ⟨v, fun u => .inr ⟨hg u, .inl ⟨(valD_op (h u)).1, .inl (valD_op (h u)).2⟩⟩, k⟩
theorem p_frz {d v : D} {H' : Heap} (hds : (if seen.length < n1 then ds1 else ds2) = ds) (hg : ∀ u, guardD ops (wkF seen after.toList (mixF f0 u ds)) ⟨dst, op, ty, pos, after, guard⟩ = some true) (hc : ∀ u, callOf L (wkF seen after.toList (mixF f0 u ds)) op = none) (h : ∀ u, opD L (wkF seen after.toList (mixF f0 u ds)) H op = some (d, H')) (ht : H'.take H.length = H) (hs : Snap (fun r => H.length ≤ r) H' d v)
    (hv : seen ++ [(dst, v)] = seen') (k : planD L ops f0 H Q n1 ds1 ds2 seen' r) : planD L ops f0 H Q n1 ds1 ds2 seen (⟨dst, op, ty, pos, after, guard⟩ :: r) := by
  subst hv hds
  exact ⟨v, fun u => .inr ⟨hg u, .inl ⟨hc u, .inr (.inl ⟨d, H', h u, ht, hs⟩)⟩⟩, k⟩
theorem p_fn (fine : Fine L) {g : FuncId} {args : List D} {v : D} (hds : (if seen.length < n1 then ds1 else ds2) = ds) (hg : ∀ u, guardD ops (wkF seen after.toList (mixF f0 u ds)) ⟨dst, op, ty, pos, after, guard⟩ = some true) (hc : ∀ u, callOf L (wkF seen after.toList (mixF f0 u ds)) op = some (g, args)) (h : Ans L g args v) (hf : ∀ a, a ∈ args → Flat a)
    (hv : seen ++ [(dst, v)] = seen') (k : planD L ops f0 H Q n1 ds1 ds2 seen' r) : planD L ops f0 H Q n1 ds1 ds2 seen (⟨dst, op, ty, pos, after, guard⟩ :: r) := by
  subst hv hds
  exact ⟨v, fun u => .inr ⟨hg u, .inr ⟨g, args, hc u, .inl ((ans_use fine h hf).mono fun r H' hr => ⟨hr.2, hr.1⟩)⟩⟩, k⟩
theorem p_no (hds : (if seen.length < n1 then ds1 else ds2) = ds) (hg : ∀ u, guardD ops (wkF seen after.toList (mixF f0 u ds)) ⟨dst, op, ty, pos, after, guard⟩ = some false) (hv : seen ++ [(dst, .tuple [])] = seen') (k : planD L ops f0 H Q n1 ds1 ds2 seen' r) : planD L ops f0 H Q n1 ds1 ds2 seen (⟨dst, op, ty, pos, after, guard⟩ :: r) := by
  subst hv hds
  exact ⟨.tuple [], fun u => .inl ⟨hg u, rfl⟩, k⟩
theorem p_if {j t : Nat} {want b : Bool} {x : D} (hds : (if seen.length < n1 then ds1 else ds2) = ds) (_ho : guard = some (j, want)) (_hj : (ops[j]?).bind (·.dst) = some t) (_hf : ∀ u, (wkF seen after.toList (mixF f0 u ds)) t = x) (_hb : x = .bool b)
    (k1 : b = want → planD L ops f0 H Q n1 ds1 ds2 seen (⟨dst, op, ty, pos, after, guard⟩ :: r)) (k0 : b = (!want) → planD L ops f0 H Q n1 ds1 ds2 seen (⟨dst, op, ty, pos, after, guard⟩ :: r)) : planD L ops f0 H Q n1 ds1 ds2 seen (⟨dst, op, ty, pos, after, guard⟩ :: r) := by
  by_cases hb : b = want
  · exact k1 hb
  · exact k0 (by cases b <;> cases want <;> simp_all)

@[simp] theorem mix_at (f0 u : Fr) (ds : List Nat) (t : Nat) : mixF f0 u ds t = if ds.contains t then u t else f0 t := rfl
attribute [simp] wkF finS dstsOf
end Go.Proofs.Ytejpgmemohchaaa.Vm
