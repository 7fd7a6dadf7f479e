/- The document's reading of bytes: plain facts. -/
import Derived.Test.YtejpgmemohchaaaCdB
set_option linter.unusedVariables false
namespace Go.Proofs.Ytejpgmemohchaaa.Vm

def numQL : Nat → Nat → Nat → Rd → Int × Rd
  | 0, _, _, r => (0, ⟨r.b, true⟩)
  | k + 1, s, u, ⟨[], _⟩ => (0, ⟨[], true⟩)
  | k + 1, s, u, ⟨c :: l, bad⟩ => if c.toNat < 128 then (unzz (orG u s c), ⟨l, bad⟩) else numQL k (s + 7) (orG u s c) ⟨l, bad⟩
def numQ (r : Rd) : Int × Rd := numQL 10 0 0 r
def truQ : Rd → Bool × Rd
  | ⟨[], _⟩ => (false, ⟨[], true⟩)
  | ⟨c :: l, bad⟩ => if 1 < c.toNat then (false, ⟨c :: l, true⟩) else (c == 1, ⟨l, bad⟩)
def rowQ {α : Type} (read : Rd → α × Rd) : Nat → Rd → List α → List α × Rd
  | 0, r, out => (out, r)
  | k + 1, r, out => if r.bad then (out, r) else rowQ read k (read r).2 (out ++ [(read r).1])
def manyQ (r : Rd) : Int × Rd := if (numQ r).1 < 0 ∨ ((numQ r).2.b.length : Int) < (numQ r).1 then (0, ⟨(numQ r).2.b, true⟩) else numQ r
def listQ {α : Type} (read : Rd → α × Rd) (r : Rd) : List α × Rd := rowQ read (manyQ r).1.toNat (manyQ r).2 []
def rqQ (r : Rd) : Rq × Rd :=
  let a := numQ r
  let b := numQ a.2
  let c := numQ b.2
  let d := numQ c.2
  let e := truQ d.2
  let f := truQ e.2
  let g := truQ f.2
  let h := listQ numQ g.2
  ({ endpoint := a.1, by_ := b.1, kind := c.1, hops := d.1, creds := e.1, heads := f.1, forged := g.1, sent := h.1 }, h.2)
def stQ (r : Rd) : St × Rd :=
  let a := numQ r
  let b := truQ a.2
  let c := listQ numQ b.2
  let d := listQ numQ c.2
  let e := listQ truQ d.2
  let f := listQ truQ e.2
  let g := listQ truQ f.2
  let h := listQ rqQ g.2
  ({ doc := a.1, owned := b.1, jar := c.1, changed := d.1, knows := e.1, stolen := f.1, ran := g.1, pending := h.1 }, h.2)
def refSt (l : List UInt8) : St × Bool := if (stQ ⟨l, false⟩).2.bad || !(stB (stQ ⟨l, false⟩).1 == l) then (zeroSt, false) else ((stQ ⟨l, false⟩).1, true)

theorem numQL_grp (k s v u : Nat) (l : List UInt8) (bad : Bool) (h : u < 2 ^ (7 * k)) (hk : 0 < k) (hv : v < 2 ^ s) (ht : v + u * 2 ^ s < 18446744073709551616) :
    numQL k s v ⟨grp k u ++ l, bad⟩ = numL k s v ⟨grp k u ++ l, bad⟩ := by
  induction k generalizing s v u with
  | zero => omega
  | succ k ih =>
    unfold grp
    split
    · rename_i hu
      have e : (UInt8.ofNat u).toNat = u := by simp; omega
      rw [List.cons_append, numL_cons, numQL, if_pos (by rw [e]; exact hu), if_pos (by rw [e]; exact hu)]
    · rename_i hu
      have e : (UInt8.ofNat (u % 128 + 128)).toNat = u % 128 + 128 := by simp; omega
      have hm : (u % 128 + 128) % 128 = u % 128 := by omega
      have hk' : 0 < k := by
        rcases Nat.eq_zero_or_pos k with h0 | h0
        · subst h0; simp at h; omega
        · exact h0
      have hlt : u / 128 < 2 ^ (7 * k) := by
        rw [Nat.mul_add, Nat.pow_add] at h
        omega
      have e3 : u * 2 ^ s = (u % 128) * 2 ^ s + (u / 128) * (2 ^ s * 128) := by
        have e4 : u = u % 128 + 128 * (u / 128) := by omega
        calc u * 2 ^ s = (u % 128 + 128 * (u / 128)) * 2 ^ s := by rw [← e4]
          _ = (u % 128) * 2 ^ s + (u / 128) * (2 ^ s * 128) := by rw [Nat.add_mul, Nat.mul_comm 128 (u / 128), Nat.mul_assoc, Nat.mul_comm 128 (2 ^ s)]
      have h7 : 2 ^ (s + 7) = 2 ^ s * 128 := by rw [Nat.pow_add]
      have hb : (u % 128) * 2 ^ s ≤ 127 * 2 ^ s := Nat.mul_le_mul_right _ (by omega)
      rw [List.cons_append, numL_cons, numQL, if_neg (by rw [e]; omega), if_neg (by rw [e]; omega), orG_add hv (by rw [e, hm]; omega), e, hm]
      exact ih (s + 7) _ _ hlt hk' (by rw [h7]; omega) (by rw [h7]; omega)
theorem reads_numQ : Reads num I64 numQ := by
  intro n l hn
  have := reads_num n l hn
  unfold numQ num
  unfold numR num at this
  rw [numQL_grp 10 0 0 (zz n) l false (Nat.lt_of_lt_of_le (zz_lt hn) (by decide)) (by decide) (by decide) (by have := zz_lt hn; simpa using this)]
  exact this
theorem reads_truQ : Reads tru (fun _ => True) truQ := by
  intro b l _
  cases b <;> simp [tru, truQ]
theorem reads_rowQ {α : Type} {f : α → List UInt8} {P : α → Prop} {read : Rd → α × Rd} (h : Reads f P read) : ∀ (x : List α) (l : List UInt8) (out : List α), (∀ a, a ∈ x → P a) →
    rowQ read x.length ⟨x.flatMap f ++ l, false⟩ out = (out ++ x, ⟨l, false⟩)
  | [], l, out, _ => by simp [rowQ]
  | a :: x, l, out, hx => by
    simp only [List.flatMap_cons, List.append_assoc, List.length_cons, rowQ, Bool.false_eq_true, if_false]
    rw [h a _ (hx a (List.mem_cons_self ..))]
    simp only
    rw [reads_rowQ h x l _ fun a ha => hx a (List.mem_cons_of_mem _ ha)]
    simp
theorem reads_listQ {α : Type} {f : α → List UInt8} {P : α → Prop} {read : Rd → α × Rd} (h : Reads f P read) (hf : ∀ a, 0 < (f a).length) : Reads (lay f) (fun x => (∀ a, a ∈ x → P a) ∧ x.length < 1501) (listQ read) := by
  intro x l hx
  have hn := reads_numQ (x.length : Int) (x.flatMap f ++ l) (i64_len hx.2)
  have hl := flat_len hf x l
  have hm : manyQ ⟨lay f x ++ l, false⟩ = ((x.length : Int), ⟨x.flatMap f ++ l, false⟩) := by
    unfold manyQ lay
    rw [List.append_assoc, hn]
    rw [if_neg (by simp only; omega)]
  unfold listQ
  rw [hm]
  simp only [Int.toNat_natCast]
  rw [reads_rowQ h x l [] hx.1]
  simp
theorem reads_rqQ : Reads rqB Rq.In rqQ := by
  intro r l hr
  simp only [rqQ, rqB, List.append_assoc]
  rw [reads_numQ _ _ hr.endpoint]
  simp only
  rw [reads_numQ _ _ hr.by_]
  simp only
  rw [reads_numQ _ _ hr.kind]
  simp only
  rw [reads_numQ _ _ hr.hops]
  simp only
  rw [reads_truQ _ _ trivial]
  simp only
  rw [reads_truQ _ _ trivial]
  simp only
  rw [reads_truQ _ _ trivial]
  simp only
  rw [reads_listQ reads_numQ num_pos _ _ ⟨hr.sent, hr.len⟩]
theorem reads_stQ : Reads stB St.In stQ := by
  intro s l hs
  simp only [stQ, stB, List.append_assoc]
  rw [reads_numQ _ _ hs.doc]
  simp only
  rw [reads_truQ _ _ trivial]
  simp only
  rw [reads_listQ reads_numQ num_pos _ _ ⟨hs.jar, hs.jarL⟩]
  simp only
  rw [reads_listQ reads_numQ num_pos _ _ ⟨hs.changed, hs.changedL⟩]
  simp only
  rw [reads_listQ reads_truQ tru_pos _ _ ⟨fun _ _ => trivial, hs.knowsL⟩]
  simp only
  rw [reads_listQ reads_truQ tru_pos _ _ ⟨fun _ _ => trivial, hs.stolenL⟩]
  simp only
  rw [reads_listQ reads_truQ tru_pos _ _ ⟨fun _ _ => trivial, hs.ranL⟩]
  simp only
  rw [reads_listQ reads_rqQ rqB_pos _ _ ⟨hs.pending, hs.pendingL⟩]
theorem refSt_of {s : St} (h : s.In) : refSt (stB s) = (s, true) := by
  have := reads_stQ s [] h
  rw [List.append_nil] at this
  simp [refSt, this]

theorem makes_numQL : ∀ (k s u : Nat) (r : Rd), u < 18446744073709551616 → I64 (numQL k s u r).1 ∧ (numQL k s u r).2.b.length ≤ r.b.length
  | 0, s, u, r, h => ⟨⟨by simp [numQL], by simp [numQL]⟩, Nat.le_refl _⟩
  | k + 1, s, u, ⟨[], _⟩, h => ⟨⟨by simp [numQL], by simp [numQL]⟩, Nat.le_refl _⟩
  | k + 1, s, u, ⟨c :: l, bad⟩, h => by
    unfold numQL
    split
    · exact ⟨unzz_in (orG_lt _ h), by simp⟩
    · have := makes_numQL k (s + 7) (orG u s c) ⟨l, bad⟩ (orG_lt _ h)
      exact ⟨this.1, Nat.le_trans this.2 (by simp)⟩
theorem makes_numQ : Makes I64 numQ := fun r _ => makes_numQL 10 0 0 r (by decide)
theorem makes_truQ : Makes (fun _ => True) truQ := fun r _ => ⟨trivial, by
  obtain ⟨b, bad⟩ := r
  cases b with
  | nil => simp [truQ]
  | cons c l =>
    simp only [truQ]
    split <;> simp⟩
theorem makes_rowQ {α : Type} {P : α → Prop} {read : Rd → α × Rd} (h : Makes P read) : ∀ (k : Nat) (r : Rd) (out : List α), r.b.length < 1501 → (∀ a, a ∈ out → P a) →
    (∀ a, a ∈ (rowQ read k r out).1 → P a) ∧ (rowQ read k r out).1.length ≤ out.length + k ∧ (rowQ read k r out).2.b.length ≤ r.b.length
  | 0, r, out, _, ho => ⟨ho, Nat.le_refl _, Nat.le_refl _⟩
  | k + 1, r, out, hr, ho => by
    unfold rowQ
    split
    · exact ⟨ho, Nat.le_add_right _ _, Nat.le_refl _⟩
    · obtain ⟨h1, h2⟩ := h r hr
      obtain ⟨h3, h4, h5⟩ := makes_rowQ h k (read r).2 (out ++ [(read r).1]) (Nat.lt_of_le_of_lt h2 hr) (fun a ha => by
        rcases List.mem_append.1 ha with ha | ha
        · exact ho a ha
        · exact List.mem_singleton.1 ha ▸ h1)
      refine ⟨h3, ?_, Nat.le_trans h5 h2⟩
      simp only [List.length_append, List.length_singleton] at h4
      omega
theorem makes_manyQ (r : Rd) (hr : r.b.length < 1501) : (manyQ r).2.b.length ≤ r.b.length ∧ (manyQ r).1.toNat < 1501 := by
  obtain ⟨_, h2⟩ := makes_numQ r hr
  unfold manyQ
  split
  · exact ⟨h2, by simp⟩
  · rename_i hn
    exact ⟨h2, by omega⟩
theorem makes_listQ {α : Type} {P : α → Prop} {read : Rd → α × Rd} (h : Makes P read) : Makes (fun x : List α => (∀ a, a ∈ x → P a) ∧ x.length < 1501) (listQ read) := by
  intro r hr
  obtain ⟨h1, h2⟩ := makes_manyQ r hr
  obtain ⟨h3, h4, h5⟩ := makes_rowQ h (manyQ r).1.toNat (manyQ r).2 [] (Nat.lt_of_le_of_lt h1 hr) (fun a ha => by cases ha)
  refine ⟨⟨h3, ?_⟩, Nat.le_trans h5 h1⟩
  simp only [List.length_nil, Nat.zero_add] at h4
  exact Nat.lt_of_le_of_lt h4 h2
theorem makes_rqQ : Makes Rq.In rqQ := by
  intro r h0
  obtain ⟨a1, a2⟩ := makes_numQ r h0
  obtain ⟨b1, b2⟩ := makes_numQ (numQ r).2 (by omega)
  obtain ⟨c1, c2⟩ := makes_numQ (numQ (numQ r).2).2 (by omega)
  obtain ⟨d1, d2⟩ := makes_numQ (numQ (numQ (numQ r).2).2).2 (by omega)
  obtain ⟨_, e2⟩ := makes_truQ (numQ (numQ (numQ (numQ r).2).2).2).2 (by omega)
  obtain ⟨_, f2⟩ := makes_truQ (truQ (numQ (numQ (numQ (numQ r).2).2).2).2).2 (by omega)
  obtain ⟨_, g2⟩ := makes_truQ (truQ (truQ (numQ (numQ (numQ (numQ r).2).2).2).2).2).2 (by omega)
  obtain ⟨h1, h2⟩ := makes_listQ makes_numQ (truQ (truQ (truQ (numQ (numQ (numQ (numQ r).2).2).2).2).2).2).2 (by omega)
  exact ⟨⟨a1, b1, c1, d1, h1.1, h1.2⟩, by simp only [rqQ]; omega⟩
theorem makes_stQ : Makes St.In stQ := by
  intro r h0
  obtain ⟨a1, a2⟩ := makes_numQ (r) (by omega)
  obtain ⟨a, e0⟩ : ∃ x, numQ (r) = x := ⟨_, rfl⟩
  rw [e0] at a1 a2
  obtain ⟨b1, b2⟩ := makes_truQ (a.2) (by omega)
  obtain ⟨b, e1⟩ : ∃ x, truQ (a.2) = x := ⟨_, rfl⟩
  rw [e1] at b2
  obtain ⟨c1, c2⟩ := makes_listQ makes_numQ (b.2) (by omega)
  obtain ⟨c, e2⟩ : ∃ x, listQ numQ (b.2) = x := ⟨_, rfl⟩
  rw [e2] at c1 c2
  obtain ⟨d1, d2⟩ := makes_listQ makes_numQ (c.2) (by omega)
  obtain ⟨d, e3⟩ : ∃ x, listQ numQ (c.2) = x := ⟨_, rfl⟩
  rw [e3] at d1 d2
  obtain ⟨e1', e2'⟩ := makes_listQ makes_truQ (d.2) (by omega)
  obtain ⟨e, e4⟩ : ∃ x, listQ truQ (d.2) = x := ⟨_, rfl⟩
  rw [e4] at e1' e2'
  obtain ⟨f1, f2⟩ := makes_listQ makes_truQ (e.2) (by omega)
  obtain ⟨f, e5⟩ : ∃ x, listQ truQ (e.2) = x := ⟨_, rfl⟩
  rw [e5] at f1 f2
  obtain ⟨g1, g2⟩ := makes_listQ makes_truQ (f.2) (by omega)
  obtain ⟨g, e6⟩ : ∃ x, listQ truQ (f.2) = x := ⟨_, rfl⟩
  rw [e6] at g1 g2
  obtain ⟨h1, h2⟩ := makes_listQ makes_rqQ (g.2) (by omega)
  obtain ⟨h, e7⟩ : ∃ x, listQ rqQ (g.2) = x := ⟨_, rfl⟩
  rw [e7] at h1 h2
  have e : stQ r = ({ doc := a.1, owned := b.1, jar := c.1, changed := d.1, knows := e.1, stolen := f.1, ran := g.1, pending := h.1 }, h.2) := by
    subst e0 e1 e2 e3 e4 e5 e6 e7
    rfl
  rw [e]
  exact ⟨⟨a1, c1.1, d1.1, h1.1, c1.2, d1.2, e1'.2, f1.2, g1.2, h1.2⟩, by simp only; omega⟩
/-- Bytes are a state's just if some state has them. -/
theorem refSt_iff {l : List UInt8} (hl : l.length < 1501) : (refSt l).2 = true ↔ ∃ s : St, s.In ∧ stB s = l := by
  constructor
  · intro h
    unfold refSt at h
    split at h
    · cases h
    · rename_i hb
      simp only [Bool.or_eq_true, not_or, Bool.not_eq_true, Bool.not_eq_false', beq_iff_eq] at hb
      exact ⟨_, (makes_stQ ⟨l, false⟩ hl).1, hb.2⟩
  · rintro ⟨s, hs, rfl⟩
    rw [refSt_of hs]
theorem refSt_back {l : List UInt8} : (refSt l).2 = true → stB (refSt l).1 = l := by
  intro h
  unfold refSt at h ⊢
  split at h
  · cases h
  · rename_i hb
    simp only [Bool.or_eq_true, not_or, Bool.not_eq_true, Bool.not_eq_false', beq_iff_eq] at hb
    rw [if_neg (by simp [hb.1, hb.2])]
    exact hb.2
theorem refSt_no {l : List UInt8} : (refSt l).2 = false → (refSt l).1 = zeroSt := by
  intro h
  unfold refSt at h ⊢
  split at h
  · rename_i hb; rw [if_pos hb]
  · cases h
end Go.Proofs.Ytejpgmemohchaaa.Vm
