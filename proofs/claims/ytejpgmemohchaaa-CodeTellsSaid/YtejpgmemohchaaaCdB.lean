/- Reading what was laid into bytes: plain facts. -/
import Derived.Test.YtejpgmemohchaaaCdA
set_option linter.unusedVariables false
namespace Go.Proofs.Ytejpgmemohchaaa.Vm

structure Rd where
  b : List UInt8
  bad : Bool
  deriving DecidableEq
def nextR (r : Rd) : UInt8 × Rd := match r.b with
  | [] => (0, ⟨[], true⟩)
  | c :: l => (c, ⟨l, r.bad⟩)
/-- A group laid into what was read. -/
def orG (u s : Nat) (c : UInt8) : Nat := u ||| ((c.toNat % 128) * 2 ^ s % 18446744073709551616)
def numL : Nat → Nat → Nat → Rd → Int × Rd
  | 0, _, _, r => (0, ⟨r.b, true⟩)
  | k + 1, s, u, r => if (nextR r).1.toNat < 128 then (unzz (orG u s (nextR r).1), (nextR r).2) else numL k (s + 7) (orG u s (nextR r).1) (nextR r).2
def numR (r : Rd) : Int × Rd := numL 10 0 0 r
def truR (r : Rd) : Bool × Rd := ((nextR r).1 == 1, (nextR r).2)
def rowR {α : Type} (read : Rd → α × Rd) : Nat → Rd → List α → List α × Rd
  | 0, r, out => (out, r)
  | k + 1, r, out => if r.bad then ([], r) else rowR read k (read r).2 (out ++ [(read r).1])
def markR (n : Int) (r : Rd) : Rd := if n < 0 ∨ (r.b.length : Int) < n then ⟨r.b, true⟩ else r
def listR {α : Type} (read : Rd → α × Rd) (r : Rd) : List α × Rd := rowR read (numR r).1.toNat (markR (numR r).1 (numR r).2) []
def rqR (r : Rd) : Rq × Rd :=
  let a := numR r
  let b := numR a.2
  let c := numR b.2
  let d := numR c.2
  let e := truR d.2
  let f := truR e.2
  let g := truR f.2
  let h := listR numR g.2
  ({ endpoint := a.1, by_ := b.1, kind := c.1, hops := d.1, creds := e.1, heads := f.1, forged := g.1, sent := h.1 }, h.2)
def stR (r : Rd) : St × Rd :=
  let a := numR r
  let b := truR a.2
  let c := listR numR b.2
  let d := listR numR c.2
  let e := listR truR d.2
  let f := listR truR e.2
  let g := listR truR f.2
  let h := listR rqR g.2
  ({ doc := a.1, owned := b.1, jar := c.1, changed := d.1, knows := e.1, stolen := f.1, ran := g.1, pending := h.1 }, h.2)
def zeroSt : St := { doc := 0, owned := false, jar := [], changed := [], knows := [], stolen := [], ran := [], pending := [] }
def readSt (l : List UInt8) : St × Bool := if (stR ⟨l, false⟩).2.bad || !(stB (stR ⟨l, false⟩).1 == l) then (zeroSt, false) else ((stR ⟨l, false⟩).1, true)

theorem numL_cons (k s u : Nat) (c : UInt8) (l : List UInt8) (bad : Bool) : numL (k + 1) s u ⟨c :: l, bad⟩ = if c.toNat < 128 then (unzz (orG u s c), ⟨l, bad⟩) else numL k (s + 7) (orG u s c) ⟨l, bad⟩ := rfl
/-! ### what was laid is read as it was -/
theorem orG_lt {u s : Nat} (c : UInt8) (h : u < 18446744073709551616) : orG u s c < 18446744073709551616 := by
  unfold orG
  exact Nat.or_lt_two_pow (n := 64) h (Nat.mod_lt _ (by decide))
theorem orG_add {u s : Nat} {c : UInt8} (hu : u < 2 ^ s) (hc : (c.toNat % 128) * 2 ^ s < 18446744073709551616) : orG u s c = u + (c.toNat % 128) * 2 ^ s := by
  unfold orG
  rw [Nat.mod_eq_of_lt hc, Nat.or_comm, Nat.mul_comm, Nat.add_comm, ← Nat.two_pow_add_eq_or_of_lt hu]
theorem numL_grp (k s v u : Nat) (l : List UInt8) (bad : Bool) (h : u < 2 ^ (7 * k)) (hk : 0 < k) (hv : v < 2 ^ s) (ht : v + u * 2 ^ s < 18446744073709551616) :
    numL k s v ⟨grp k u ++ l, bad⟩ = (unzz (v + u * 2 ^ s), ⟨l, bad⟩) := by
  induction k generalizing s v u with
  | zero => omega
  | succ k ih =>
    unfold grp
    split
    · rename_i hu
      have e : (UInt8.ofNat u).toNat = u := by simp; omega
      rw [List.cons_append, List.nil_append, numL_cons, if_pos (by rw [e]; exact hu), orG_add hv (by rw [e, Nat.mod_eq_of_lt hu]; omega), e, Nat.mod_eq_of_lt hu]
    · rename_i hu
      have e : (UInt8.ofNat (u % 128 + 128)).toNat = u % 128 + 128 := by simp; omega
      have hm : (u % 128 + 128) % 128 = u % 128 := by omega
      rw [List.cons_append, numL_cons]
      have hk' : 0 < k := by
        rcases Nat.eq_zero_or_pos k with h0 | h0
        · subst h0; simp at h; omega
        · exact h0
      have hlt : u / 128 < 2 ^ (7 * k) := by
        rw [Nat.mul_add, Nat.pow_add] at h
        omega
      have e3 : u * 2 ^ s = (u % 128) * 2 ^ s + (u / 128) * (2 ^ s * 128) := by
        have e4 : u = u % 128 + 128 * (u / 128) := by omega
        calc u * 2 ^ s = (u % 128 + 128 * (u / 128)) * 2 ^ s := by rw [← e4]
          _ = (u % 128) * 2 ^ s + (u / 128) * (2 ^ s * 128) := by rw [Nat.add_mul, Nat.mul_comm 128 (u / 128), Nat.mul_assoc, Nat.mul_comm 128 (2 ^ s)]
      have h7 : 2 ^ (s + 7) = 2 ^ s * 128 := by rw [Nat.pow_add]
      have hb : (u % 128) * 2 ^ s ≤ 127 * 2 ^ s := Nat.mul_le_mul_right _ (by omega)
      rw [if_neg (by rw [e]; omega), orG_add hv (by rw [e, hm]; omega), e, hm]
      rw [ih (s + 7) _ _ hlt hk' (by rw [h7]; omega) (by rw [h7]; omega), h7, e3, Nat.add_assoc]
def Reads {α : Type} (f : α → List UInt8) (P : α → Prop) (read : Rd → α × Rd) : Prop := ∀ x l, P x → read ⟨f x ++ l, false⟩ = (x, ⟨l, false⟩)
theorem reads_num : Reads num I64 numR := by
  intro n l hn
  unfold numR num
  rw [numL_grp 10 0 0 (zz n) l false (Nat.lt_of_lt_of_le (zz_lt hn) (by decide)) (by decide) (by decide) (by have := zz_lt hn; simpa using this)]
  simp [unzz_zz]
theorem reads_tru : Reads tru (fun _ => True) truR := by
  intro b l _
  cases b <;> simp [tru, truR, nextR]
theorem reads_row {α : Type} {f : α → List UInt8} {P : α → Prop} {read : Rd → α × Rd} (h : Reads f P read) : ∀ (x : List α) (l : List UInt8) (out : List α), (∀ a, a ∈ x → P a) →
    rowR read x.length ⟨x.flatMap f ++ l, false⟩ out = (out ++ x, ⟨l, false⟩)
  | [], l, out, _ => by simp [rowR]
  | a :: x, l, out, hx => by
    simp only [List.flatMap_cons, List.append_assoc, List.length_cons, rowR, Bool.false_eq_true, if_false]
    rw [h a _ (hx a (List.mem_cons_self ..))]
    simp only
    rw [reads_row h x l _ fun a ha => hx a (List.mem_cons_of_mem _ ha)]
    simp
theorem flat_len {α : Type} {f : α → List UInt8} (hf : ∀ a, 0 < (f a).length) : ∀ (x : List α) (l : List UInt8), x.length ≤ (x.flatMap f ++ l).length
  | [], l => Nat.zero_le _
  | a :: x, l => by
    have h1 := flat_len hf x l
    have h2 := hf a
    simp only [List.flatMap_cons, List.append_assoc, List.length_append, List.length_cons] at *
    omega
theorem reads_list {α : Type} {f : α → List UInt8} {P : α → Prop} {read : Rd → α × Rd} (h : Reads f P read) (hf : ∀ a, 0 < (f a).length) : Reads (lay f) (fun x => (∀ a, a ∈ x → P a) ∧ x.length < 1501) (listR read) := by
  intro x l hx
  have hn := reads_num (x.length : Int) (x.flatMap f ++ l) (i64_len hx.2)
  unfold listR lay
  rw [List.append_assoc, hn]
  have hl := flat_len hf x l
  simp only [markR]
  rw [if_neg (by omega)]
  simp only [Int.toNat_natCast]
  rw [reads_row h x l [] hx.1]
  simp
theorem tru_pos (b : Bool) : 0 < (tru b).length := by simp [tru]
theorem rqB_pos (r : Rq) : 0 < (rqB r).length := by
  have := num_pos r.endpoint
  simp only [rqB, List.length_append]
  omega
theorem reads_rq : Reads rqB Rq.In rqR := by
  intro r l hr
  simp only [rqR, rqB, List.append_assoc]
  rw [reads_num _ _ hr.endpoint]
  simp only
  rw [reads_num _ _ hr.by_]
  simp only
  rw [reads_num _ _ hr.kind]
  simp only
  rw [reads_num _ _ hr.hops]
  simp only
  rw [reads_tru _ _ trivial]
  simp only
  rw [reads_tru _ _ trivial]
  simp only
  rw [reads_tru _ _ trivial]
  simp only
  rw [reads_list reads_num num_pos _ _ ⟨hr.sent, hr.len⟩]
theorem reads_st : Reads stB St.In stR := by
  intro s l hs
  simp only [stR, stB, List.append_assoc]
  rw [reads_num _ _ hs.doc]
  simp only
  rw [reads_tru _ _ trivial]
  simp only
  rw [reads_list reads_num num_pos _ _ ⟨hs.jar, hs.jarL⟩]
  simp only
  rw [reads_list reads_num num_pos _ _ ⟨hs.changed, hs.changedL⟩]
  simp only
  rw [reads_list reads_tru tru_pos _ _ ⟨fun _ _ => trivial, hs.knowsL⟩]
  simp only
  rw [reads_list reads_tru tru_pos _ _ ⟨fun _ _ => trivial, hs.stolenL⟩]
  simp only
  rw [reads_list reads_tru tru_pos _ _ ⟨fun _ _ => trivial, hs.ranL⟩]
  simp only
  rw [reads_list reads_rq rqB_pos _ _ ⟨hs.pending, hs.pendingL⟩]
theorem readSt_of {s : St} (h : s.In) : readSt (stB s) = (s, true) := by
  have := reads_st s [] h
  rw [List.append_nil] at this
  simp [readSt, this]

/-! ### what is read is within bounds -/
def Makes {α : Type} (P : α → Prop) (read : Rd → α × Rd) : Prop := ∀ r : Rd, r.b.length < 1501 → P (read r).1 ∧ (read r).2.b.length ≤ r.b.length
theorem next_len (r : Rd) : (nextR r).2.b.length ≤ r.b.length := by
  unfold nextR
  split <;> rename_i h <;> simp [h]
theorem unzz_in {u : Nat} (h : u < 18446744073709551616) : I64 (unzz u) := by
  unfold I64 unzz
  split <;> constructor <;> omega
theorem makes_numL : ∀ (k s u : Nat) (r : Rd), u < 18446744073709551616 → I64 (numL k s u r).1 ∧ (numL k s u r).2.b.length ≤ r.b.length
  | 0, s, u, r, h => ⟨⟨by simp [numL], by simp [numL]⟩, Nat.le_refl _⟩
  | k + 1, s, u, r, h => by
    unfold numL
    split
    · exact ⟨unzz_in (orG_lt _ h), next_len r⟩
    · have := makes_numL k (s + 7) (orG u s (nextR r).1) (nextR r).2 (orG_lt _ h)
      exact ⟨this.1, Nat.le_trans this.2 (next_len r)⟩
theorem makes_num : Makes I64 numR := fun r _ => makes_numL 10 0 0 r (by decide)
theorem makes_tru : Makes (fun _ => True) truR := fun r _ => ⟨trivial, next_len r⟩
theorem makes_row {α : Type} {P : α → Prop} {read : Rd → α × Rd} (h : Makes P read) : ∀ (k : Nat) (r : Rd) (out : List α), r.b.length < 1501 → (∀ a, a ∈ out → P a) →
    (∀ a, a ∈ (rowR read k r out).1 → P a) ∧ (rowR read k r out).1.length ≤ out.length + k ∧ (rowR read k r out).2.b.length ≤ r.b.length
  | 0, r, out, _, ho => ⟨ho, Nat.le_refl _, Nat.le_refl _⟩
  | k + 1, r, out, hr, ho => by
    unfold rowR
    split
    · exact ⟨fun a ha => (by cases ha), Nat.zero_le _, Nat.le_refl _⟩
    · obtain ⟨h1, h2⟩ := h r hr
      obtain ⟨h3, h4, h5⟩ := makes_row h k (read r).2 (out ++ [(read r).1]) (Nat.lt_of_le_of_lt h2 hr) (fun a ha => by
        rcases List.mem_append.1 ha with ha | ha
        · exact ho a ha
        · exact List.mem_singleton.1 ha ▸ h1)
      refine ⟨h3, ?_, Nat.le_trans h5 h2⟩
      simp only [List.length_append, List.length_singleton] at h4
      omega
theorem rowR_bad {α : Type} {read : Rd → α × Rd} (k : Nat) (r : Rd) (h : r.bad = true) : rowR read k r [] = ([], r) := by
  cases k <;> simp [rowR, h]
theorem makes_list {α : Type} {P : α → Prop} {read : Rd → α × Rd} (h : Makes P read) : Makes (fun x : List α => (∀ a, a ∈ x → P a) ∧ x.length < 1501) (listR read) := by
  intro r hr
  obtain ⟨_, h2⟩ := makes_num r hr
  unfold listR markR
  split
  · rw [rowR_bad _ _ rfl]
    exact ⟨⟨fun a ha => (by cases ha), by simp⟩, h2⟩
  · rename_i hn
    obtain ⟨h3, h4, h5⟩ := makes_row h (numR r).1.toNat (numR r).2 [] (Nat.lt_of_le_of_lt h2 hr) (fun a ha => by cases ha)
    refine ⟨⟨h3, ?_⟩, Nat.le_trans h5 h2⟩
    simp only [List.length_nil] at h4
    omega
theorem makes_rq : Makes Rq.In rqR := by
  intro r h0
  obtain ⟨a1, a2⟩ := makes_num r h0
  obtain ⟨b1, b2⟩ := makes_num (numR r).2 (by omega)
  obtain ⟨c1, c2⟩ := makes_num (numR (numR r).2).2 (by omega)
  obtain ⟨d1, d2⟩ := makes_num (numR (numR (numR r).2).2).2 (by omega)
  obtain ⟨_, e2⟩ := makes_tru (numR (numR (numR (numR r).2).2).2).2 (by omega)
  obtain ⟨_, f2⟩ := makes_tru (truR (numR (numR (numR (numR r).2).2).2).2).2 (by omega)
  obtain ⟨_, g2⟩ := makes_tru (truR (truR (numR (numR (numR (numR r).2).2).2).2).2).2 (by omega)
  obtain ⟨h1, h2⟩ := makes_list makes_num (truR (truR (truR (numR (numR (numR (numR r).2).2).2).2).2).2).2 (by omega)
  exact ⟨⟨a1, b1, c1, d1, h1.1, h1.2⟩, by simp only [rqR]; omega⟩
theorem makes_st : Makes St.In stR := by
  intro r h0
  obtain ⟨a1, a2⟩ := makes_num (r) (by omega)
  obtain ⟨a, e0⟩ : ∃ x, numR (r) = x := ⟨_, rfl⟩
  rw [e0] at a1 a2
  obtain ⟨b1, b2⟩ := makes_tru (a.2) (by omega)
  obtain ⟨b, e1⟩ : ∃ x, truR (a.2) = x := ⟨_, rfl⟩
  rw [e1] at b2
  obtain ⟨c1, c2⟩ := makes_list makes_num (b.2) (by omega)
  obtain ⟨c, e2⟩ : ∃ x, listR numR (b.2) = x := ⟨_, rfl⟩
  rw [e2] at c1 c2
  obtain ⟨d1, d2⟩ := makes_list makes_num (c.2) (by omega)
  obtain ⟨d, e3⟩ : ∃ x, listR numR (c.2) = x := ⟨_, rfl⟩
  rw [e3] at d1 d2
  obtain ⟨e1', e2'⟩ := makes_list makes_tru (d.2) (by omega)
  obtain ⟨e, e4⟩ : ∃ x, listR truR (d.2) = x := ⟨_, rfl⟩
  rw [e4] at e1' e2'
  obtain ⟨f1, f2⟩ := makes_list makes_tru (e.2) (by omega)
  obtain ⟨f, e5⟩ : ∃ x, listR truR (e.2) = x := ⟨_, rfl⟩
  rw [e5] at f1 f2
  obtain ⟨g1, g2⟩ := makes_list makes_tru (f.2) (by omega)
  obtain ⟨g, e6⟩ : ∃ x, listR truR (f.2) = x := ⟨_, rfl⟩
  rw [e6] at g1 g2
  obtain ⟨h1, h2⟩ := makes_list makes_rq (g.2) (by omega)
  obtain ⟨h, e7⟩ : ∃ x, listR rqR (g.2) = x := ⟨_, rfl⟩
  rw [e7] at h1 h2
  have e : stR r = ({ doc := a.1, owned := b.1, jar := c.1, changed := d.1, knows := e.1, stolen := f.1, ran := g.1, pending := h.1 }, h.2) := by
    subst e0 e1 e2 e3 e4 e5 e6 e7
    rfl
  rw [e]
  exact ⟨⟨a1, c1.1, d1.1, h1.1, c1.2, d1.2, e1'.2, f1.2, g1.2, h1.2⟩, by simp only; omega⟩
/-- Bytes are a state's just if some state has them. -/
theorem readSt_iff {l : List UInt8} (hl : l.length < 1501) : (readSt l).2 = true ↔ ∃ s : St, s.In ∧ stB s = l := by
  constructor
  · intro h
    unfold readSt at h
    split at h
    · cases h
    · rename_i hb
      simp only [Bool.or_eq_true, not_or, Bool.not_eq_true, Bool.not_eq_false', beq_iff_eq] at hb
      exact ⟨_, (makes_st ⟨l, false⟩ hl).1, hb.2⟩
  · rintro ⟨s, hs, rfl⟩
    rw [readSt_of hs]
theorem readSt_back {l : List UInt8} : (readSt l).2 = true → stB (readSt l).1 = l := by
  intro h
  unfold readSt at h ⊢
  split at h
  · cases h
  · rename_i hb
    simp only [Bool.or_eq_true, not_or, Bool.not_eq_true, Bool.not_eq_false', beq_iff_eq] at hb
    rw [if_neg (by simp [hb.1, hb.2])]
    exact hb.2
theorem readSt_no {l : List UInt8} : (readSt l).2 = false → (readSt l).1 = zeroSt := by
  intro h
  unfold readSt at h ⊢
  split at h
  · rename_i hb; rw [if_pos hb]
  · cases h
end Go.Proofs.Ytejpgmemohchaaa.Vm
