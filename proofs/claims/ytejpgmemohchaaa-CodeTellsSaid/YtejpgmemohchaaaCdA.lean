/- Numbers, requests, states as bytes: plain facts. -/
set_option linter.unusedVariables false
namespace Go.Proofs.Ytejpgmemohchaaa.Vm

/-! ### numbers -/
def zz (n : Int) : Nat := if 0 ≤ n then 2 * n.toNat else 2 * (-n - 1).toNat + 1
def unzz (u : Nat) : Int := if u % 2 = 1 then -((u / 2 : Nat) : Int) - 1 else ((u / 2 : Nat) : Int)
theorem unzz_zz (n : Int) : unzz (zz n) = n := by
  unfold unzz zz
  split <;> split <;> omega
def I64 (n : Int) : Prop := -9223372036854775808 ≤ n ∧ n < 9223372036854775808
theorem zz_lt {n : Int} (h : I64 n) : zz n < 18446744073709551616 := by
  unfold I64 at h
  unfold zz
  split <;> omega
theorem zz_inj {a b : Int} (h : zz a = zz b) : a = b := by
  rw [← unzz_zz a, h, unzz_zz]

/-- Groups of seven bits, the lowest first. -/
def grp : Nat → Nat → List UInt8
  | 0, _ => []
  | k + 1, u => if u < 128 then [UInt8.ofNat u] else UInt8.ofNat (u % 128 + 128) :: grp k (u / 128)
def num (n : Int) : List UInt8 := grp 10 (zz n)

/-- Reads groups: how many may be, how far they are shifted, what was read; what was read, and what is left. -/
def ungrp : Nat → Nat → Nat → List UInt8 → Option (Nat × List UInt8)
  | 0, _, _, _ => none
  | _ + 1, _, _, [] => none
  | k + 1, s, u, c :: l => if c.toNat < 128 then some (u + c.toNat * 2 ^ s, l) else ungrp k (s + 7) (u + (c.toNat - 128) * 2 ^ s) l

theorem grp_ne (k u : Nat) : grp (k + 1) u ≠ [] := by
  unfold grp
  split <;> simp
theorem grp_len (k u : Nat) : (grp k u).length ≤ k := by
  induction k generalizing u with
  | zero => simp [grp]
  | succ k ih =>
    unfold grp
    split
    · simp
    · have := ih (u / 128)
      simp; omega
theorem ungrp_grp (k s v u : Nat) (l : List UInt8) (h : u < 2 ^ (7 * k)) (hk : 0 < k) : ungrp k s v (grp k u ++ l) = some (v + u * 2 ^ s, l) := by
  induction k generalizing s v u with
  | zero => omega
  | succ k ih =>
    unfold grp
    split
    · rename_i hu
      simp only [List.cons_append, List.nil_append, ungrp]
      have e : (UInt8.ofNat u).toNat = u := by simp; omega
      rw [e, if_pos hu]
    · rename_i hu
      simp only [List.cons_append, ungrp]
      have e : (UInt8.ofNat (u % 128 + 128)).toNat = u % 128 + 128 := by simp; omega
      rw [e, if_neg (by omega)]
      have hk' : 0 < k := by
        rcases Nat.eq_zero_or_pos k with h0 | h0
        · subst h0; simp at h; omega
        · exact h0
      have hlt : u / 128 < 2 ^ (7 * k) := by
        rw [Nat.mul_add, Nat.pow_add] at h
        omega
      rw [ih _ _ _ hlt hk']
      have e2 : 2 ^ (s + 7) = 2 ^ s * 128 := by rw [Nat.pow_add]
      have e3 : u * 2 ^ s = (u % 128) * 2 ^ s + (u / 128) * (2 ^ s * 128) := by
        have e4 : u = u % 128 + 128 * (u / 128) := by omega
        calc u * 2 ^ s = (u % 128 + 128 * (u / 128)) * 2 ^ s := by rw [← e4]
          _ = (u % 128) * 2 ^ s + (u / 128) * (2 ^ s * 128) := by rw [Nat.add_mul, Nat.mul_comm 128 (u / 128), Nat.mul_assoc, Nat.mul_comm 128 (2 ^ s)]
      rw [e2, show u % 128 + 128 - 128 = u % 128 from by omega, e3, Nat.add_assoc]

def unnum (l : List UInt8) : Option (Int × List UInt8) := (ungrp 10 0 0 l).map fun p => (unzz p.1, p.2)
theorem unnum_num {n : Int} (h : I64 n) (l : List UInt8) : unnum (num n ++ l) = some (n, l) := by
  unfold unnum num
  rw [ungrp_grp 10 0 0 (zz n) l (Nat.lt_of_lt_of_le (zz_lt h) (by decide)) (by decide)]
  simp [unzz_zz]
theorem num_ne (n : Int) : num n ≠ [] := grp_ne 9 (zz n)
theorem num_len (n : Int) : (num n).length ≤ 10 := grp_len 10 (zz n)
theorem num_pos (n : Int) : 0 < (num n).length := List.length_pos_iff.2 (num_ne n)
theorem num_inj {a b : Int} (ha : I64 a) (hb : I64 b) (l m : List UInt8) (h : num a ++ l = num b ++ m) : a = b ∧ l = m := by
  have h1 := unnum_num ha l
  rw [h, unnum_num hb m] at h1
  have := Option.some.inj h1
  exact ⟨(Prod.mk.inj this).1.symm, (Prod.mk.inj this).2.symm⟩

/-! ### lists, requests, states -/
def tru (b : Bool) : List UInt8 := [if b then 1 else 0]
def lay {α : Type} (f : α → List UInt8) (l : List α) : List UInt8 := num l.length ++ l.flatMap f
structure Rq where
  endpoint : Int
  by_ : Int
  kind : Int
  creds : Bool
  heads : Bool
  forged : Bool
  hops : Int
  sent : List Int
  deriving DecidableEq
structure St where
  doc : Int
  owned : Bool
  jar : List Int
  changed : List Int
  knows : List Bool
  stolen : List Bool
  ran : List Bool
  pending : List Rq
  deriving DecidableEq
def rqB (r : Rq) : List UInt8 := num r.endpoint ++ (num r.by_ ++ (num r.kind ++ (num r.hops ++ (tru r.creds ++ (tru r.heads ++ (tru r.forged ++ lay num r.sent))))))
def stB (s : St) : List UInt8 := num s.doc ++ (tru s.owned ++ (lay num s.jar ++ (lay num s.changed ++ (lay tru s.knows ++ (lay tru s.stolen ++ (lay tru s.ran ++ lay rqB s.pending))))))
structure Rq.In (r : Rq) : Prop where
  endpoint : I64 r.endpoint
  by_ : I64 r.by_
  kind : I64 r.kind
  hops : I64 r.hops
  sent : ∀ n, n ∈ r.sent → I64 n
  len : r.sent.length < 1501
structure St.In (s : St) : Prop where
  doc : I64 s.doc
  jar : ∀ n, n ∈ s.jar → I64 n
  changed : ∀ n, n ∈ s.changed → I64 n
  pending : ∀ r, r ∈ s.pending → r.In
  jarL : s.jar.length < 1501
  changedL : s.changed.length < 1501
  knowsL : s.knows.length < 1501
  stolenL : s.stolen.length < 1501
  ranL : s.ran.length < 1501
  pendingL : s.pending.length < 1501

/-- Bytes tell one thing: whatever follows. -/
def Told {α : Type} (f : α → List UInt8) (P : α → Prop) : Prop := ∀ a b l m, P a → P b → f a ++ l = f b ++ m → a = b ∧ l = m
theorem told_num : Told num I64 := fun a b l m ha hb h => num_inj ha hb l m h
theorem told_tru : Told tru (fun _ => True) := fun a b l m _ _ h => by
  cases a <;> cases b <;> simp [tru] at h <;> simp [h]
theorem told_flat {α : Type} {f : α → List UInt8} {P : α → Prop} (hf : Told f P) : ∀ (x y : List α) (l m : List UInt8), x.length = y.length → (∀ a, a ∈ x → P a) → (∀ a, a ∈ y → P a) → x.flatMap f ++ l = y.flatMap f ++ m → x = y ∧ l = m
  | [], [], _, _, _, _, _, h => ⟨rfl, by simpa using h⟩
  | a :: x, b :: y, l, m, hl, hx, hy, h => by
    simp only [List.flatMap_cons, List.append_assoc] at h
    obtain ⟨rfl, h2⟩ := hf a b _ _ (hx a (List.mem_cons_self ..)) (hy b (List.mem_cons_self ..)) h
    obtain ⟨rfl, h3⟩ := told_flat hf x y l m (by simpa using hl) (fun a ha => hx a (List.mem_cons_of_mem _ ha)) (fun a ha => hy a (List.mem_cons_of_mem _ ha)) h2
    exact ⟨rfl, h3⟩
theorem i64_len {n : Nat} (h : n < 1501) : I64 n := ⟨by omega, by omega⟩
theorem told_lay {α : Type} {f : α → List UInt8} {P : α → Prop} (hf : Told f P) : Told (lay f) (fun x => (∀ a, a ∈ x → P a) ∧ x.length < 1501) := by
  intro x y l m hx hy h
  simp only [lay, List.append_assoc] at h
  obtain ⟨h1, h2⟩ := num_inj (i64_len hx.2) (i64_len hy.2) _ _ h
  exact told_flat hf x y l m (by omega) hx.1 hy.1 h2
theorem told_rq : Told rqB Rq.In := by
  intro a b l m ha hb h
  simp only [rqB, List.append_assoc] at h
  obtain ⟨e1, h⟩ := told_num _ _ _ _ ha.endpoint hb.endpoint h
  obtain ⟨e2, h⟩ := told_num _ _ _ _ ha.by_ hb.by_ h
  obtain ⟨e3, h⟩ := told_num _ _ _ _ ha.kind hb.kind h
  obtain ⟨e4, h⟩ := told_num _ _ _ _ ha.hops hb.hops h
  obtain ⟨e5, h⟩ := told_tru _ _ _ _ trivial trivial h
  obtain ⟨e6, h⟩ := told_tru _ _ _ _ trivial trivial h
  obtain ⟨e7, h⟩ := told_tru _ _ _ _ trivial trivial h
  obtain ⟨e8, h⟩ := told_lay told_num _ _ _ _ ⟨ha.sent, ha.len⟩ ⟨hb.sent, hb.len⟩ h
  cases a; cases b
  simp_all
theorem told_st : Told stB St.In := by
  intro a b l m ha hb h
  simp only [stB, List.append_assoc] at h
  obtain ⟨e1, h⟩ := told_num _ _ _ _ ha.doc hb.doc h
  obtain ⟨e2, h⟩ := told_tru _ _ _ _ trivial trivial h
  obtain ⟨e3, h⟩ := told_lay told_num _ _ _ _ ⟨ha.jar, ha.jarL⟩ ⟨hb.jar, hb.jarL⟩ h
  obtain ⟨e4, h⟩ := told_lay told_num _ _ _ _ ⟨ha.changed, ha.changedL⟩ ⟨hb.changed, hb.changedL⟩ h
  obtain ⟨e5, h⟩ := told_lay told_tru _ _ _ _ ⟨fun _ _ => trivial, ha.knowsL⟩ ⟨fun _ _ => trivial, hb.knowsL⟩ h
  obtain ⟨e6, h⟩ := told_lay told_tru _ _ _ _ ⟨fun _ _ => trivial, ha.stolenL⟩ ⟨fun _ _ => trivial, hb.stolenL⟩ h
  obtain ⟨e7, h⟩ := told_lay told_tru _ _ _ _ ⟨fun _ _ => trivial, ha.ranL⟩ ⟨fun _ _ => trivial, hb.ranL⟩ h
  obtain ⟨e8, h⟩ := told_lay told_rq _ _ _ _ ⟨ha.pending, ha.pendingL⟩ ⟨hb.pending, hb.pendingL⟩ h
  cases a; cases b
  simp_all
theorem stB_inj {a b : St} (ha : a.In) (hb : b.In) : stB a = stB b ↔ a = b := by
  refine ⟨fun h => (told_st a b [] [] ha hb (by simpa using h)).1, fun h => by rw [h]⟩
theorem rqB_inj {a b : Rq} (ha : a.In) (hb : b.In) : rqB a = rqB b ↔ a = b := by
  refine ⟨fun h => (told_rq a b [] [] ha hb (by simpa using h)).1, fun h => by rw [h]⟩
end Go.Proofs.Ytejpgmemohchaaa.Vm
