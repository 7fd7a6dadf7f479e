/- How a context goes on: one block of the small heap is set anew, or a new one stands behind the others. -/
import Derived.Test.YtejpgmemohchaaaVmA
namespace Go.Proofs.Ytejpgmemohchaaa.Vm
open Go

def upd (f : Nat → Nat × Nat) (r : Nat) (m : Nat × Nat) : Nat → Nat × Nat := fun x => if x = r then m else f x
theorem upd_same {f : Nat → Nat × Nat} {r : Nat} {m : Nat × Nat} : upd f r m r = m := by simp [upd]
theorem upd_ne {f : Nat → Nat × Nat} {r x : Nat} {m : Nat × Nat} (h : x ≠ r) : upd f r m x = f x := by simp [upd, h]
def Blk.ro : Blk → Bool
  | .gone _ => false
  | .cells _ _ ro _ => ro
  | .map _ ro _ => ro

theorem Inv.not_im' {c : Cx} (h : Inv c) {r : Nat} {k : Blk} (hk : c.hp[r]? = some k) (ha : k.alive = true) (hro : k.ro = false) {b : Nat} (hb : k.at (c.mu r) b) : ¬ c.im b := by
  have hk' := h.blk r k hk
  cases k with
  | gone g => simp [Blk.alive] at ha
  | cells g sz ro xs => obtain ⟨_, _, _, _, _, _, _, _, _, h6, _⟩ := hk'; obtain rfl : (c.mu r).1 = b := hb; exact h6 hro
  | map g ro es =>
    obtain ⟨_, _, h6⟩ := hk'
    rcases hb with rfl | rfl
    · exact (h6 hro).1
    · exact (h6 hro).2
theorem Inv.not_im {c : Cx} (h : Inv c) {r : Nat} {k : Blk} (hk : c.hp[r]? = some k) (ha : k.alive = true) (hro : k.ro = false) : ¬ c.im (c.mu r).1 := by
  have hb := h.blk r k hk
  cases k with
  | gone g => simp [Blk.alive] at ha
  | cells g sz ro xs => obtain ⟨_, _, _, _, _, _, _, _, _, h6, _⟩ := hb; exact h6 hro
  | map g ro es => obtain ⟨_, _, h6⟩ := hb; exact (h6 hro).1

/-- What stays of a block when the small heap's block r is set anew. -/
def Stays (c : Cx) (r : Nat) (k0 k' : Blk) (m : Nat × Nat) (w' : World) : Prop :=
  (∀ g sz ro xs, k' = .cells g sz ro xs → g < k0.next → ∃ ro0 xs0, k0 = .cells g sz ro0 xs0 ∧ xs.length = xs0.length ∧ m = c.mu r ∧ bsize w' (c.mu r).1 = bsize c.w (c.mu r).1) ∧
  (∀ g ro es, k' = .map g ro es → g < k0.next → ∃ ro0 es0, k0 = .map g ro0 es0 ∧ m.1 = (c.mu r).1 ∧ spTag es = spTag es0)

def Cx.put (c : Cx) (r : Nat) (k : Blk) (m : Nat × Nat) (w : World) : Cx := { im := c.im, mu := upd c.mu r m, hp := c.hp.set r k, w := w }

theorem put_ok {c : Cx} (inv : Inv c) {r : Nat} {k0 k' : Blk} {m : Nat × Nat} {w' : World} (hk0 : c.hp[r]? = some k0) (hro : k0.ro = false)
    (hos : w'.os = c.w.os) (htape : w'.tape = c.w.tape) (hout : w'.output = c.w.output) (hsize : c.w.heap.size ≤ w'.heap.size)
    (hframe : ∀ b, b < c.w.heap.size → (k0.alive = true → ¬ k0.at (c.mu r) b) → w'.heap[b]? = c.w.heap[b]?)
    (hm : ∀ b, k'.alive = true → k'.at m b → (k0.alive = true ∧ k0.at (c.mu r) b) ∨ c.w.heap.size ≤ b) (hnext : k0.next ≤ k'.next) (hstay : Stays c r k0 k' m w')
    (hok : Le c (c.put r k' m w') → BlkOk (c.put r k' m w') r k') : Inv (c.put r k' m w') ∧ Le c (c.put r k' m w') := by
  have hr : r < c.hp.length := (List.getElem?_eq_some_iff.1 hk0).1
  have hset : ∀ x, (c.hp.set r k')[x]? = if x = r then some k' else c.hp[x]? := by
    intro x
    rw [List.getElem?_set]
    by_cases h : x = r
    · subst h; simp [hr]
    · simp [h, Ne.symm h]
  have hother : ∀ x k, x ≠ r → c.hp[x]? = some k → k.alive = true → ∀ b, k.at (c.mu x) b → w'.heap[b]? = c.w.heap[b]? := by
    intro x k hx hk ha b hb
    exact hframe _ ((inv.blk x k hk).atlt ha hb) fun h0 he => hx (inv.inj x r k k0 b hk hk0 ha h0 hb he)
  have le : Le c (c.put r k' m w') := by
    refine ⟨hos, htape, hout, hsize, by simp [Cx.put], fun b h => h, fun b hb => ?_, fun b h => .inl h, fun b hb => ?_, fun b hb hn => ?_, fun x hx => ?_, fun x g sz ro xs hx hg hy => ?_, fun x g ro es hx hg hy => ?_⟩
    · exact hframe b (inv.imlt b hb) fun h0 he => inv.not_im' hk0 h0 hro he hb
    · obtain ⟨x, k, h1, h2, h3⟩ := hb
      simp only [Cx.put] at h1 h3
      rw [hset] at h1
      by_cases hx : x = r
      · subst hx
        rw [upd_same] at h3
        simp only [if_true, Option.some.injEq] at h1
        subst h1
        rcases hm b h2 h3 with ⟨ha, hm⟩ | hm
        · exact .inl ⟨x, k0, hk0, ha, hm⟩
        · exact .inr hm
      · rw [if_neg hx] at h1
        rw [upd_ne hx] at h3
        exact .inl ⟨x, k, h1, h2, h3⟩
    · exact hframe b hb fun h0 he => hn ⟨r, k0, hk0, h0, he⟩
    · simp only [ng, Cx.put, hset]
      by_cases h : x = r
      · subst h; simpa [hk0] using hnext
      · simp [h]
    · simp only [Cx.put] at hy
      rw [hset] at hy
      by_cases h : x = r
      · subst h
        simp only [if_true, Option.some.injEq] at hy
        simp only [ng, hk0, Option.map_some, Option.getD_some] at hg
        obtain ⟨ro0, xs0, e1, e2, e3, e4⟩ := hstay.1 g sz ro xs hy hg
        exact ⟨ro0, xs0, hk0.trans (congrArg some e1), e2, by simp only [Cx.put, upd_same]; exact e3, e4⟩
      · rw [if_neg h] at hy
        refine ⟨ro, xs, hy, rfl, by simp only [Cx.put]; exact upd_ne h, ?_⟩
        simp only [Cx.put, bsize, hother x _ h hy rfl _ rfl]
    · simp only [Cx.put] at hy
      rw [hset] at hy
      by_cases h : x = r
      · subst h
        simp only [if_true, Option.some.injEq] at hy
        simp only [ng, hk0, Option.map_some, Option.getD_some] at hg
        obtain ⟨ro0, es0, e1, e3, e4⟩ := hstay.2 g ro es hy hg
        exact ⟨ro0, es0, hk0.trans (congrArg some e1), by simp only [Cx.put, upd_same]; exact e3, e4⟩
      · rw [if_neg h] at hy
        exact ⟨ro, es, hy, by simp only [Cx.put]; rw [upd_ne h], rfl⟩
  refine ⟨⟨fun b hb => Nat.lt_of_lt_of_le (inv.imlt b hb) hsize, fun x k hk => ?_, fun x y kx ky b hx hy ax ay bx by' => ?_⟩, le⟩
  · simp only [Cx.put] at hk
    rw [hset] at hk
    by_cases h : x = r
    · subst h
      simp only [if_true, Option.some.injEq] at hk
      exact hk ▸ hok le
    · rw [if_neg h] at hk
      exact (inv.blk x k hk).mono le (by simp only [Cx.put]; exact upd_ne h) (fun ha => hother x k h hk ha) (fun _ _ _ => Iff.rfl)
  · simp only [Cx.put] at hx hy bx by'
    rw [hset] at hx hy
    by_cases h1 : x = r
    · by_cases h2 : y = r
      · rw [h1, h2]
      · rw [if_neg h2] at hy
        subst h1
        rw [upd_same] at bx
        rw [upd_ne h2] at by'
        simp only [if_true, Option.some.injEq] at hx
        subst hx
        rcases hm b ax bx with ⟨ha, hm⟩ | hm
        · exact inv.inj x y k0 ky b hk0 hy ha ay hm by'
        · have := (inv.blk y ky hy).atlt ay by'
          omega
    · rw [if_neg h1] at hx
      rw [upd_ne h1] at bx
      by_cases h2 : y = r
      · subst h2
        rw [upd_same] at by'
        simp only [if_true, Option.some.injEq] at hy
        subst hy
        rcases hm b ay by' with ⟨ha, hm⟩ | hm
        · exact inv.inj x y kx k0 b hx hk0 ax ha bx hm
        · have := (inv.blk x kx hx).atlt ax bx
          omega
      · rw [if_neg h2] at hy
        rw [upd_ne h2] at by'
        exact inv.inj x y kx ky b hx hy ax ay bx by'

/-- A place more. -/
def Cx.more (c : Cx) : Cx := { c with hp := c.hp ++ [.gone 0] }
theorem more_get {h : Heap} {x : Nat} {k : Blk} (hk : (h ++ [Blk.gone 0])[x]? = some k) (ha : k.alive = true) : h[x]? = some k := by
  rw [List.getElem?_append] at hk
  split at hk
  · exact hk
  · rename_i hx
    have : x - h.length = 0 := by
      rcases Nat.eq_zero_or_pos (x - h.length) with h0 | h0
      · exact h0
      · rw [List.getElem?_eq_none (by simp; omega)] at hk; cases hk
    rw [this] at hk
    simp at hk
    subst hk
    simp [Blk.alive] at ha
theorem more_lt {h : Heap} {x : Nat} (hx : x < h.length) : (h ++ [Blk.gone 0])[x]? = h[x]? := List.getElem?_append_left hx
theorem more_le {c : Cx} : Le c c.more where
  os := rfl
  tape := rfl
  output := rfl
  size := Nat.le_refl _
  len := by simp [Cx.more]
  im _ h := h
  imk _ _ := rfl
  imn _ h := .inl h
  own b hb := by
    obtain ⟨r, k, h1, h2, h3⟩ := hb
    exact .inl ⟨r, k, more_get h1 h2, h2, h3⟩
  frame _ _ _ := rfl
  ngen r hr := by simp only [ng, Cx.more, more_lt hr]; exact Nat.le_refl _
  refs r g sz ro xs hr _ h := ⟨ro, xs, (more_lt hr).symm.trans h, rfl, rfl, rfl⟩
  maps r g ro es hr _ h := ⟨ro, es, (more_lt hr).symm.trans h, rfl, rfl⟩
theorem more_ok {c : Cx} (inv : Inv c) : Inv c.more where
  imlt := inv.imlt
  blk r k hk := by
    cases ha : k.alive with
    | true => exact (inv.blk r k (more_get hk ha)).mono more_le rfl (fun _ _ _ => rfl) (fun _ _ _ => Iff.rfl)
    | false =>
      cases k with
      | gone g => trivial
      | cells g sz ro xs => simp [Blk.alive] at ha
      | map g ro es => simp [Blk.alive] at ha
  inj r r' k k' b h h' ha ha' hb hb' := inv.inj r r' k k' b (more_get h ha) (more_get h' ha') ha ha' hb hb'

/-- A new block behind the others. -/
def Cx.push (c : Cx) (k : Blk) (m : Nat × Nat) (w : World) : Cx := { im := c.im, mu := upd c.mu c.hp.length m, hp := c.hp ++ [k], w := w }
theorem push_eq {c : Cx} {k : Blk} {m : Nat × Nat} {w : World} : c.push k m w = c.more.put c.hp.length k m w := by
  simp [Cx.push, Cx.put, Cx.more]
theorem push_ok {c : Cx} (inv : Inv c) {k : Blk} {m : Nat × Nat} {w' : World}
    (hos : w'.os = c.w.os) (htape : w'.tape = c.w.tape) (hout : w'.output = c.w.output) (hsize : c.w.heap.size ≤ w'.heap.size)
    (hframe : ∀ b, b < c.w.heap.size → w'.heap[b]? = c.w.heap[b]?) (hm : ∀ b, k.alive = true → k.at m b → c.w.heap.size ≤ b)
    (hok : Le c (c.push k m w') → BlkOk (c.push k m w') c.hp.length k) : Inv (c.push k m w') ∧ Le c (c.push k m w') := by
  rw [push_eq] at hok ⊢
  have h := put_ok (c := c.more) (r := c.hp.length) (k0 := .gone 0) (k' := k) (m := m) (w' := w') (more_ok inv) (by simp [Cx.more]) rfl hos htape hout hsize
    (fun b hb _ => hframe b hb) (fun b ha hb => .inr (hm b ha hb)) (Nat.zero_le _) ⟨fun _ _ _ _ _ h => absurd h (Nat.not_lt_zero _), fun _ _ _ _ h => absurd h (Nat.not_lt_zero _)⟩ (fun le => hok (more_le.trans le))
  exact ⟨h.1, more_le.trans h.2⟩

/-- A draw. -/
def Cx.at (c : Cx) (w : World) : Cx := { c with w := w }
theorem at_ok {c : Cx} (inv : Inv c) {w' : World} (hos : w'.os = c.w.os) (htape : w'.tape = c.w.tape) (hout : w'.output = c.w.output)
    (hheap : w'.heap = c.w.heap) : Inv (c.at w') ∧ Le c (c.at w') := by
  have le : Le c (c.at w') := by
    refine ⟨hos, htape, hout, by simp [Cx.at, hheap], Nat.le_refl _, fun _ h => h, fun _ _ => by simp [Cx.at, hheap], fun _ h => .inl h, fun _ h => .inl h, fun _ _ _ => by simp [Cx.at, hheap],
      fun _ _ => Nat.le_refl _, fun r g sz ro xs _ _ h => ⟨ro, xs, h, rfl, rfl, by simp [Cx.at, bsize, hheap]⟩, fun r g ro es _ _ h => ⟨ro, es, h, rfl, rfl⟩⟩
  exact ⟨⟨fun b hb => by simp only [Cx.at, hheap]; exact inv.imlt b hb, fun r k hk => (inv.blk r k hk).mono le rfl (fun _ _ _ => by simp [Cx.at, hheap]) (fun _ _ _ => Iff.rfl), inv.inj⟩, le⟩
end Go.Proofs.Ytejpgmemohchaaa.Vm
