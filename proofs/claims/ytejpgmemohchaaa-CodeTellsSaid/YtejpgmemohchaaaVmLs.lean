/- Values without references, what refers only to blocks that are there; what never changes any more, and what of it is told. -/
import Derived.Test.YtejpgmemohchaaaVmL
set_option linter.unusedSimpArgs false
namespace Go.Proofs.Ytejpgmemohchaaa.Vm
open Go

/-- Without a reference into the small heap. -/
inductive Flat : D → Prop
  | undef : Flat .undef
  | bool (b : Bool) : Flat (.bool b)
  | int (k : IntKind) (n : Int) : Flat (.int k n)
  | str (l : List UInt8) : Flat (.str l)
  | nilptr : Flat .nilptr
  | box (cs : List D) (h : ∀ d, d ∈ cs → Flat d) : Flat (.box cs)
  | isl (sz : Nat) (xs : List (List D)) (h : ∀ x, x ∈ xs → ∀ d, d ∈ x → Flat d) : Flat (.isl sz xs)
  | nilsl : Flat .nilsl
  | esl : Flat .esl
  | func (fn : Fn) (a b : List D) (h1 : ∀ d, d ∈ a → Flat d) (h2 : ∀ d, d ∈ b → Flat d) : Flat (.func fn a b)
  | nilfunc : Flat .nilfunc
  | iface (t : TypeId) (d : D) (h : Flat d) : Flat (.iface t d)
  | niliface : Flat .niliface
  | agg (x : List D) (h : ∀ d, d ∈ x → Flat d) : Flat (.agg x)
  | tuple (x : List D) (h : ∀ d, d ∈ x → Flat d) : Flat (.tuple x)
  | imap (es : List (D × D)) (h1 : ∀ e, e ∈ es → Flat e.1) (h2 : ∀ e, e ∈ es → Flat e.2) : Flat (.imap es)
  | nilmap : Flat .nilmap

theorem mem_of_get {α : Type} {l : List α} {i : Nat} {x : α} (h : l[i]? = some x) : x ∈ l := List.mem_of_getElem? h

theorem Rep.flat {c c' : Cx} {v : Value} {d : D} (h : Rep c v d) (hi : ∀ b, c.im b → c'.im b) (hk : ∀ b, c.im b → c'.w.heap[b]? = c.w.heap[b]?) (hf : Flat d) : Rep c' v d := by
  induction h with
  | undef v => exact .undef v
  | bool b => exact .bool b
  | int k n => exact .int k n
  | str s l h => exact .str s l h
  | nilptr => exact .nilptr
  | ref => cases hf
  | box b off cs f h0 hc h1 _ ih =>
    cases hf with | box _ hf =>
    exact .box b off cs f (hi b h0) (fun o d ho => (cell_of_block (hk b h0)).trans (hc o d ho)) h1 (fun o d ho => ih o d ho (hf _ (mem_of_get ho)))
  | slice => cases hf
  | islnil sz => exact .islnil sz
  | isl0 sz a cap => exact .isl0 sz a cap
  | isl b off n cap sz xs f hn hcap h0 hsz hc h1 _ ih =>
    cases hf with | isl _ _ hf =>
    exact .isl b off n cap sz xs f hn hcap (hi b h0) hsz (fun i x o d hx ho => (cell_of_block (hk b h0)).trans (hc i x o d hx ho)) h1 (fun i x o d hx ho => ih i x o d hx ho (hf _ (mem_of_get hx) _ (mem_of_get ho)))
  | nilsl => exact .nilsl
  | esl a => exact .esl a
  | func fn a b x y ha hb _ _ ih1 ih2 =>
    cases hf with | func _ _ _ g1 g2 =>
    exact .func fn a b x y ha hb (fun i d hd => ih1 i d hd (g1 _ (mem_of_get hd))) (fun i d hd => ih2 i d hd (g2 _ (mem_of_get hd)))
  | nilfunc => exact .nilfunc
  | iface t v d _ ih => cases hf with | iface _ _ hf => exact .iface t v d (ih hf)
  | niliface => exact .niliface
  | agg a x ha h1 _ ih => cases hf with | agg _ hf => exact .agg a x ha h1 (fun i d hd => ih i d hd (hf _ (mem_of_get hd)))
  | tuple a x ha _ ih => cases hf with | tuple _ hf => exact .tuple a x ha (fun i d hd => ih i d hd (hf _ (mem_of_get hd)))
  | map => cases hf
  | yld => cases hf
  | imap b es ms ck p h0 hb hs _ _ ih1 ih2 =>
    cases hf with | imap _ g1 g2 =>
    exact .imap b es ms ck p (hi b h0) ((hk b h0).trans hb) hs (fun i x hx => ih1 i x hx (g1 _ (mem_of_get hx))) (fun i x hx => ih2 i x hx (g2 _ (mem_of_get hx)))
  | nilmap => exact .nilmap

/-- What is told of an empty small heap speaks of no block of it. -/
theorem Rep.bare {c c' : Cx} {v : Value} {d : D} (h : Rep c v d) (h0 : c.hp = []) (hi : ∀ b, c.im b → c'.im b) (hk : ∀ b, c.im b → c'.w.heap[b]? = c.w.heap[b]?) : Rep c' v d := by
  induction h with
  | undef v => exact .undef v
  | bool b => exact .bool b
  | int k n => exact .int k n
  | str s l h => exact .str s l h
  | nilptr => exact .nilptr
  | ref r i o g v hr => simp [h0] at hr
  | box b off cs f h0 hc h1 _ ih => exact .box b off cs f (hi b h0) (fun o d ho => (cell_of_block (hk b h0)).trans (hc o d ho)) h1 ih
  | slice r i n g v hr => simp [h0] at hr
  | islnil sz => exact .islnil sz
  | isl0 sz a cap => exact .isl0 sz a cap
  | isl b off n cap sz xs f hn hcap h0 hsz hc h1 _ ih => exact .isl b off n cap sz xs f hn hcap (hi b h0) hsz (fun i x o d hx ho => (cell_of_block (hk b h0)).trans (hc i x o d hx ho)) h1 ih
  | nilsl => exact .nilsl
  | esl a => exact .esl a
  | func fn a b x y ha hb _ _ ih1 ih2 => exact .func fn a b x y ha hb ih1 ih2
  | nilfunc => exact .nilfunc
  | iface t v d _ ih => exact .iface t v d ih
  | niliface => exact .niliface
  | agg a x ha h1 _ ih => exact .agg a x ha h1 ih
  | tuple a x ha _ ih => exact .tuple a x ha ih
  | map r g v hr => simp [h0] at hr
  | yld r g v hr => simp [h0] at hr
  | imap b es ms ck p h0 hb hs _ _ ih1 ih2 => exact .imap b es ms ck p (hi b h0) ((hk b h0).trans hb) hs ih1 ih2
  | nilmap => exact .nilmap

/-- Values without any block. -/
inductive Scalar : D → Prop
  | bool (b : Bool) : Scalar (.bool b)
  | int (k : IntKind) (n : Int) : Scalar (.int k n)
  | str (l : List UInt8) : Scalar (.str l)
  | nilptr : Scalar .nilptr
  | nilsl : Scalar .nilsl
  | niliface : Scalar .niliface
  | nilfunc : Scalar .nilfunc
  | nilmap : Scalar .nilmap
  | iface (t : TypeId) (d : D) (h : Scalar d) : Scalar (.iface t d)
  | agg (x : List D) (h : ∀ d, d ∈ x → Scalar d) : Scalar (.agg x)
  | tuple (x : List D) (h : ∀ d, d ∈ x → Scalar d) : Scalar (.tuple x)
theorem Rep.scalar {c c' : Cx} {v : Value} {d : D} (h : Rep c v d) (hf : Scalar d) : Rep c' v d := by
  induction hf generalizing v with
  | bool b => cases h; exact .bool b
  | int k n => cases h; exact .int k n
  | str l => cases h with | str s _ h => exact .str s l h
  | nilptr => cases h; exact .nilptr
  | nilsl => cases h; exact .nilsl
  | niliface => cases h; exact .niliface
  | nilfunc => cases h; exact .nilfunc
  | nilmap => cases h; exact .nilmap
  | iface t d _ ih => cases h with | iface _ v _ h => exact .iface t v d (ih h)
  | agg x _ ih => cases h with | agg a _ ha h1 h => exact .agg a x ha h1 (fun i d hd => ih d (mem_of_get hd) (h i d hd))
  | tuple x _ ih => cases h with | tuple a _ ha h => exact .tuple a x ha (fun i d hd => ih d (mem_of_get hd) (h i d hd))
/-- The context of which nothing but what never changes is told; the blocks in S never do, from here on. -/
def OwnIn (S : Nat → Prop) (c : Cx) (b : Nat) : Prop := ∃ (r : Nat) (k : Blk), S r ∧ c.hp[r]? = some k ∧ k.alive = true ∧ k.at (c.mu r) b
def Cx.still (S : Nat → Prop) (c : Cx) : Cx := { im := fun b => c.im b ∨ OwnIn S c b, mu := c.mu, hp := [], w := c.w }
theorem still_inv {S : Nat → Prop} {c : Cx} (inv : Inv c) : Inv (c.still S) := by
  refine ⟨fun b hb => ?_, fun r k hk => by simp [Cx.still] at hk, fun r r' k k' b hk => by simp [Cx.still] at hk⟩
  rcases hb with hb | ⟨r, k, _, h1, h2, h3⟩
  · exact inv.imlt b hb
  · exact (inv.blk r k h1).atlt h2 h3

/-- d' tells of what d refers to, as it now is. -/
def Snap (S : Nat → Prop) (H : Heap) (d d' : D) : Prop := ∀ (c : Cx) (v : Value), Inv c → c.hp = H → Rep c v d → Rep (c.still S) v d'
theorem Snap.flat {S : Nat → Prop} {H : Heap} {d : D} (h : Flat d) : Snap S H d d := fun _ _ _ _ hr => hr.flat (fun _ hb => .inl hb) (fun _ _ => rfl) h
theorem Snap.any {S : Nat → Prop} {H : Heap} {d : D} : Snap S H d .undef := fun _ v _ _ _ => .undef v

theorem Snap.slice {S : Nat → Prop} {H : Heap} {r i n g sz : Nat} {ro : Bool} {xs ys : List (List D)} (hs : S r) (hx : H[r]? = some (.cells g sz ro xs)) (hn : ys.length = n)
    (h : ∀ (k : Nat) (x y : List D), k < n → xs[i + k]? = some x → ys[k]? = some y → x.length = y.length ∧ ∀ (o : Nat) (d e : D), x[o]? = some d → y[o]? = some e → Snap S H d e) : Snap S H (.slice r i n g) (.isl sz ys) := by
  intro c v inv hc hr
  cases hr with
  | slice _ _ _ _ _ hr0 hg hv =>
  subst hc
  obtain ⟨a, cap, rfl, hn1, hn2, hn3, ha, hsize, hmax⟩ := hv sz ro xs hx
  cases n with
  | zero =>
    have : ys = [] := List.eq_nil_of_length_eq_zero hn
    subst this
    exact .isl0 sz a cap
  | succ n =>
  have ha' : a = ⟨(c.mu r).1, (c.mu r).2 + i * sz, none⟩ := ha.elim id fun h => by omega
  subst ha'
  obtain ⟨h0, cs, e, fz, h1, h2, _, h4, _, _, h7⟩ := inv.blk r _ hx
  have hlen : ∀ (k : Nat) (y : List D), ys[k]? = some y → k < n + 1 ∧ ∃ x, xs[i + k]? = some x ∧ x.length = sz ∧ y.length = sz := fun k y hk => by
    have hk' : k < n + 1 := hn ▸ (List.getElem?_eq_some_iff.1 hk).1
    obtain ⟨x, hx'⟩ : ∃ x, xs[i + k]? = some x := ⟨_, List.getElem?_eq_getElem (by omega)⟩
    have := (h k x y hk' hx' hk).1
    have h5 := (h4 (i + k) x hx').1
    exact ⟨hk', x, hx', h5, by omega⟩
  have hpos : ∀ k, k < (n + 1) * sz → (c.mu r).2 + i * sz + k < cs.size := fun k hk => by
    have h5 : (i + (n + 1)) * sz ≤ xs.length * sz := Nat.mul_le_mul_right _ hn2
    rw [Nat.add_mul] at h5
    omega
  refine .isl _ _ _ cap sz ys (fun k => cs.getD ((c.mu r).2 + i * sz + k) undef) hn.symm hn1 (.inr ⟨r, _, hs, hx, rfl, rfl⟩) (fun k y hk => (hlen k y hk).2.elim fun _ q => q.2.2) (fun k y o d hk ho => ?_) (fun k hk => h7 _ (hpos k hk)) (fun k y o d hk ho => ?_)
  · obtain ⟨hk', x, hx', hxl, hyl⟩ := hlen k y hk
    have ho' : o < sz := hyl ▸ (List.getElem?_eq_some_iff.1 ho).1
    have hlt : k * sz + o < (n + 1) * sz := by
      have : (k + 1) * sz ≤ (n + 1) * sz := Nat.mul_le_mul_right _ hk'
      rw [Nat.add_mul] at this
      omega
    have hb : (c.mu r).2 + i * sz + (k * sz + o) < cs.size := hpos _ hlt
    simp only [Cx.still, World.cell?, h1, ← Nat.add_assoc] at hb ⊢
    exact getD_lt hb
  · obtain ⟨hk', x, hx', hxl, hyl⟩ := hlen k y hk
    have ho' : o < x.length := by rw [hxl, ← hyl]; exact (List.getElem?_eq_some_iff.1 ho).1
    have hsn := (h k x y hk' hx' hk).2 o _ d (List.getElem?_eq_getElem ho') ho
    have hrep := (h4 (i + k) x hx').2 o _ (List.getElem?_eq_getElem ho')
    have e1 : (c.mu r).2 + (i + k) * sz + o = (c.mu r).2 + i * sz + (k * sz + o) := by rw [Nat.add_mul]; omega
    rw [e1] at hrep
    exact hsn c _ inv rfl hrep

theorem Snap.ref {S : Nat → Prop} {H : Heap} {r i o g sz : Nat} {ro : Bool} {xs : List (List D)} {x ys : List D} (hs : S r) (hx : H[r]? = some (.cells g sz ro xs)) (hi : xs[i]? = some x) (hn : ys.length + o = x.length)
    (h : ∀ (k : Nat) (d e : D), x[o + k]? = some d → ys[k]? = some e → Snap S H d e) : Snap S H (.ref r i o g) (.box ys) := by
  intro c v inv hc hr
  cases hr with
  | ref _ _ _ _ _ hr0 hg hv =>
  subst hc
  obtain rfl := hv sz ro xs hx
  obtain ⟨h0, cs, e, fz, h1, h2, _, h4, _, _, h7⟩ := inv.blk r _ hx
  have hxl := (h4 i x hi).1
  have hil : i < xs.length := (List.getElem?_eq_some_iff.1 hi).1
  have hpos : ∀ k, k < ys.length → (c.mu r).2 + i * sz + o + k < cs.size := fun k hk => by
    have h5 : (i + 1) * sz ≤ xs.length * sz := Nat.mul_le_mul_right _ hil
    rw [Nat.add_mul] at h5
    omega
  refine .box _ _ ys (fun k => cs.getD ((c.mu r).2 + i * sz + o + k) undef) (.inr ⟨r, _, hs, hx, rfl, rfl⟩) (fun k d hk => ?_) (fun k hk => h7 _ (hpos k hk)) (fun k d hk => ?_)
  · have hb := hpos k (List.getElem?_eq_some_iff.1 hk).1
    simp only [Cx.still, World.cell?, h1]
    exact getD_lt hb
  · have hk' : k < ys.length := (List.getElem?_eq_some_iff.1 hk).1
    have hlt : o + k < x.length := by omega
    have hrep := (h4 i x hi).2 (o + k) _ (List.getElem?_eq_getElem hlt)
    rw [← Nat.add_assoc] at hrep
    exact h k _ d (List.getElem?_eq_getElem hlt) hk c _ inv rfl hrep

theorem Snap.iface {S : Nat → Prop} {H : Heap} {t : TypeId} {d e : D} (h : Snap S H d e) : Snap S H (.iface t d) (.iface t e) := by
  intro c v inv hc hr
  cases hr with | iface _ v _ hr => exact .iface t v e (h c v inv hc hr)
theorem Snap.tuple {S : Nat → Prop} {H : Heap} {x y : List D} (hl : y.length = x.length) (h : ∀ (k : Nat) (d e : D), x[k]? = some d → y[k]? = some e → Snap S H d e) : Snap S H (.tuple x) (.tuple y) := by
  intro c v inv hc hr
  cases hr with
  | tuple a _ ha hr =>
    refine .tuple a y (ha.trans hl.symm) fun k e he => ?_
    have hk : k < x.length := by rw [← hl]; exact (List.getElem?_eq_some_iff.1 he).1
    exact h k _ e (List.getElem?_eq_getElem hk) he c _ inv hc (hr k _ (List.getElem?_eq_getElem hk))
theorem Snap.agg {S : Nat → Prop} {H : Heap} {x y : List D} (hl : y.length = x.length) (h : ∀ (k : Nat) (d e : D), x[k]? = some d → y[k]? = some e → Snap S H d e) : Snap S H (.agg x) (.agg y) := by
  intro c v inv hc hr
  cases hr with
  | agg a _ ha h1 hr =>
    refine .agg a y (ha.trans hl.symm) h1 fun k e he => ?_
    have hk : k < x.length := by rw [← hl]; exact (List.getElem?_eq_some_iff.1 he).1
    exact h k _ e (List.getElem?_eq_getElem hk) he c _ inv hc (hr k _ (List.getElem?_eq_getElem hk))
theorem Snap.func {S : Nat → Prop} {H : Heap} {fn : Fn} {x y x' y' : List D} (hl : x'.length = x.length) (hl2 : y'.length = y.length) (h : ∀ (k : Nat) (d e : D), x[k]? = some d → x'[k]? = some e → Snap S H d e)
    (h2 : ∀ (k : Nat) (d e : D), y[k]? = some d → y'[k]? = some e → Snap S H d e) : Snap S H (.func fn x y) (.func fn x' y') := by
  intro c v inv hc hr
  cases hr with
  | func _ a b _ _ ha hb r1 r2 =>
    refine .func fn a b x' y' (ha.trans hl.symm) (hb.trans hl2.symm) (fun k e he => ?_) (fun k e he => ?_)
    · have hk : k < x.length := by rw [← hl]; exact (List.getElem?_eq_some_iff.1 he).1
      exact h k _ e (List.getElem?_eq_getElem hk) he c _ inv hc (r1 k _ (List.getElem?_eq_getElem hk))
    · have hk : k < y.length := by rw [← hl2]; exact (List.getElem?_eq_some_iff.1 he).1
      exact h2 k _ e (List.getElem?_eq_getElem hk) he c _ inv hc (r2 k _ (List.getElem?_eq_getElem hk))


/-- All references are to the first n blocks. -/
inductive Under (n : Nat) : D → Prop
  | undef : Under n .undef
  | bool (b : Bool) : Under n (.bool b)
  | int (k : IntKind) (m : Int) : Under n (.int k m)
  | str (l : List UInt8) : Under n (.str l)
  | nilptr : Under n .nilptr
  | ref (r i o g : Nat) (h : r < n) : Under n (.ref r i o g)
  | slice (r i m g : Nat) (h : r < n) : Under n (.slice r i m g)
  | map (r g : Nat) (h : r < n) : Under n (.map r g)
  | yld (r g : Nat) (h : r < n) : Under n (.yld r g)
  | cod (ps : List Nat) (a b : Code) : Under n (.cod ps a b)
  | box (cs : List D) (h : ∀ d, d ∈ cs → Under n d) : Under n (.box cs)
  | isl (sz : Nat) (xs : List (List D)) (h : ∀ x, x ∈ xs → ∀ d, d ∈ x → Under n d) : Under n (.isl sz xs)
  | nilsl : Under n .nilsl
  | esl : Under n .esl
  | func (fn : Fn) (a b : List D) (h1 : ∀ d, d ∈ a → Under n d) (h2 : ∀ d, d ∈ b → Under n d) : Under n (.func fn a b)
  | nilfunc : Under n .nilfunc
  | iface (t : TypeId) (d : D) (h : Under n d) : Under n (.iface t d)
  | niliface : Under n .niliface
  | agg (x : List D) (h : ∀ d, d ∈ x → Under n d) : Under n (.agg x)
  | tuple (x : List D) (h : ∀ d, d ∈ x → Under n d) : Under n (.tuple x)
  | imap (es : List (D × D)) (h1 : ∀ e, e ∈ es → Under n e.1) (h2 : ∀ e, e ∈ es → Under n e.2) : Under n (.imap es)
  | nilmap : Under n .nilmap

/-- Blocks behind the first n are dropped. -/
theorem Rep.cut {c c' : Cx} {v : Value} {d : D} {n : Nat} (h : Rep c v d) (hn : n ≤ c'.hp.length) (hh : ∀ r, r < n → c'.hp[r]? = c.hp[r]?) (hm : c'.mu = c.mu) (hw : c'.w = c.w) (hi : ∀ b, c.im b → c'.im b) (hf : Under n d) : Rep c' v d := by
  have hk : ∀ b, c.im b → c'.w.heap[b]? = c.w.heap[b]? := fun b _ => by rw [hw]
  have hg : ∀ r, r < n → ng c'.hp r = ng c.hp r := fun r hr => by simp only [ng, hh r hr]
  induction h with
  | undef v => exact .undef v
  | bool b => exact .bool b
  | int k n => exact .int k n
  | str s l h => exact .str s l h
  | nilptr => exact .nilptr
  | ref r i o g v hr hgn h =>
    cases hf with | ref _ _ _ _ hlt =>
    exact .ref r i o g v (Nat.lt_of_lt_of_le hlt hn) (hg r hlt ▸ hgn) (fun sz ro xs hx => by rw [hm]; exact h sz ro xs (hh r hlt ▸ hx))
  | box b off cs f h0 hc h1 _ ih =>
    cases hf with | box _ hf =>
    exact .box b off cs f (hi b h0) (fun o d ho => (cell_of_block (hk b h0)).trans (hc o d ho)) h1 (fun o d ho => ih o d ho (hf _ (mem_of_get ho)))
  | slice r i m g v hr hgn h =>
    cases hf with | slice _ _ _ _ hlt =>
    exact .slice r i m g v (Nat.lt_of_lt_of_le hlt hn) (hg r hlt ▸ hgn) (fun sz ro xs hx => by rw [hm, hw]; exact h sz ro xs (hh r hlt ▸ hx))
  | islnil sz => exact .islnil sz
  | isl0 sz a cap => exact .isl0 sz a cap
  | isl b off n cap sz xs f hn hcap h0 hsz hc h1 _ ih =>
    cases hf with | isl _ _ hf =>
    exact .isl b off n cap sz xs f hn hcap (hi b h0) hsz (fun i x o d hx ho => (cell_of_block (hk b h0)).trans (hc i x o d hx ho)) h1 (fun i x o d hx ho => ih i x o d hx ho (hf _ (mem_of_get hx) _ (mem_of_get ho)))
  | nilsl => exact .nilsl
  | esl a => exact .esl a
  | func fn a b x y ha hb _ _ ih1 ih2 =>
    cases hf with | func _ _ _ g1 g2 =>
    exact .func fn a b x y ha hb (fun i d hd => ih1 i d hd (g1 _ (mem_of_get hd))) (fun i d hd => ih2 i d hd (g2 _ (mem_of_get hd)))
  | nilfunc => exact .nilfunc
  | iface t v d _ ih => cases hf with | iface _ _ hf => exact .iface t v d (ih hf)
  | niliface => exact .niliface
  | agg a x ha h1 _ ih => cases hf with | agg _ hf => exact .agg a x ha h1 (fun i d hd => ih i d hd (hf _ (mem_of_get hd)))
  | tuple a x ha _ ih => cases hf with | tuple _ hf => exact .tuple a x ha (fun i d hd => ih i d hd (hf _ (mem_of_get hd)))
  | map r g v hr hgn h =>
    cases hf with | map _ _ hlt =>
    exact .map r g v (Nat.lt_of_lt_of_le hlt hn) (hg r hlt ▸ hgn) (fun ro es hx => by rw [hm]; exact h ro es (hh r hlt ▸ hx))
  | yld r g v hr hgn h =>
    cases hf with | yld _ _ hlt =>
    exact .yld r g v (Nat.lt_of_lt_of_le hlt hn) (hg r hlt ▸ hgn) (fun ro es hx => by rw [hm]; exact h ro es (hh r hlt ▸ hx))
  | imap b es ms ck p h0 hb hs _ _ ih1 ih2 =>
    cases hf with | imap _ g1 g2 =>
    exact .imap b es ms ck p (hi b h0) ((hk b h0).trans hb) hs (fun i x hx => ih1 i x hx (g1 _ (mem_of_get hx))) (fun i x hx => ih2 i x hx (g2 _ (mem_of_get hx)))
  | nilmap => exact .nilmap


theorem get_of_lt {α : Type} {l : List α} {i : Nat} (h : i < l.length) : l[i]? = some l[i] := List.getElem?_eq_getElem h
/-- What something stands for refers to living or dead blocks only, not to ones that are not there. -/
theorem Rep.under {c : Cx} {v : Value} {d : D} (h : Rep c v d) : Under c.hp.length d := by
  have ix : ∀ {α : Type} {P : α → Prop} {l : List α}, (∀ (i : Nat) (x : α), l[i]? = some x → P x) → ∀ x, x ∈ l → P x := fun hp x hx => by
    obtain ⟨i, hi, rfl⟩ := List.getElem_of_mem hx
    exact hp i _ (List.getElem?_eq_getElem hi)
  induction h with
  | undef v => exact .undef
  | bool b => exact .bool b
  | int k n => exact .int k n
  | str s l h => exact .str l
  | nilptr => exact .nilptr
  | ref r i o g v hr hgn h => exact .ref r i o g hr
  | box b off cs f h0 hc h1 _ ih => exact .box cs (ix ih)
  | slice r i n g v hr hgn h => exact .slice r i n g hr
  | islnil sz => exact .isl sz [] (fun x hx => by cases hx)
  | isl0 sz a cap => exact .isl sz [] (fun x hx => by cases hx)
  | isl b off n cap sz xs f hn hcap h0 hsz hc h1 _ ih => exact .isl sz xs (ix fun i x hx => ix fun o d hd => ih i x o d hx hd)
  | nilsl => exact .nilsl
  | esl a => exact .esl
  | func fn a b x y ha hb _ _ ih1 ih2 => exact .func fn x y (ix ih1) (ix ih2)
  | nilfunc => exact .nilfunc
  | iface t v d _ ih => exact .iface t d ih
  | niliface => exact .niliface
  | agg a x ha h1 _ ih => exact .agg x (ix ih)
  | tuple a x ha _ ih => exact .tuple x (ix ih)
  | map r g v hr hgn h => exact .map r g hr
  | yld r g v hr hgn h => exact .yld r g hr
  | imap b es ms ck p h0 hb hs _ _ ih1 ih2 => exact .imap es (ix ih1) (ix ih2)
  | nilmap => exact .nilmap

theorem SpOk.under {c : Cx} {m : Nat × Nat} {es : List (D × D)} (h : SpOk c m es) : ∀ e, e ∈ es → Under c.hp.length e.1 ∧ Under c.hp.length e.2 := by
  rcases spOk_inv h with ⟨T, e, l, rfl, _⟩ | ⟨ck, bs, ents, rfl, hm, ms, n, q1, q2, q3, q4, q5, q6⟩ | ⟨ps, as, bo, st, pend, fr, rfl, hm, lp, q1, q2, q3, q4, q6, q7, q8, q9⟩
  · intro x hx
    obtain rfl := List.mem_singleton.1 hx
    refine ⟨.int _ _, .tuple _ fun d hd => ?_⟩
    simp only [List.mem_cons, List.not_mem_nil, or_false] at hd
    rcases hd with rfl | rfl | rfl
    · exact .int _ _
    · exact .int _ _
    · exact .str _
  · intro x hx
    rcases List.mem_cons.1 hx with rfl | hx
    · refine ⟨.int _ _, .tuple _ fun d hd => ?_⟩
      rcases List.mem_cons.1 hd with rfl | hd
      · exact .int _ _
      · obtain ⟨i, hi, rfl⟩ := List.getElem_of_mem hd
        rw [q6 i _ (List.getElem?_eq_getElem hi)]
        exact .int _ _
    · obtain ⟨i, hi, rfl⟩ := List.getElem_of_mem hx
      exact ⟨(q5 i _ (List.getElem?_eq_getElem hi)).1.under, (q5 i _ (List.getElem?_eq_getElem hi)).2.under⟩
  · intro x hx
    simp only [List.mem_cons, List.not_mem_nil, or_false] at hx
    rcases hx with rfl | rfl | rfl
    · exact ⟨.int _ _, .cod _ _ _⟩
    · refine ⟨.int _ _, ?_⟩
      dsimp only
      revert q7
      cases pend <;> intro q7 <;> first | exact .undef | exact .int _ _ | exact .bool _ | exact q7.elim
    · refine ⟨.undef, .tuple _ fun d hd => ?_⟩
      obtain ⟨i, hi, rfl⟩ := List.getElem_of_mem hd
      have := (q9 i).under
      simpa [List.getD_eq_getElem?_getD, hi] using this
theorem OwnIn.own {S : Nat → Prop} {c : Cx} {b : Nat} (h : OwnIn S c b) : Own c b := by
  obtain ⟨r, k, _, h1, h2, h3⟩ := h
  exact ⟨r, k, h1, h2, h3⟩
/-- What was made behind the blocks of before is handed over for good, or dropped. -/
theorem cut_ok {c c' : Cx} (inv : Inv c) (inv' : Inv c') (le : Le c c') (hp : c'.hp.take c.hp.length = c.hp) {v : Value} {d d' : D} (hv : Rep c' v d) (hs : Snap (fun r => c.hp.length ≤ r) c'.hp d d') :
    ∃ c2 : Cx, c2.w = c'.w ∧ c2.hp = c.hp ∧ Inv c2 ∧ Le c c2 ∧ Rep c2 v d' := by
  have hh : ∀ r, r < c.hp.length → c.hp[r]? = c'.hp[r]? := fun r hr => by
    have := congrArg (fun l : Heap => l[r]?) hp
    simp only [List.getElem?_take, if_pos hr] at this
    exact this.symm
  have hlt : ∀ {r : Nat} {k : Blk}, c.hp[r]? = some k → r < c.hp.length := fun h => (List.getElem?_eq_some_iff.1 h).1
  let c2 : Cx := { im := fun b => c'.im b ∨ OwnIn (fun r => c.hp.length ≤ r) c' b, mu := c'.mu, hp := c.hp, w := c'.w }
  have hng : ∀ r, r < c.hp.length → ng c.hp r = ng c'.hp r := fun r hr => by simp only [ng, hh r hr]
  have le2 : Le c c2 := by
    refine ⟨le.os, le.tape, le.output, le.size, Nat.le_refl _, fun b hb => .inl (le.im b hb), le.imk, fun b hb => ?_, fun b hb => ?_, le.frame, fun r hr => Nat.le_refl _, fun r g sz ro xs hr hg hx => ?_, fun r g ro es hr hg hx => ?_⟩
    · rcases hb with hb | hb
      · exact le.imn b hb
      · exact .inr (le.own b hb.own)
    · obtain ⟨r, k, h1, h2, h3⟩ := hb
      exact le.own b ⟨r, k, (hh r (hlt h1)).symm.trans h1, h2, h3⟩
    · exact le.refs r g sz ro xs hr hg ((hh r hr).symm.trans hx)
    · exact le.maps r g ro es hr hg ((hh r hr).symm.trans hx)
  have hcut : ∀ {v : Value} {d : D}, Rep c' v d → Under c.hp.length d → Rep c2 v d := fun h hu =>
    h.cut (n := c.hp.length) (Nat.le_refl _) (fun r hr => hh r hr) rfl rfl (fun b hb => .inl hb) hu
  have him : ∀ r (k : Blk) b, c.hp[r]? = some k → k.alive = true → k.at (c'.mu r) b → (c2.im b ↔ c'.im b) := fun r k b hk ha hb => by
    refine ⟨fun h => h.elim id fun ⟨r', k', hS, h1, h2, h3⟩ => ?_, .inl⟩
    have := inv'.inj r' r k' k b h1 ((hh r (hlt hk)).symm.trans hk) h2 ha h3 hb
    have := hlt hk
    omega
  refine ⟨c2, rfl, rfl, ⟨fun b hb => ?_, fun r k hk => ?_, fun r r' k k' b h1 h2 => inv'.inj r r' k k' b ((hh r (hlt h1)).symm.trans h1) ((hh r' (hlt h2)).symm.trans h2)⟩, le2, ?_⟩
  · rcases hb with hb | hb
    · exact inv'.imlt b hb
    · exact inv'.ownlt hb.own
  · have h0 := inv.blk r k hk
    have h1 := inv'.blk r k ((hh r (hlt hk)).symm.trans hk)
    cases k with
    | gone g => trivial
    | cells g sz ro xs =>
      obtain ⟨_, _, _, _, _, _, _, y4, _, _, _⟩ := h0
      obtain ⟨z0, cs, e, fz, z1, z2, z3, z4, z5, z6, z7⟩ := h1
      exact ⟨z0, cs, e, fz, z1, z2, z3, fun i x hx => ⟨(z4 i x hx).1, fun o d ho => hcut ((z4 i x hx).2 o d ho) ((y4 i x hx).2 o d ho).under⟩,
        fun h => (him r _ _ hk rfl rfl).2 (z5 h), fun h hb => z6 h ((him r _ _ hk rfl rfl).1 hb), z7⟩
    | map g ro es =>
      have y4 := h0.1.under
      obtain ⟨z4, z5, z6⟩ := h1
      exact ⟨z4.to rfl rfl fun e he v => ⟨fun h => hcut h (y4 e he).1, fun h => hcut h (y4 e he).2⟩,
        fun h => ⟨(him r _ _ hk rfl (.inl rfl)).2 (z5 h).1, (him r _ _ hk rfl (.inr rfl)).2 (z5 h).2⟩, fun h => ⟨fun hb => (z6 h).1 ((him r _ _ hk rfl (.inl rfl)).1 hb), fun hb => (z6 h).2 ((him r _ _ hk rfl (.inr rfl)).1 hb)⟩⟩
  · exact (hs c' v inv' rfl hv).bare rfl (fun b hb => hb) (fun b hb => rfl)
/-- A block behind the others, that is one place's: it never turns any more, and the small heap is as it was. -/
theorem var_ok {c c' : Cx} (inv : Inv c) (inv' : Inv c') (le : Le c c') {sz : Nat} {cs : List D} (hp : c'.hp = c.hp ++ [.cells 0 sz false [cs]]) {v : Value} (hv : Rep c' v (.ref c.hp.length 0 0 0)) (hun : ∀ d, d ∈ cs → Under c.hp.length d) :
    ∃ c2 : Cx, c2.w = c'.w ∧ c2.hp = c.hp ∧ Inv c2 ∧ Le c c2 ∧ (∀ (u : Value) (d : D), Rep c u d → Rep c2 u d) ∧ Rep c2 v (.box cs) := by
  have hh : ∀ r, r < c.hp.length → c.hp[r]? = c'.hp[r]? := fun r hr => by rw [hp, List.getElem?_append_left hr]
  have hlast : c'.hp[c.hp.length]? = some (.cells 0 sz false [cs]) := by rw [hp]; simp
  have hlt : ∀ {r : Nat} {k : Blk}, c.hp[r]? = some k → r < c.hp.length := fun h => (List.getElem?_eq_some_iff.1 h).1
  let c2 : Cx := { im := fun b => c'.im b ∨ OwnIn (fun r => c.hp.length ≤ r) c' b, mu := c'.mu, hp := c.hp, w := c'.w }
  have hng : ∀ r, r < c.hp.length → ng c.hp r = ng c'.hp r := fun r hr => by simp only [ng, hh r hr]
  have le2 : Le c c2 := by
    refine ⟨le.os, le.tape, le.output, le.size, Nat.le_refl _, fun b hb => .inl (le.im b hb), le.imk, fun b hb => ?_, fun b hb => ?_, le.frame, fun r hr => Nat.le_refl _, fun r g sz ro xs hr hg hx => ?_, fun r g ro es hr hg hx => ?_⟩
    · rcases hb with hb | hb
      · exact le.imn b hb
      · exact .inr (le.own b hb.own)
    · obtain ⟨r, k, h1, h2, h3⟩ := hb
      exact le.own b ⟨r, k, (hh r (hlt h1)).symm.trans h1, h2, h3⟩
    · exact le.refs r g sz ro xs hr hg ((hh r hr).symm.trans hx)
    · exact le.maps r g ro es hr hg ((hh r hr).symm.trans hx)
  have hcut : ∀ {v : Value} {d : D}, Rep c' v d → Under c.hp.length d → Rep c2 v d := fun h hu =>
    h.cut (n := c.hp.length) (Nat.le_refl _) (fun r hr => hh r hr) rfl rfl (fun b hb => .inl hb) hu
  have him : ∀ r (k : Blk) b, c.hp[r]? = some k → k.alive = true → k.at (c'.mu r) b → (c2.im b ↔ c'.im b) := fun r k b hk ha hb => by
    refine ⟨fun h => h.elim id fun ⟨r', k', hS, h1, h2, h3⟩ => ?_, .inl⟩
    have := inv'.inj r' r k' k b h1 ((hh r (hlt hk)).symm.trans hk) h2 ha h3 hb
    have := hlt hk
    omega
  have hbl : ∀ (r : Nat) (k : Blk), c.hp[r]? = some k → BlkOk c2 r k := fun r k hk => by
    have h0 := inv.blk r k hk
    have h1 := inv'.blk r k ((hh r (hlt hk)).symm.trans hk)
    cases k with
    | gone g => trivial
    | cells g sz ro xs =>
      obtain ⟨_, _, _, _, _, _, _, y4, _, _, _⟩ := h0
      obtain ⟨z0, ds, e, fz, z1, z2, z3, z4, z5, z6, z7⟩ := h1
      exact ⟨z0, ds, e, fz, z1, z2, z3, fun i x hx => ⟨(z4 i x hx).1, fun o d ho => hcut ((z4 i x hx).2 o d ho) ((y4 i x hx).2 o d ho).under⟩,
        fun h => (him r _ _ hk rfl rfl).2 (z5 h), fun h hb => z6 h ((him r _ _ hk rfl rfl).1 hb), z7⟩
    | map g ro es =>
      have y4 := h0.1.under
      obtain ⟨z4, z5, z6⟩ := h1
      exact ⟨z4.to rfl rfl fun e he v => ⟨fun h => hcut h (y4 e he).1, fun h => hcut h (y4 e he).2⟩,
        fun h => ⟨(him r _ _ hk rfl (.inl rfl)).2 (z5 h).1, (him r _ _ hk rfl (.inr rfl)).2 (z5 h).2⟩, fun h => ⟨fun hb => (z6 h).1 ((him r _ _ hk rfl (.inl rfl)).1 hb), fun hb => (z6 h).2 ((him r _ _ hk rfl (.inr rfl)).1 hb)⟩⟩
  refine ⟨c2, rfl, rfl, ⟨fun b hb => ?_, hbl, fun r r' k k' b h1 h2 => inv'.inj r r' k k' b ((hh r (hlt h1)).symm.trans h1) ((hh r' (hlt h2)).symm.trans h2)⟩, le2, fun u d hu => hcut (hu.mono le) hu.under, ?_⟩
  · rcases hb with hb | hb
    · exact inv'.imlt b hb
    · exact inv'.ownlt hb.own
  · obtain ⟨z0, ds, e, fz, z1, z2, z3, z4, z5, z6, z7⟩ := inv'.blk _ _ hlast
    cases hv with
    | ref _ _ _ _ _ hr hg h =>
    have hvv := h sz false [cs] hlast
    have hl : cs.length = sz := (z4 0 cs rfl).1
    simp only [List.length_singleton, Nat.one_mul] at z2
    rw [hvv]
    refine .box _ _ cs (fun o => ds.getD ((c'.mu c.hp.length).2 + o) undef) (.inr ⟨c.hp.length, _, Nat.le_refl _, hlast, rfl, rfl⟩) (fun o d hd => ?_) (fun o ho => z7 _ (by omega)) (fun o d hd => ?_)
    · have ho : o < cs.length := (List.getElem?_eq_some_iff.1 hd).1
      unfold World.cell?
      simp only [c2, z1, Nat.zero_mul, Nat.add_zero]
      exact getD_lt (by omega)
    · have := (z4 0 cs rfl).2 o d hd
      simp only [Nat.zero_mul, Nat.add_zero] at this
      exact hcut this (hun d (List.mem_of_getElem? hd))
/-! ### blocks that are given up, and places that are used again -/
/-- What something stands for, when what it refers to stayed. -/
theorem Rep.move {c c' : Cx} {v : Value} {d : D} (h : Rep c v d) (him : ∀ b, c.im b → c'.im b) (himk : ∀ b, c.im b → c'.w.heap[b]? = c.w.heap[b]?) (hlen : c.hp.length ≤ c'.hp.length) (hngen : ∀ r, r < c.hp.length → ng c.hp r ≤ ng c'.hp r)
    (hrefs : ∀ r g sz ro xs, r < c.hp.length → g < ng c.hp r → c'.hp[r]? = some (.cells g sz ro xs) → ∃ ro0 xs0, c.hp[r]? = some (.cells g sz ro0 xs0) ∧ xs.length = xs0.length ∧ c'.mu r = c.mu r ∧ bsize c'.w (c.mu r).1 = bsize c.w (c.mu r).1)
    (hmaps : ∀ r g ro es, r < c.hp.length → g < ng c.hp r → c'.hp[r]? = some (.map g ro es) → ∃ ro0 es0, c.hp[r]? = some (.map g ro0 es0) ∧ (c'.mu r).1 = (c.mu r).1 ∧ spTag es = spTag es0) : Rep c' v d := by
  induction h with
  | undef v => exact .undef v
  | bool b => exact .bool b
  | int k n => exact .int k n
  | str s l h => exact .str s l h
  | nilptr => exact .nilptr
  | ref r i o g v hr hg h =>
    refine .ref r i o g v (Nat.lt_of_lt_of_le hr hlen) (Nat.lt_of_lt_of_le hg (hngen r hr)) fun sz ro xs hx => ?_
    obtain ⟨ro0, xs0, h1, _, h3, _⟩ := hrefs r g sz ro xs hr hg hx
    rw [h3]
    exact h sz ro0 xs0 h1
  | box b off cs f hi hc h1 _ ih => exact .box b off cs f (him b hi) (fun o d ho => (cell_of_block (himk b hi)).trans (hc o d ho)) h1 ih
  | slice r i n g v hr hg h =>
    refine .slice r i n g v (Nat.lt_of_lt_of_le hr hlen) (Nat.lt_of_lt_of_le hg (hngen r hr)) fun sz ro xs hx => ?_
    obtain ⟨ro0, xs0, h1, h2, h3, h4⟩ := hrefs r g sz ro xs hr hg hx
    obtain ⟨a, cap, k1, k2, k3, k4, k5, k6, k7⟩ := h sz ro0 xs0 h1
    rw [h3, h4, h2]
    exact ⟨a, cap, k1, k2, k3, k4, k5, k6, k7⟩
  | islnil sz => exact .islnil sz
  | isl0 sz a cap => exact .isl0 sz a cap
  | isl b off n cap sz xs f hn hcap hi hsz hc h1 _ ih => exact .isl b off n cap sz xs f hn hcap (him b hi) hsz (fun i x o d hx ho => (cell_of_block (himk b hi)).trans (hc i x o d hx ho)) h1 ih
  | nilsl => exact .nilsl
  | esl a => exact .esl a
  | func fn a b x y ha hb _ _ ih1 ih2 => exact .func fn a b x y ha hb ih1 ih2
  | nilfunc => exact .nilfunc
  | iface t v d _ ih => exact .iface t v d ih
  | niliface => exact .niliface
  | agg a x ha h1 _ ih => exact .agg a x ha h1 ih
  | tuple a x ha _ ih => exact .tuple a x ha ih
  | map r g v hr hg h =>
    refine .map r g v (Nat.lt_of_lt_of_le hr hlen) (Nat.lt_of_lt_of_le hg (hngen r hr)) fun ro es hx => ?_
    obtain ⟨ro0, es0, h1, h3, h4⟩ := hmaps r g ro es hr hg hx
    rw [h3, h4]
    exact h ro0 es0 h1
  | yld r g v hr hg h =>
    refine .yld r g v (Nat.lt_of_lt_of_le hr hlen) (Nat.lt_of_lt_of_le hg (hngen r hr)) fun ro es hx => ?_
    obtain ⟨ro0, es0, h1, h3, h4⟩ := hmaps r g ro es hr hg hx
    rw [h3]
    exact h ro0 es0 h1
  | imap b es ms ck p hi hb hs _ _ ih1 ih2 => exact .imap b es ms ck p (him b hi) ((himk b hi).trans hb) hs ih1 ih2
  | nilmap => exact .nilmap

/-- Some blocks are given up. -/
def Drops (H H' : Heap) : Prop := H'.length = H.length ∧ ∀ (r : Nat) (k : Blk), H[r]? = some k → H'[r]? = some k ∨ H'[r]? = some (.gone k.next)
theorem Drops.refl (H : Heap) : Drops H H := ⟨rfl, fun _ _ h => .inl h⟩
theorem drop_ok {c : Cx} (inv : Inv c) {H' : Heap} (h : Drops c.hp H') : Inv { c with hp := H' } ∧ Le c { c with hp := H' } := by
  have hback : ∀ (r : Nat) (k : Blk), H'[r]? = some k → k.alive = true → c.hp[r]? = some k := fun r k hk ha => by
    have hr : r < c.hp.length := by rw [← h.1]; exact (List.getElem?_eq_some_iff.1 hk).1
    rcases h.2 r _ (List.getElem?_eq_getElem hr) with h1 | h1
    · rw [h1] at hk
      rw [List.getElem?_eq_getElem hr]
      exact hk
    · rw [h1] at hk
      cases hk
      cases ha
  have le : Le c { c with hp := H' } := by
    refine ⟨rfl, rfl, rfl, Nat.le_refl _, Nat.le_of_eq h.1.symm, fun _ hb => hb, fun _ _ => rfl, fun _ hb => .inl hb, fun b hb => ?_, fun _ _ _ => rfl, fun r hr => ?_, fun r g sz ro xs hr hg hx => ?_, fun r g ro es hr hg hx => ?_⟩
    · obtain ⟨r, k, h1, h2, h3⟩ := hb
      exact .inl ⟨r, k, hback r k h1 h2, h2, h3⟩
    · have h0 := List.getElem?_eq_getElem hr
      rcases h.2 r _ h0 with h1 | h1
      · simp only [ng, h0, h1]; exact Nat.le_refl _
      · simp only [ng, h0, h1, Option.map_some, Option.getD_some]; exact Nat.le_refl _
    · exact ⟨ro, xs, hback r _ hx rfl, rfl, rfl, rfl⟩
    · exact ⟨ro, es, hback r _ hx rfl, rfl, rfl⟩
  refine ⟨⟨inv.imlt, fun r k hk => ?_, fun r r' k k' b hk hk' ha ha' => inv.inj r r' k k' b (hback r k hk ha) (hback r' k' hk' ha') ha ha'⟩, le⟩
  cases ha : k.alive with
  | false => cases k <;> first | trivial | simp [Blk.alive] at ha
  | true => exact (inv.blk r k (hback r k hk ha)).mono le rfl (fun _ _ _ => rfl) (fun _ _ _ => Iff.rfl)

/-- What is told of the small heap behind a step is told otherwise. -/
def Shift (H H1 : Heap) (d : D) (H2 : Heap) (d2 : D) : Prop := ∀ (c c1 : Cx) (v : Value), Inv c → Inv c1 → Le c c1 → c.hp = H → c1.hp = H1 → Rep c1 v d → ∃ c2 : Cx, c2.w = c1.w ∧ c2.hp = H2 ∧ Inv c2 ∧ Le c c2 ∧ Rep c2 v d2
/-- What refers to block n refers to block r, of generations from g on. -/
def mvD (n r g : Nat) : D → D
  | .ref m i o k => if m = n then .ref r i o (g + k) else .ref m i o k
  | .slice m i l k => if m = n then .slice r i l (g + k) else .slice m i l k
  | d => d
theorem shift_into {H : Heap} {r g g0 sz : Nat} {ro : Bool} {xs : List (List D)} {d : D} (hr : H[r]? = some (.gone g)) (hun : ∀ x, x ∈ xs → ∀ e, e ∈ x → Under H.length e) (hd : (∃ i o k, d = .ref H.length i o k) ∨ ∃ i l k, d = .slice H.length i l k) :
    Shift H (H ++ [.cells g0 sz ro xs]) d (H.set r (.cells (g + g0) sz ro xs)) (mvD H.length r g d) := by
  intro c c1 v inv inv1 le hc hc1 hv
  subst hc
  have hrn : r < c.hp.length := (List.getElem?_eq_some_iff.1 hr).1
  have hlast : c1.hp[c.hp.length]? = some (.cells g0 sz ro xs) := by rw [hc1]; simp
  have hold : ∀ x, x < c.hp.length → c1.hp[x]? = c.hp[x]? := fun x hx => by rw [hc1, List.getElem?_append_left hx]
  have hlen1 : c1.hp.length = c.hp.length + 1 := by rw [hc1]; simp
  let c2 : Cx := { im := c1.im, mu := fun x => if x = r then c1.mu c.hp.length else c1.mu x, hp := c.hp.set r (.cells (g + g0) sz ro xs), w := c1.w }
  have hset : ∀ x, c2.hp[x]? = if x = r then some (.cells (g + g0) sz ro xs) else c.hp[x]? := by
    intro x
    simp only [c2]
    rw [List.getElem?_set]
    by_cases h : x = r
    · subst h; simp [hrn]
    · simp [h, Ne.symm h]
  have hmur : c2.mu r = c1.mu c.hp.length := by simp [c2]
  have hmu : ∀ x, x ≠ r → c2.mu x = c1.mu x := fun x hx => by simp [c2, hx]
  -- what refers to the first blocks alone
  have hmove : ∀ {v : Value} {d : D}, Rep c1 v d → Under c.hp.length d → Rep c2 v d := fun {v d} h hu => by
    have h1 : Rep { c1 with hp := c.hp } v d := h.cut (c' := { c1 with hp := c.hp }) (n := c.hp.length) (Nat.le_refl _) (fun x hx => (hold x hx).symm) rfl rfl (fun b hb => hb) hu
    refine h1.move (c' := c2) (fun b hb => hb) (fun b _ => rfl) (by simp [c2]) (fun x hx => ?_) (fun x g' sz' ro' xs' hx hg' hy => ?_) (fun x g' ro' es' hx hg' hy => ?_)
    · unfold ng
      rw [hset]
      by_cases h : x = r
      · subst h; simp [hr, Blk.next]; omega
      · simp [h]
    · rw [hset] at hy
      by_cases h : x = r
      · subst h
        simp only [if_true, Option.some.injEq, Blk.cells.injEq] at hy
        simp only [ng, hr, Option.map_some, Option.getD_some, Blk.next] at hg'
        omega
      · rw [if_neg h] at hy
        exact ⟨ro', xs', hy, rfl, hmu x h, rfl⟩
    · rw [hset] at hy
      by_cases h : x = r
      · subst h
        simp at hy
      · rw [if_neg h] at hy
        exact ⟨ro', es', hy, by rw [hmu x h], rfl⟩
  have le2 : Le c c2 := by
    refine ⟨le.os, le.tape, le.output, le.size, by simp [c2], le.im, le.imk, le.imn, fun b hb => ?_, le.frame, fun x hx => ?_, fun x g' sz' ro' xs' hx hg' hy => ?_, fun x g' ro' es' hx hg' hy => ?_⟩
    · obtain ⟨x, k, h1, h2, h3⟩ := hb
      rw [hset] at h1
      by_cases h : x = r
      · subst h
        rw [hmur] at h3
        simp only [if_true, Option.some.injEq] at h1
        subst h1
        exact le.own b ⟨_, _, hlast, rfl, h3⟩
      · rw [if_neg h] at h1
        rw [hmu x h] at h3
        exact le.own b ⟨x, k, (hold x (List.getElem?_eq_some_iff.1 h1).1).trans h1, h2, h3⟩
    · unfold ng
      rw [hset]
      by_cases h : x = r
      · subst h; simp [hr, Blk.next]; omega
      · simp [h]
    · rw [hset] at hy
      by_cases h : x = r
      · subst h
        simp only [if_true, Option.some.injEq, Blk.cells.injEq] at hy
        simp only [ng, hr, Option.map_some, Option.getD_some, Blk.next] at hg'
        omega
      · rw [if_neg h] at hy
        rw [hmu x h]
        exact le.refs x g' sz' ro' xs' hx hg' ((hold x hx).trans hy)
    · rw [hset] at hy
      by_cases h : x = r
      · subst h
        simp at hy
      · rw [if_neg h] at hy
        rw [hmu x h]
        exact le.maps x g' ro' es' hx hg' ((hold x hx).trans hy)
  have hidx : ∀ x k, c2.hp[x]? = some k → ∃ y, c1.hp[y]? = some (if x = r then .cells g0 sz ro xs else k) ∧ c2.mu x = c1.mu y ∧ ((x = r ∧ y = c.hp.length ∧ k = .cells (g + g0) sz ro xs) ∨ (x ≠ r ∧ y = x ∧ c.hp[x]? = some k)) := fun x k hk => by
    rw [hset] at hk
    by_cases h : x = r
    · subst h
      simp only [if_true, Option.some.injEq] at hk
      exact ⟨c.hp.length, by simpa using hlast, hmur, .inl ⟨rfl, rfl, hk.symm⟩⟩
    · rw [if_neg h] at hk
      exact ⟨x, by rw [if_neg h, hold x (List.getElem?_eq_some_iff.1 hk).1]; exact hk, hmu x h, .inr ⟨h, rfl, hk⟩⟩
  refine ⟨c2, rfl, rfl, ⟨inv1.imlt, fun x k hk => ?_, fun x x' k k' b hk hk' ha ha' hb hb' => ?_⟩, le2, ?_⟩
  · obtain ⟨y, h1, h2, h3⟩ := hidx x k hk
    rcases h3 with ⟨hx, rfl, rfl⟩ | ⟨hx, rfl, h3⟩
    · rw [if_pos hx] at h1
      obtain ⟨z0, cs, e, fz, z1, z2, z3, z4, z5, z6, z7⟩ := inv1.blk _ _ h1
      refine ⟨z0, cs, e, fz, ?_, ?_, ?_, fun i y hy => ?_, ?_, ?_, z7⟩
      · rw [h2]; exact z1
      · rw [h2]; exact z2
      · rw [h2]; exact z3
      · rw [h2]
        exact ⟨(z4 i y hy).1, fun o e' ho => hmove ((z4 i y hy).2 o e' ho) (hun y (mem_of_get hy) e' (mem_of_get ho))⟩
      · rw [h2]; exact z5
      · rw [h2]; exact z6
    · rw [if_neg hx] at h1
      have h0 := inv.blk y k h3
      have h4 := inv1.blk y k h1
      cases k with
      | gone g => trivial
      | cells g' sz' ro' xs' =>
        obtain ⟨_, _, _, _, _, _, _, y4, _, _, _⟩ := h0
        obtain ⟨z0, cs, e, fz, z1, z2, z3, z4, z5, z6, z7⟩ := h4
        refine ⟨z0, cs, e, fz, ?_, ?_, ?_, fun i w hw => ?_, ?_, ?_, z7⟩
        · rw [h2]; exact z1
        · rw [h2]; exact z2
        · rw [h2]; exact z3
        · rw [h2]
          exact ⟨(z4 i w hw).1, fun o e' ho => hmove ((z4 i w hw).2 o e' ho) ((y4 i w hw).2 o e' ho).under⟩
        · rw [h2]; exact z5
        · rw [h2]; exact z6
      | map g' ro' es' =>
        have y4 := h0.1.under
        obtain ⟨z4, z5, z6⟩ := h4
        refine ⟨?_, ?_, ?_⟩
        · rw [h2]; exact z4.to rfl rfl fun e he v => ⟨fun h => hmove h (y4 e he).1, fun h => hmove h (y4 e he).2⟩
        · rw [h2]; exact z5
        · rw [h2]; exact z6
  · obtain ⟨y, h1, h2, h3⟩ := hidx x k hk
    obtain ⟨y', h1', h2', h3'⟩ := hidx x' k' hk'
    rw [h2] at hb
    rw [h2'] at hb'
    have hal : ∀ {x : Nat} {k : Blk}, k.alive = true → ((if x = r then .cells g0 sz ro xs else k : Blk)).alive = true := fun {x k} h => by
      split
      · rfl
      · exact h
    have hat : ∀ {x y : Nat} {k : Blk} {m : Nat × Nat} {b : Nat}, k.at m b → ((x = r ∧ y = c.hp.length ∧ k = .cells (g + g0) sz ro xs) ∨ (x ≠ r ∧ y = x ∧ c.hp[x]? = some k)) → ((if x = r then .cells g0 sz ro xs else k : Blk)).at m b := fun {x y k m b} h h3 => by
      rcases h3 with ⟨e1, _, rfl⟩ | ⟨e1, _, _⟩
      · rw [if_pos e1]; exact h
      · rw [if_neg e1]; exact h
    have := inv1.inj y y' _ _ b h1 h1' (hal ha) (hal ha') (hat hb h3) (hat hb' h3')
    subst this
    rcases h3 with ⟨e1, e2, _⟩ | ⟨e1, e2, e3⟩ <;> rcases h3' with ⟨e1', e2', _⟩ | ⟨e1', e2', e3'⟩
    · rw [e1, e1']
    · have := (List.getElem?_eq_some_iff.1 e3').1
      omega
    · have := (List.getElem?_eq_some_iff.1 e3).1
      omega
    · omega
  · rcases hd with ⟨i, o, k, rfl⟩ | ⟨i, l, k, rfl⟩
    · simp only [mvD, if_true]
      cases hv with
      | ref _ _ _ _ _ h1 h2 h3 =>
        simp only [ng, hlast, Option.map_some, Option.getD_some, Blk.next] at h2
        refine .ref _ _ _ _ _ (by simpa [c2] using hrn) (by unfold ng; rw [hset]; simp [Blk.next]; omega) fun sz' ro' xs' hy => ?_
        rw [hset] at hy
        simp only [if_true, Option.some.injEq, Blk.cells.injEq] at hy
        obtain ⟨e1, rfl, rfl, rfl⟩ := hy
        obtain rfl : k = g0 := by omega
        rw [hmur]
        exact h3 _ _ _ hlast
    · simp only [mvD, if_true]
      cases hv with
      | slice _ _ _ _ _ h1 h2 h3 =>
        simp only [ng, hlast, Option.map_some, Option.getD_some, Blk.next] at h2
        refine .slice _ _ _ _ _ (by simpa [c2] using hrn) (by unfold ng; rw [hset]; simp [Blk.next]; omega) fun sz' ro' xs' hy => ?_
        rw [hset] at hy
        simp only [if_true, Option.some.injEq, Blk.cells.injEq] at hy
        obtain ⟨e1, rfl, rfl, rfl⟩ := hy
        obtain rfl : k = g0 := by omega
        rw [hmur]
        exact h3 _ _ _ hlast
/-! ### blocks that never change from here on -/
/-- The blocks in S never change from here on; they, and others, are given up. -/
def Stills (S : Nat → Prop) (H H' : Heap) : Prop := H'.length = H.length ∧ ∀ (r : Nat) (k : Blk), H[r]? = some k → H'[r]? = some (.gone k.next) ∨ (¬ S r ∧ H'[r]? = some k)
theorem Stills.refl (H : Heap) : Stills (fun _ => False) H H := ⟨rfl, fun _ _ h => .inr ⟨id, h⟩⟩
theorem Drops.stills {H H' : Heap} (h : Drops H H') : Stills (fun _ => False) H H' := ⟨h.1, fun r k hk => (h.2 r k hk).elim (fun h => .inr ⟨id, h⟩) .inl⟩
def Cx.rest (S : Nat → Prop) (c : Cx) (H' : Heap) : Cx := { im := fun b => c.im b ∨ OwnIn S c b, mu := c.mu, hp := H', w := c.w }
theorem stills_ok {c : Cx} (inv : Inv c) {S : Nat → Prop} {H' : Heap} (h : Stills S c.hp H') : Inv (c.rest S H') ∧ Le c (c.rest S H') := by
  have hback : ∀ (r : Nat) (k : Blk), H'[r]? = some k → k.alive = true → c.hp[r]? = some k ∧ ¬ S r := fun r k hk ha => by
    have hr : r < c.hp.length := by rw [← h.1]; exact (List.getElem?_eq_some_iff.1 hk).1
    rcases h.2 r _ (List.getElem?_eq_getElem hr) with h1 | ⟨h0, h1⟩
    · rw [h1] at hk
      cases hk
      cases ha
    · rw [h1] at hk
      rw [List.getElem?_eq_getElem hr]
      exact ⟨hk, h0⟩
  have le : Le c (c.rest S H') := by
    refine ⟨rfl, rfl, rfl, Nat.le_refl _, Nat.le_of_eq h.1.symm, fun _ hb => .inl hb, fun _ _ => rfl, fun b hb => ?_, fun b hb => ?_, fun _ _ _ => rfl, fun r hr => ?_, fun r g sz ro xs hr hg hx => ?_, fun r g ro es hr hg hx => ?_⟩
    · rcases hb with hb | ⟨r, k, _, hb⟩
      · exact .inl hb
      · exact .inr (.inl ⟨r, k, hb⟩)
    · obtain ⟨r, k, h1, h2, h3⟩ := hb
      exact .inl ⟨r, k, (hback r k h1 h2).1, h2, h3⟩
    · have h0 := List.getElem?_eq_getElem hr
      rcases h.2 r _ h0 with h1 | ⟨_, h1⟩
      · simp only [ng, Cx.rest, h0, h1, Option.map_some, Option.getD_some]; exact Nat.le_refl _
      · simp only [ng, Cx.rest, h0, h1]; exact Nat.le_refl _
    · exact ⟨ro, xs, (hback r _ hx rfl).1, rfl, rfl, rfl⟩
    · exact ⟨ro, es, (hback r _ hx rfl).1, rfl, rfl⟩
  refine ⟨⟨fun b hb => ?_, fun r k hk => ?_, fun r r' k k' b hk hk' ha ha' => inv.inj r r' k k' b (hback r k hk ha).1 (hback r' k' hk' ha').1 ha ha'⟩, le⟩
  · rcases hb with hb | ⟨r, k, _, hb⟩
    · exact inv.imlt b hb
    · exact inv.ownlt ⟨r, k, hb⟩
  · cases ha : k.alive with
    | false => cases k <;> first | trivial | simp [Blk.alive] at ha
    | true =>
      obtain ⟨h1, h2⟩ := hback r k hk ha
      refine (inv.blk r k h1).mono le rfl (fun _ _ _ => rfl) (fun _ b hat => ⟨fun hb => hb.elim id fun ⟨r', k', hS, g1, g2, g3⟩ => ?_, .inl⟩)
      have := inv.inj r' r k' k b g1 h1 g2 ha g3 hat
      subst this
      exact absurd hS h2
theorem stills_rep {c : Cx} (inv : Inv c) {S : Nat → Prop} {H' : Heap} (h : Stills S c.hp H') {v : Value} {d d' : D} (hr : Rep c v d) (hs : d' = d ∨ Snap S c.hp d d') : Rep (c.rest S H') v d' := by
  rcases hs with rfl | hs
  · exact hr.mono (stills_ok inv h).2
  · exact (hs c v inv rfl hr).bare rfl (fun b hb => hb) (fun b hb => rfl)
/-- A variable that is made and never changed. -/
theorem shift_var {H : Heap} {sz : Nat} {cs : List D} (hun : ∀ d, d ∈ cs → Under H.length d) : Shift H (H ++ [.cells 0 sz false [cs]]) (.ref H.length 0 0 0) H (.box cs) := by
  intro c c1 v inv inv1 le hc hc1 hv
  subst hc
  obtain ⟨c2, h1, h2, h3, h4, _, h5⟩ := var_ok inv inv1 le hc1 hv hun
  exact ⟨c2, h1, h2, h3, h4, h5⟩
def Blk.under (n : Nat) : Blk → Prop
  | .gone _ => True
  | .cells _ _ _ xs => ∀ x, x ∈ xs → ∀ d, d ∈ x → Under n d
  | .map _ _ es => ∀ e, e ∈ es → Under n e.1 ∧ Under n e.2
/-- Behind n places nothing is left of the small heap. -/
theorem rest_trim {c0 c : Cx} (inv : Inv c) (le : Le c0 c) {S : Nat → Prop} {H1 : Heap} {n : Nat} (h : Stills S c.hp H1) (h0 : c0.hp.length ≤ n) (hn : n ≤ H1.length) (hu : ∀ k, k ∈ H1.take n → k.under n) :
    Inv (c.rest S (H1.take n)) ∧ Le c0 (c.rest S (H1.take n)) ∧ (∀ (v : Value) (d : D), Rep c v d → Under n d → Rep (c.rest S (H1.take n)) v d) ∧ ∀ (v : Value) (d d' : D), Rep c v d → Snap S c.hp d d' → Rep (c.rest S (H1.take n)) v d' := by
  obtain ⟨inv1, le1⟩ := stills_ok inv h
  have leA := le.trans le1
  have hlen : (H1.take n).length = n := by rw [List.length_take]; omega
  have hget : ∀ (r : Nat) (k : Blk), (H1.take n)[r]? = some k → r < n ∧ H1[r]? = some k := fun r k hk => by
    rw [List.getElem?_take] at hk
    split at hk
    · exact ⟨by assumption, hk⟩
    · cases hk
  have hlt : ∀ r, r < n → (H1.take n)[r]? = H1[r]? := fun r hr => by rw [List.getElem?_take, if_pos hr]
  have hcut : ∀ {v : Value} {d : D}, Rep (c.rest S H1) v d → Under n d → Rep (c.rest S (H1.take n)) v d := fun hr hd =>
    hr.cut (c' := c.rest S (H1.take n)) (n := n) (by simp only [Cx.rest, hlen]; exact Nat.le_refl _) (fun r hr => hlt r hr) rfl rfl (fun b hb => hb) hd
  refine ⟨⟨inv1.imlt, fun r k hk => ?_, fun r r' k k' b h1 h2 => inv1.inj r r' k k' b (hget r k h1).2 (hget r' k' h2).2⟩, ?_, fun v d hr hd => hcut (hr.mono le1) hd, fun v d d' hr hs => (hs c v inv rfl hr).bare rfl (fun b hb => hb) (fun b hb => rfl)⟩
  · obtain ⟨hr, hk'⟩ := hget r k hk
    have h1 := inv1.blk r k hk'
    have h2 := hu k (List.mem_of_getElem? hk)
    cases k with
    | gone g => trivial
    | cells g sz ro xs =>
      obtain ⟨z0, cs, e, fz, z1, z2, z3, z4, z5, z6, z7⟩ := h1
      exact ⟨z0, cs, e, fz, z1, z2, z3, fun i x hx => ⟨(z4 i x hx).1, fun o d ho => hcut ((z4 i x hx).2 o d ho) (h2 x (List.mem_of_getElem? hx) d (List.mem_of_getElem? ho))⟩, z5, z6, z7⟩
    | map g ro es =>
      obtain ⟨z4, z5, z6⟩ := h1
      exact ⟨z4.to rfl rfl fun e he v => ⟨fun h => hcut h (h2 e he).1, fun h => hcut h (h2 e he).2⟩, z5, z6⟩
  · refine ⟨leA.os, leA.tape, leA.output, leA.size, by simp only [Cx.rest, hlen]; exact h0, leA.im, leA.imk, leA.imn, fun b hb => ?_, leA.frame, fun r hr => ?_, fun r g sz ro xs hr hg hx => ?_, fun r g ro es hr hg hx => ?_⟩
    · obtain ⟨r, k, g1, g2, g3⟩ := hb
      exact leA.own b ⟨r, k, (hget r k g1).2, g2, g3⟩
    · have := leA.ngen r hr
      simp only [ng, Cx.rest, hlt r (by omega)] at this ⊢
      exact this
    · exact leA.refs r g sz ro xs hr hg (hget _ _ hx).2
    · exact leA.maps r g ro es hr hg (hget _ _ hx).2
end Go.Proofs.Ytejpgmemohchaaa.Vm
