/- Contracts of functions: from a body's walk; whatever else is in the small heap; what is lent, and what is handed back for good. -/
import Derived.Test.YtejpgmemohchaaaVmM
set_option linter.unusedSimpArgs false
namespace Go.Proofs.Ytejpgmemohchaaa.Vm
open Go

def ScalarRes : DRes → Prop
  | .ret d => Scalar d
  | .panic d => Scalar d

def Fine (L : Lang) : Prop := ∀ g, Flat (L.G g)
theorem GlOk.still {L : Lang} (fine : Fine L) {S : Nat → Prop} {c : Cx} (h : GlOk L c) : GlOk L (c.still S) := fun g => (h g).flat (fun _ hb => .inl hb) (fun _ _ => rfl) (fine g)

/-- A contract that tells of nothing but its arguments. -/
def PureV (L : Lang) (g : FuncId) (args : List D) (Q : DRes → Prop) : Prop := CallsV L g args [] fun r H => H = [] ∧ Q r
theorem PureV.mono {L : Lang} {g : FuncId} {args : List D} {Q Q' : DRes → Prop} (h : PureV L g args Q) (hq : ∀ r, Q r → Q' r) : PureV L g args Q' :=
  CallsV.mono h fun r _ hr => ⟨hr.1, hq r hr.2⟩

def Blk.frozen : Blk → Blk
  | .gone g => .gone g
  | .cells g sz _ xs => .cells g sz true xs
  | .map g _ es => .map g true es
theorem frozen_next (k : Blk) : k.frozen.next = k.next := by cases k <;> rfl
theorem frozen_at (k : Blk) (m : Nat × Nat) (b : Nat) : k.frozen.at m b ↔ k.at m b := by cases k <;> exact Iff.rfl
theorem frozen_alive (k : Blk) : k.frozen.alive = k.alive := by cases k <;> rfl
open Classical in
/-- The small heap, of which the blocks in S never change any more. -/
noncomputable def freeze (S : Nat → Prop) (H : Heap) : Heap := H.mapIdx fun r k => if S r then k.frozen else k
theorem freeze_none (H : Heap) : freeze (fun _ => False) H = H := by
  simp only [freeze, if_false]
  exact List.ext_getElem? fun i => by simp

def SnapL (S : Nat → Prop) (H : Heap) : List D → List D → Prop
  | [], [] => True
  | d :: ds, e :: es => Snap S H d e ∧ SnapL S H ds es
  | _, _ => False
theorem SnapL.len {S : Nat → Prop} {H : Heap} : ∀ {ds es : List D}, SnapL S H ds es → ds.length = es.length
  | [], [], _ => rfl
  | _ :: ds, _ :: es, h => by simp [SnapL.len h.2]
theorem SnapL.get {S : Nat → Prop} {H : Heap} : ∀ {ds es : List D}, SnapL S H ds es → ∀ (i : Nat) (e : D), es[i]? = some e → ∃ d, ds[i]? = some d ∧ Snap S H d e
  | [], [], _, _, _, h => by simp at h
  | d :: _, _ :: _, h, 0, e, he => ⟨d, rfl, by simp at he; exact he ▸ h.1⟩
  | _ :: _, _ :: _, h, i + 1, e, he => by simpa using SnapL.get h.2 i e (by simpa using he)

/-- A call with what never changes any more: the blocks in S are handed over, and stay as they are. -/
theorem PureV.give {L : Lang} (fine : Fine L) {g : FuncId} {args args' : List D} {H : Heap} {Q : DRes → Prop} (S : Nat → Prop) (h : PureV L g args' Q) (hs : SnapL S H args args') :
    CallsV L g args H fun r H' => H' = freeze S H ∧ Q r := by
  refine ⟨h.1, fun c vs inv hc hg hsz hargs => ?_⟩
  have inv1 := still_inv (S := S) inv
  refine (h.2 (c.still S) vs inv1 rfl (hg.still fine) (hsz.trans hs.len) (fun i e he => ?_)).mono fun e w' ⟨r, c', ⟨q0, q⟩, q2, q3, q4, q5⟩ => ?_
  · obtain ⟨d, hd, hsn⟩ := hs.get i e he
    exact hsn c _ inv hc (hargs i d hd)
  subst hc
  have hget : ∀ r : Nat, (freeze S c.hp)[r]? = (c.hp[r]?).map fun k => @ite _ (S r) (Classical.propDecidable _) k.frozen k := fun r => by simp [freeze]
  have hback : ∀ (r : Nat) (k : Blk), (freeze S c.hp)[r]? = some k → ∃ k0, c.hp[r]? = some k0 ∧ k0.alive = k.alive ∧ k0.next = k.next ∧ ((S r ∧ k = k0.frozen) ∨ (¬ S r ∧ k = k0)) := fun r k hk => by
    rw [hget] at hk
    obtain ⟨k0, h0, rfl⟩ := Option.map_eq_some_iff.1 hk
    refine ⟨k0, h0, ?_⟩
    by_cases hS : S r
    · rw [if_pos hS]; exact ⟨(frozen_alive k0).symm, (frozen_next k0).symm, .inl ⟨hS, rfl⟩⟩
    · rw [if_neg hS]; exact ⟨rfl, rfl, .inr ⟨hS, rfl⟩⟩
  have hst : ∀ b, b < c.w.heap.size → c'.w.heap[b]? = c.w.heap[b]? := fun b hb => q4.frame b hb (fun ⟨r, k, h1, _⟩ => by simp [Cx.still] at h1)
  have hng : ∀ r, ng (freeze S c.hp) r = ng c.hp r := fun r => by
    simp only [ng, hget]
    cases c.hp[r]? with
    | none => rfl
    | some k =>
      by_cases hS : S r
      · simp [if_pos hS, frozen_next]
      · simp [if_neg hS]
  have him : ∀ b, c'.im b → c.im b ∨ OwnIn S c b ∨ c.w.heap.size ≤ b := fun b hb => by
    rcases q4.imn b hb with h1 | ⟨r, k, h1, _⟩ | h1
    · exact h1.elim .inl (fun h => .inr (.inl h))
    · simp [Cx.still] at h1
    · exact .inr (.inr h1)
  let c2 : Cx := { im := c'.im, mu := c.mu, hp := freeze S c.hp, w := c'.w }
  have le : Le c c2 := by
    refine ⟨q4.os, q4.tape, q4.output, q4.size, by simp [c2, freeze], fun b hb => q4.im b (.inl hb), fun b hb => hst b (inv.imlt b hb), fun b hb => ?_, fun b hb => ?_, fun b hb _ => hst b hb, fun r hr => by simp only [c2, hng]; exact Nat.le_refl _,
      fun r g sz ro xs hr hgn hx => ?_, fun r g ro es hr hgn hx => ?_⟩
    · rcases him b hb with h1 | ⟨r, k, _, h1⟩ | h1
      · exact .inl h1
      · exact .inr (.inl ⟨r, k, h1⟩)
      · exact .inr (.inr h1)
    · obtain ⟨r, k, h1, h2, h3⟩ := hb
      obtain ⟨k0, e1, e2, _, e4⟩ := hback r k h1
      refine .inl ⟨r, k0, e1, e2.trans h2, ?_⟩
      rcases e4 with ⟨_, rfl⟩ | ⟨_, rfl⟩
      · exact (frozen_at _ _ _).1 h3
      · exact h3
    · obtain ⟨k0, e1, e2, e3, e4⟩ := hback r _ hx
      have hb : ∀ ro0, k0 = .cells g sz ro0 xs → bsize c'.w (c.mu r).1 = bsize c.w (c.mu r).1 := fun ro0 hk => by
        have hlt := (inv.blk r k0 e1).lt (by rw [hk]; rfl)
        unfold bsize
        rw [hst _ hlt]
      rcases e4 with ⟨_, e4⟩ | ⟨_, e4⟩
      · cases k0 with
        | gone => cases e4
        | map => cases e4
        | cells g' sz' ro' xs' =>
          simp only [Blk.frozen, Blk.cells.injEq] at e4
          obtain ⟨rfl, rfl, _, rfl⟩ := e4
          exact ⟨ro', xs, e1, rfl, rfl, hb ro' rfl⟩
      · subst e4
        exact ⟨ro, xs, e1, rfl, rfl, hb ro rfl⟩
    · obtain ⟨k0, e1, e2, e3, e4⟩ := hback r _ hx
      rcases e4 with ⟨_, e4⟩ | ⟨_, e4⟩
      · cases k0 with
        | gone => cases e4
        | cells => cases e4
        | map g' ro' es' =>
          simp only [Blk.frozen, Blk.map.injEq] at e4
          obtain ⟨rfl, _, rfl⟩ := e4
          exact ⟨ro', es, e1, rfl, rfl⟩
      · subst e4
        exact ⟨ro, es, e1, rfl, rfl⟩
  refine ⟨r, c2, ⟨rfl, q⟩, q2, ⟨q3.imlt, fun r k hk => ?_, fun r r' k k' b hk hk' ha ha' hb hb' => ?_⟩, le, ?_⟩
  · obtain ⟨k0, e1, e2, e3, e4⟩ := hback r k hk
    have h0 := inv.blk r k0 e1
    cases hal : k.alive with
    | false => cases k <;> first | trivial | simp [Blk.alive] at hal
    | true =>
    have hlt := h0.lt (e2.trans hal)
    have hsame := hst _ hlt
    have hsameB : ∀ b, k0.at (c.mu r) b → c'.w.heap[b]? = c.w.heap[b]? := fun b hb => hst b (h0.atlt (e2.trans hal) hb)
    rcases e4 with ⟨hS, e4⟩ | ⟨hS, e4⟩
    · have hiS : c'.im (c.mu r).1 := q4.im _ (.inr ⟨r, k0, hS, e1, e2.trans hal, k0.at_fst _⟩)
      cases k0 with
      | gone => simp [Blk.frozen] at e4; subst e4; trivial
      | cells g' sz' ro' xs' =>
        subst e4
        obtain ⟨z0, cs, e, fz, z1, z2, z3, z4, z5, z6, z7⟩ := h0
        exact ⟨z0, cs, e, fz, hsame.trans z1, z2, fun hh => by simp at hh, fun i x hx => ⟨(z4 i x hx).1, fun o d ho => ((z4 i x hx).2 o d ho).mono le⟩, fun _ => hiS, fun hh => by simp at hh, z7⟩
      | map g' ro' es' =>
        subst e4
        have hi2 : c'.im (c.mu r).2 := q4.im _ (.inr ⟨r, _, hS, e1, e2.trans hal, .inr rfl⟩)
        obtain ⟨z4, z5, z6⟩ := h0
        exact ⟨z4.to (hsameB _ (.inl rfl)) (hsameB _ (.inr rfl)) fun e _ v => ⟨fun h => h.mono le, fun h => h.mono le⟩, fun _ => ⟨hiS, hi2⟩, fun hh => by simp at hh⟩
    · subst e4
      refine h0.mono le rfl (fun _ => hsameB) (fun _ b hat => ⟨fun hb => ?_, fun hb => q4.im _ (.inl hb)⟩)
      rcases him _ hb with h1 | ⟨r', k', hS', h1, h2, h3⟩ | h1
      · exact h1
      · exact absurd (inv.inj r' r k' k b h1 e1 h2 hal h3 hat ▸ hS') hS
      · have := h0.atlt (e2.trans hal) hat
        omega
  · obtain ⟨k0, e1, e2, _, e4⟩ := hback r k hk
    obtain ⟨k0', e1', e2', _, e4'⟩ := hback r' k' hk'
    have t1 : k0.at (c.mu r) b := by
      rcases e4 with ⟨_, rfl⟩ | ⟨_, rfl⟩
      · exact (frozen_at _ _ _).1 hb
      · exact hb
    have t2 : k0'.at (c.mu r') b := by
      rcases e4' with ⟨_, rfl⟩ | ⟨_, rfl⟩
      · exact (frozen_at _ _ _).1 hb'
      · exact hb'
    exact inv.inj r r' k0 k0' b e1 e1' (e2.trans ha) (e2'.trans ha') t1 t2
  · cases e <;> cases r <;> try exact q5.elim
    · exact Rep.bare (c := c') q5 q0 (fun b hb => hb) (fun b hb => rfl)
    · obtain ⟨v, z1, z2⟩ := q5
      exact ⟨v, z1, Rep.bare (c := c') z2 q0 (fun b hb => hb) (fun b hb => rfl)⟩

/-- A call with arguments without references. -/
theorem SnapL.flat {S : Nat → Prop} {H : Heap} : ∀ {ds : List D}, (∀ d, d ∈ ds → Flat d) → SnapL S H ds ds
  | [], _ => trivial
  | d :: _, h => ⟨.flat (h d (List.mem_cons_self ..)), SnapL.flat fun d hd => h d (List.mem_cons_of_mem _ hd)⟩
theorem PureV.use {L : Lang} (fine : Fine L) {g : FuncId} {args : List D} {H : Heap} {Q : DRes → Prop} (h : PureV L g args Q) (hf : ∀ d, d ∈ args → Flat d) : CallsV L g args H fun r H' => H' = H ∧ Q r := by
  have := h.give fine (fun _ => False) (H := H) (.flat hf)
  rwa [freeze_none] at this

/-- A call that is lent what it works on: it hands back what refers to nothing. -/
theorem PureV.lend {L : Lang} (fine : Fine L) {g : FuncId} {args args' : List D} {H : Heap} {Q : DRes → Prop} (h : PureV L g args' Q) (hs : SnapL (fun _ => True) H args args') (hq : ∀ r, Q r → ScalarRes r) :
    CallsV L g args H fun r H' => H' = H ∧ Q r := by
  refine ⟨h.1, fun c vs inv hc hg hsz hargs => ?_⟩
  have inv1 := still_inv (S := fun _ => True) inv
  refine (h.2 (c.still fun _ => True) vs inv1 rfl (hg.still fine) (hsz.trans hs.len) (fun i e he => ?_)).mono fun e w' ⟨r, c', ⟨q0, q⟩, q2, q3, q4, q5⟩ => ?_
  · obtain ⟨d, hd, hsn⟩ := hs.get i e he
    exact hsn c _ inv hc (hargs i d hd)
  subst hc
  have hst : ∀ b, b < c.w.heap.size → c'.w.heap[b]? = c.w.heap[b]? := fun b hb => q4.frame b hb (fun ⟨r, k, h1, _⟩ => by simp [Cx.still] at h1)
  let c2 : Cx := { im := c.im, mu := c.mu, hp := c.hp, w := c'.w }
  have le : Le c c2 := by
    refine ⟨q4.os, q4.tape, q4.output, q4.size, Nat.le_refl _, fun b hb => hb, fun b hb => hst b (inv.imlt b hb), fun b hb => .inl hb, fun b hb => .inl hb, fun b hb _ => hst b hb, fun r hr => Nat.le_refl _,
      fun r g sz ro xs hr hgn hx => ⟨ro, xs, hx, rfl, rfl, ?_⟩, fun r g ro es hr hgn hx => ⟨ro, es, hx, rfl, rfl⟩⟩
    have hlt := (inv.blk r _ hx).lt rfl
    simp only [c2, bsize, hst _ hlt]
  refine ⟨r, c2, ⟨rfl, q⟩, q2, ⟨fun b hb => Nat.lt_of_lt_of_le (inv.imlt b hb) q4.size, fun r k hk => (inv.blk r k hk).mono le rfl (fun ha b hb => hst _ ((inv.blk r k hk).atlt ha hb)) (fun _ _ _ => Iff.rfl), inv.inj⟩, le, ?_⟩
  have hsc := hq r q
  cases e <;> cases r <;> try exact q5.elim
  · exact Rep.scalar (c := c') q5 hsc
  · obtain ⟨v, z1, z2⟩ := q5
    exact ⟨v, z1, z2.scalar hsc⟩

/-! ### from a body -/
def argF (args : List D) : Fr := fun t => args.getD t (.tuple [])
def endD (T : TypeId → TI) (rs : List ResultVar) (Q : DRes → Heap → Prop) : DPost
  | .normal, f, H => ∃ d, resD T f H rs = some d ∧ Q (.ret d) H
  | .ret, f, H => ∃ d, resD T f H rs = some d ∧ Q (.ret d) H
  | .panic d, _, H => Q (.panic d) H
  | .exit _, _, _ => False

theorem resD_ok {L : Lang} (ok : L.Ok) {c : Cx} (inv : Inv c) {f : Fr} {fn : Func} {tmps : Array Value} (hf : FrRep c tmps f) {d : D} (h : resD L.T f c.hp fn.results.toList = some d) :
    ∃ v, (results fn tmps).run L.P c.w = .ok v c.w ∧ Rep c v d := by
  unfold resD at h
  cases ha : resAll L.T f c.hp fn.results.toList with
  | none => simp [ha] at h
  | some ds =>
  obtain ⟨vs, h1, h2, h3⟩ := resAll_ok ok inv hf _ _ ha
  have hrun : (fn.results.mapM (resRun tmps)).run L.P c.w = .ok vs.toArray c.w := by
    rw [Array.mapM_eq_mapM_toList, Sem.run_map, h1]
    rfl
  have hres : results fn tmps = (do
      let vs ← fn.results.mapM (resRun tmps)
      pure (if h : vs.size = 1 then vs[0] else .tuple vs)) := rfl
  refine ⟨if h : vs.toArray.size = 1 then vs.toArray[0] else .tuple vs.toArray, ?_, ?_⟩
  · rw [hres, Sem.run_bind, hrun]
    rfl
  · rw [ha] at h
    clear hrun h1 ha
    match vs, ds, h2, h3, h with
    | [], [], _, _, h =>
      obtain rfl := Option.some.inj h
      exact .tuple _ _ rfl (fun i d hd => by simp at hd)
    | [v], [e], _, h3, h =>
      obtain rfl := Option.some.inj h
      simpa using h3 0 e rfl
    | v :: v' :: vs, e :: e' :: ds, h2, h3, h =>
      obtain rfl := Option.some.inj h
      simp only [List.size_toArray, List.length_cons, Nat.add_eq_right, Nat.add_eq_zero_iff, Nat.succ_ne_self, and_false, dite_false]
      refine .tuple _ _ (by simpa using h2) (fun i d hd => ?_)
      have := h3 i d hd
      simpa [Array.getD_eq_getD_getElem?, List.getD_eq_getElem?_getD] using this

theorem calls_of_body {L : Lang} (ok : L.Ok) {g : FuncId} {fn : Func} {code : Code} {args : List D} {H : Heap} {Q : DRes → Heap → Prop} (hf : L.P.funcs[g]? = some fn) (hb : fn.body = some code) (hn : (fn.name == "runtime.NumGoroutine") = false)
    (hl : args.length ≤ fn.ntmps) (hd : dstsOk fn.ntmps code = true) (h : wpD L code (argF args) H (endD L.T fn.results.toList Q)) : CallsV L g args H Q := by
  refine ⟨⟨fn, hf, by simp [hb], hn⟩, fun c vs inv hc hg hsz hargs => ?_⟩
  subst hc
  refine calls_of_wp hf hb ?_
  have hsize : (vs ++ Array.replicate (fn.ntmps - vs.size) undef).size = fn.ntmps := by simp; omega
  refine wp_mono (code_ok ok code (argF args) _ c hg hd c _ h inv .refl (fun t => ?_) hsize rfl) fun e a w ⟨x, f, c', h1, h2, h3, h4, h5, h6, h7, h8⟩ => ?_
  · have hget : (vs ++ Array.replicate (fn.ntmps - vs.size) undef).getD t undef = if t < vs.size then vs.getD t undef else undef := by
      simp only [Array.getD_eq_getD_getElem?]
      by_cases q1 : t < vs.size
      · rw [if_pos q1, Array.getElem?_append_left q1]
      · rw [if_neg q1, Array.getElem?_append_right (by omega), Array.getElem?_replicate]
        split <;> rfl
    simp only [hget, argF, List.getD_eq_getElem?_getD]
    split
    · rename_i ht
      have ht' : t < args.length := hsz ▸ ht
      rw [List.getElem?_eq_getElem ht']
      have key := hargs t _ (List.getElem?_eq_getElem ht')
      rw [Array.getD, dif_pos ht] at key
      exact key
    · rename_i ht
      rw [List.getElem?_eq_none (by omega)]
      exact undef_rep
  · subst h3
    cases e <;> cases x <;> try exact h2.elim
    · obtain ⟨d, r1, r2⟩ := h1
      obtain ⟨v, v1, v2⟩ := resD_ok ok h4 h6 r1
      exact ⟨h8, v, v1, .ret d, c', r2, rfl, h4, h5, v2⟩
    · exact h1.elim
    · obtain ⟨d, r1, r2⟩ := h1
      obtain ⟨v, v1, v2⟩ := resD_ok ok h4 h6 r1
      exact ⟨h8, v, v1, .ret d, c', r2, rfl, h4, h5, v2⟩
    · exact ⟨h8, .panic _, c', h1, rfl, h4, h5, h2⟩

/-- Where all that was made is handed back for good, or dropped. -/
theorem CallsV.close {L : Lang} {g : FuncId} {args : List D} {Q : DRes → Heap → Prop} {Q' : DRes → Prop} (h : CallsV L g args [] Q)
    (hq : ∀ r H, Q r H → match r with
      | .ret d => ∃ d', Snap (fun _ => True) H d d' ∧ Q' (.ret d')
      | .panic d => ∃ d', Snap (fun _ => True) H d d' ∧ Q' (.panic d')) : PureV L g args Q' := by
  refine ⟨h.1, fun c vs inv hc hg hsz hargs => (h.2 c vs inv hc hg hsz hargs).mono fun e w' ⟨r, c', q, q2, q3, q4, q5⟩ => ?_⟩
  have hno : ∀ b, ¬ Own c b := fun b ⟨r, k, h1, _⟩ => by simp [hc] at h1
  have le : Le c (c'.still fun _ => True) := by
    refine ⟨q4.os, q4.tape, q4.output, q4.size, by simp [hc], fun b hb => .inl (q4.im b hb), q4.imk, fun b hb => ?_, fun b hb => ?_, q4.frame, fun r hr => by simp [hc] at hr, fun r _ _ _ _ hr => by simp [hc] at hr, fun r _ _ _ hr => by simp [hc] at hr⟩
    · rcases hb with hb | ⟨r, k, _, hb⟩
      · exact q4.imn b hb
      · exact .inr (q4.own b ⟨r, k, hb⟩)
    · obtain ⟨r, k, h1, _⟩ := hb
      simp [Cx.still] at h1
  have hh := hq r _ q
  cases e <;> cases r <;> try exact q5.elim
  · obtain ⟨d', s1, s2⟩ := hh
    exact ⟨.ret d', c'.still fun _ => True, ⟨rfl, s2⟩, q2, still_inv q3, le, s1 c' _ q3 rfl q5⟩
  · obtain ⟨d', s1, s2⟩ := hh
    obtain ⟨v, z1, z2⟩ := q5
    exact ⟨.panic d', c'.still fun _ => True, ⟨rfl, s2⟩, q2, still_inv q3, le, v, z1, s1 c' _ q3 rfl z2⟩
end Go.Proofs.Ytejpgmemohchaaa.Vm
