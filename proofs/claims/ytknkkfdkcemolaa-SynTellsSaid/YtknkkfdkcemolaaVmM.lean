/- Code and calls on plain values, and that the machine follows. -/
import Derived.Test.YtknkkfdkcemolaaVmLs
set_option linter.unusedVariables false
set_option linter.unusedSimpArgs false
namespace Go.Proofs.Ytknkkfdkcemolaa.Vm
open Go

/-- A place that holds a new strings.Builder (its type, a byte's). -/
abbrev bldZ (t e : Nat) : Blk := .map 0 false [(.int .i64 1, .tuple [.int .i64 t, .int .i64 e, .str []])]
theorem bldAlloc_ok {L : Lang} (ok : L.Ok) {c : Cx} (inv : Inv c) {a : Act} {dst : Option Nat} {ty : TypeId} {pos : String} {after : Array Edge} {guard : Option (Nat × Bool)} {t e : Nat} (hz : (L.T t).zero = [.nilptr, .nilsl]) (hk : (L.T t).k.known = true) :
    OpOk L.P c (execOp a.eval ⟨dst, .alloc t, ty, pos, after, guard⟩) (.map c.hp.length 0) (c.hp ++ [bldZ t e]) := by
  obtain ⟨z, z1, z2, z3, z4, z5⟩ := zero_holds ok c hk
  rw [hz] at z3 z5
  have hz2 : z.cells.size = 2 := by rw [z2, ← z3]; rfl
  have hc : z.cells = #[.pointer none, .slice none 0 0] := by
    have r0 := z5 0 _ rfl
    have r1 := z5 1 _ rfl
    have e0 : z.cells.getD 0 undef = .pointer none := by
      generalize z.cells.getD 0 undef = q at r0 ⊢
      cases r0; rfl
    have e1 : z.cells.getD 1 undef = .slice none 0 0 := by
      generalize z.cells.getD 1 undef = q at r1 ⊢
      cases r1; rfl
    apply Array.ext (by simpa using hz2)
    intro i h1 h2
    have h3 : i < 2 := by simpa using h2
    match i, h3 with
    | 0, _ => simpa [Array.getD_eq_getD_getElem?, h1] using e0
    | 1, _ => simpa [Array.getD_eq_getD_getElem?, h1] using e1
  have hp := push_ok inv (k := bldZ t e) (m := (c.w.heap.size, c.w.heap.size)) (w' := c.w.alloc (.cells z.cells t)) rfl rfl rfl (by simp) (fun b hb => heap_alloc_old c.w _ b hb) (fun b _ hat => by
      rcases hat with hat | hat <;> exact Nat.le_of_eq hat) (fun le => ?_)
  · refine ⟨.value (.pointer (some ⟨c.w.heap.size, 0, none⟩)), _, _, ?_, .inl rfl, rfl, hp.1, hp.2, ?_⟩
    · simp [execOp, Instr.alloc, z1, newVar, run_newRow]
      rfl
    · refine .map _ _ _ (by simp [Cx.push]) (by simp [ng, Cx.push, Blk.next]) fun ro es hx => ?_
      simp only [Cx.push, List.getElem?_concat_length, Option.some.injEq, Blk.map.injEq] at hx
      obtain ⟨_, _, rfl⟩ := hx
      simp [Cx.push, upd_same, spTag, spV]
  · refine ⟨?_, (fun h => nomatch h), fun _ => ?_⟩
    · simp only [Cx.push, upd_same]
      show BldOk (c.w.alloc (.cells z.cells t)) (c.w.heap.size, c.w.heap.size) (t : Int).toNat (e : Int).toNat []
      rw [hc]
      exact ⟨.pointer none, .slice none 0 0, .inl rfl, by simpa using heap_alloc_new c.w _, World.ownsRow_nil _ _ _ _, by simp [Value.ownBlock], .inr ⟨rfl, rfl⟩, fun _ => rfl⟩
    · simp only [Cx.push, upd_same]
      exact ⟨fun hi => absurd (inv.imlt _ hi) (Nat.lt_irrefl _), fun hi => absurd (inv.imlt _ hi) (Nat.lt_irrefl _)⟩

/-- How a call ends. -/
inductive DRes where
  | ret (d : D)
  | panic (d : D)
def ResRep (c : Cx) (e : Ending) (r : DRes) : Prop := match e, r with
  | .returned v, .ret d => Rep c v d
  | .panicked chain, .panic d => ∃ v, chain = [{ v := v, recovered := false }] ∧ Rep c v d
  | _, _ => False
def Enters (P : Program) (g : FuncId) : Prop := ∃ fn, P.funcs[g]? = some fn ∧ fn.body.isSome = true ∧ (fn.name == "runtime.NumGoroutine") = false
/-- A call, whatever the machine's memory: from the small heap H on it ends as Q says. -/
def CallsV (L : Lang) (g : FuncId) (args : List D) (H : Heap) (Q : DRes → Heap → Prop) : Prop :=
  Enters L.P g ∧ ∀ (c : Cx) (vs : Array Value), Inv c → c.hp = H → GlOk L c → vs.size = args.length → (∀ (i : Nat) (d : D), args[i]? = some d → Rep c (vs.getD i undef) d) →
    Calls L.P g vs c.w fun e w' => ∃ r c', Q r c'.hp ∧ c'.w = w' ∧ Inv c' ∧ Le c c' ∧ ResRep c' e r
theorem CallsV.mono {L : Lang} {g : FuncId} {args : List D} {H : Heap} {Q Q' : DRes → Heap → Prop} (h : CallsV L g args H Q) (hq : ∀ r H, Q r H → Q' r H) : CallsV L g args H Q' :=
  ⟨h.1, fun c vs h1 h2 h3 h4 h5 => (h.2 c vs h1 h2 h3 h4 h5).mono fun e w' ⟨r, c', q, rest⟩ => ⟨r, c', hq _ _ q, rest⟩⟩

/-- A function of the model's own that answers at once and turns nothing. -/
def ExtV (L : Lang) (g : FuncId) (args : List D) (H : Heap) (d : D) : Prop :=
  ∀ (c : Cx) (vs : Array Value), Inv c → c.hp = H → vs.size = args.length → (∀ (i : Nat) (d : D), args[i]? = some d → Rep c (vs.getD i undef) d) → ∃ v, (callFunc g vs).run L.P c.w = .ok (.value v) c.w ∧ Rep c v d

inductive DExit where
  | normal
  | exit (n : Nat)
  | ret
  | panic (d : D)
abbrev DPost := DExit → Fr → Heap → Prop

/-- The function that an operation calls, and with what. -/
def callOf (L : Lang) (f : Fr) (op : Op) : Option (FuncId × List D) := match op with
  | .call { callee := .value fo, args := xs, argTypes := _ } => match evD L f fo with
    | .func (.func g) first captured => some (g, first ++ xs.toList.map (evD L f) ++ captured)
    | _ => none
  | _ => none
/-- Is a guarded operation carried out? -/
def guardD (ops : Array Oper) (f : Fr) (o : Oper) : Option Bool := match o.guard with
  | none => some true
  | some (j, want) => match (ops[j]?).bind (·.dst) with
    | some t => match f t with
      | .bool b => some (b == want)
      | .tuple [] => some false
      | _ => none
    | none => some false
def OptK (o : Option (D × Heap)) (K : D → Heap → Prop) : Prop := ∃ d H, o = some (d, H) ∧ K d H
/-- One operation. -/
def runD (L : Lang) (f : Fr) (H : Heap) (op : Op) (K : D → Heap → Prop) (KP : D → Heap → Prop) : Prop :=
  match callOf L f op with
  | some (g, args) => (CallsV L g args H fun r H' => match r with
    | .ret d => K d H'
    | .panic d => KP d H') ∨ (∃ d, ExtV L g args H d ∧ K d H) ∨ CallsV L g args H fun r H1 => match r with
    | .ret d => ∃ d2 H2, Shift H H1 d H2 d2 ∧ K d2 H2
    | .panic d => KP d H1
  | none => OptK (opD L f H op) K ∨ (∃ d H' d', opD L f H op = some (d, H') ∧ H'.take H.length = H ∧ Snap (fun r => H.length ≤ r) H' d d' ∧ K d' H) ∨ (∃ d H1 d2 H2, opD L f H op = some (d, H1) ∧ Shift H H1 d H2 d2 ∧ K d2 H2) ∨ (∃ x t d, op = .panic x ∧ evD L f x = .iface t d ∧ KP (.iface t d) H) ∨
    ∃ t e, op = .alloc t ∧ (L.T t).zero = [.nilptr, .nilsl] ∧ (L.T t).k.known = true ∧ K (.map H.length 0) (H ++ [bldZ t e])
def stepD (L : Lang) (ops : Array Oper) (Q : DPost) (o : Oper) (f : Fr) (H : Heap) (K : Fr → Heap → Prop) : Prop :=
  match guardD ops f o with
  | some b => (b = true → runD L f H o.op (fun d H' => K (f.put o.dst d) H') (fun p H' => Q (.panic p) f H')) ∧ (b = false → K (f.put o.dst (.tuple [])) H)
  | none => False
/-- A variable that is made, laid, and never changed: two operations, and a place that never turns. -/
def FuseD (L : Lang) (ops : Array Oper) (f : Fr) (H : Heap) (o1 o2 : Oper) (t : Nat) (cs : List D) : Prop :=
  ∃ H1 u sz, o1.dst = some t ∧ o2.dst = none ∧ guardD ops f o1 = some true ∧ callOf L f o1.op = none ∧ opD L f H o1.op = some (.ref H.length 0 0 0, H1) ∧
    guardD ops (f.put (some t) (.ref H.length 0 0 0)) o2 = some true ∧ callOf L (f.put (some t) (.ref H.length 0 0 0)) o2.op = none ∧
    opD L (f.put (some t) (.ref H.length 0 0 0)) H1 o2.op = some (u, H ++ [.cells 0 sz false [cs]]) ∧ ∀ d, d ∈ cs → Under H.length d
def opsD (L : Lang) (ops : Array Oper) (Q : DPost) : List Oper → Fr → Heap → Prop
  | [], f, H => Q .normal f H
  | [o], f, H => stepD L ops Q o f H (fun f H => Q .normal f H)
  | o :: o2 :: r, f, H => stepD L ops Q o f H (opsD L ops Q (o2 :: r)) ∨ ∃ t cs, FuseD L ops f H o o2 t cs ∧ opsD L ops Q r (f.put (some t) (.box cs)) H
theorem opsD_step {L : Lang} {ops : Array Oper} {Q : DPost} {o : Oper} {r : List Oper} {f : Fr} {H : Heap} (h : stepD L ops Q o f H (opsD L ops Q r)) : opsD L ops Q (o :: r) f H := by
  cases r with
  | nil =>
    unfold opsD
    have e : opsD L ops Q [] = fun f H => Q .normal f H := by
      funext f H
      unfold opsD
      rfl
    rw [e] at h
    exact h
  | cons o2 r =>
    unfold opsD
    exact .inl h
def atD (L : Lang) (ops : Array Oper) (Q : DPost) (i : Nat) (f : Fr) (H : Heap) (K : Fr → Heap → Prop) : Prop := match ops[i]? with
  | some o => stepD L ops Q o f H K
  | none => K f H
def anyD (L : Lang) (ops : Array Oper) (Q : DPost) : Nat → Array Bool → Fr → Heap → Prop
  | 0, listed, f, H => Region.ready .any ops listed = [] ∧ Q .normal f H
  | n + 1, listed, f, H => (Region.ready .any ops listed = [] → Q .normal f H) ∧ ∀ i ∈ Region.ready .any ops listed, atD L ops Q i f H (anyD L ops Q n (listed.setIfInBounds i true))

/-- Blocks may be given up. -/
def dropK (N : Nat) (K : Fr → Heap → Prop) (f : Fr) (H : Heap) : Prop := (∃ S H' f', Stills S H H' ∧ (∀ t, f' t = f t ∨ Snap S H (f t) (f' t)) ∧ K f' H') ∨
  ∃ S H1 n f', Stills S H H1 ∧ N ≤ n ∧ n ≤ H1.length ∧ (∀ k, k ∈ H1.take n → k.under n) ∧ (∀ t, (f' t = f t ∧ Under n (f t)) ∨ Snap S H (f t) (f' t)) ∧ K f' (H1.take n)
def thenD (K : Fr → Heap → Prop) (Q : DPost) : DPost
  | .normal, f, H => K f H
  | e, f, H => Q e f H
def blockD (id : Nat) (Q : DPost) : DPost
  | .exit n, f, H => if n = id then Q .normal f H else Q (.exit n) f H
  | e, f, H => Q e f H
def wpD (L : Lang) : Code → Fr → Heap → DPost → Prop
  | .skip, f, H, Q => Q .normal f H
  | .region _ ops draw, f, H, Q => if draw then anyD L ops Q ops.size (Array.replicate ops.size false) f H else opsD L ops Q ops.toList f H
  | .seq a b, f, H, Q => wpD L a f H (thenD (fun f H => wpD L b f H Q) Q)
  | .cond c a b, f, H, Q => match evD L f c with
    | .bool t => (t = true → wpD L a f H Q) ∧ (t = false → wpD L b f H Q)
    | _ => False
  | .block id a, f, H, Q => wpD L a f H (blockD id Q)
  | .loop a, f, H, Q => ∀ X : Fr → Heap → Prop, (∀ f' H', wpD L a f' H' (thenD (dropK H.length X) Q) → X f' H') → X f H
  | .exit n, f, H, Q => Q (.exit n) f H
  | .ret, f, H, Q => Q .ret f H
  | _, _, _, _ => False

/-- All temporaries that are set lie in the frame. -/
def dstsOk (n : Nat) : Code → Bool
  | .region _ ops _ => ops.all fun o => match o.dst with
    | some t => decide (t < n)
    | none => true
  | .seq a b => dstsOk n a && dstsOk n b
  | .cond _ a b => dstsOk n a && dstsOk n b
  | .block _ a => dstsOk n a
  | .loop a => dstsOk n a
  | _ => true

theorem runD_mono {L : Lang} {f : Fr} {H : Heap} {op : Op} {K K' KP KP' : D → Heap → Prop} (h : runD L f H op K KP) (hk : ∀ d H, K d H → K' d H) (hp : ∀ d H, KP d H → KP' d H) : runD L f H op K' KP' := by
  unfold runD at h ⊢
  split
  · rename_i g args he
    rw [he] at h
    rcases h with h | ⟨d, h1, h2⟩ | h
    · refine .inl (CallsV.mono h fun r H' hr => ?_)
      cases r
      · exact hk _ _ hr
      · exact hp _ _ hr
    · exact .inr (.inl ⟨d, h1, hk _ _ h2⟩)
    · refine .inr (.inr (CallsV.mono h fun r H' hr => ?_))
      cases r
      · obtain ⟨d2, H2, h1, h2⟩ := hr
        exact ⟨d2, H2, h1, hk _ _ h2⟩
      · exact hp _ _ hr
  · rename_i he
    rw [he] at h
    rcases h with ⟨d, H', h1, h2⟩ | ⟨d, H', d', h1, h2, h3, h4⟩ | ⟨d, H1, d2, H2, h1, h2, h3⟩ | ⟨x, t, d, h1, h2, h3⟩ | ⟨t, e, h1, h2, h3, h4⟩
    · exact .inl ⟨d, H', h1, hk _ _ h2⟩
    · exact .inr (.inl ⟨d, H', d', h1, h2, h3, hk _ _ h4⟩)
    · exact .inr (.inr (.inl ⟨d, H1, d2, H2, h1, h2, hk _ _ h3⟩))
    · exact .inr (.inr (.inr (.inl ⟨x, t, d, h1, h2, hp _ _ h3⟩)))
    · exact .inr (.inr (.inr (.inr ⟨t, e, h1, h2, h3, hk _ _ h4⟩)))
theorem stepD_mono {L : Lang} {ops : Array Oper} {Q Q' : DPost} {o : Oper} {f : Fr} {H : Heap} {K K' : Fr → Heap → Prop} (h : stepD L ops Q o f H K) (hk : ∀ f H, K f H → K' f H) (hq : ∀ d f H, Q (.panic d) f H → Q' (.panic d) f H) : stepD L ops Q' o f H K' := by
  unfold stepD at h ⊢
  split
  · rename_i b he
    rw [he] at h
    exact ⟨fun hb => runD_mono (h.1 hb) (fun d H => hk _ _) (fun d H => hq _ _ _), fun hb => hk _ _ (h.2 hb)⟩
  · rename_i he
    rw [he] at h
    exact h
theorem opsD_mono {L : Lang} {ops : Array Oper} {Q Q' : DPost} (hq : ∀ e f H, Q e f H → Q' e f H) : ∀ (l : List Oper) (f : Fr) (H : Heap), opsD L ops Q l f H → opsD L ops Q' l f H
  | [], _, _, h => by
    unfold opsD at h ⊢
    exact hq _ _ _ h
  | [o], _, _, h => by
    unfold opsD at h ⊢
    exact stepD_mono h (fun f H => hq _ _ _) (fun _ _ _ => hq _ _ _)
  | _ :: o2 :: r, _, _, h => by
    unfold opsD at h ⊢
    rcases h with h | ⟨t, cs, h1, h2⟩
    · exact .inl (stepD_mono h (fun f H => opsD_mono hq (o2 :: r) f H) (fun _ _ _ => hq _ _ _))
    · exact .inr ⟨t, cs, h1, opsD_mono hq r _ _ h2⟩
theorem anyD_mono {L : Lang} {ops : Array Oper} {Q Q' : DPost} (hq : ∀ e f H, Q e f H → Q' e f H) : ∀ (n : Nat) (l : Array Bool) (f : Fr) (H : Heap), anyD L ops Q n l f H → anyD L ops Q' n l f H
  | 0, _, _, _, h => ⟨h.1, hq _ _ _ h.2⟩
  | n + 1, l, f, H, h => by
    refine ⟨fun hr => hq _ _ _ (h.1 hr), fun i hi => ?_⟩
    have := h.2 i hi
    unfold atD at this ⊢
    split
    · rename_i o ho
      rw [ho] at this
      exact stepD_mono this (fun f H => anyD_mono hq n _ f H) (fun _ _ _ => hq _ _ _)
    · rename_i ho
      rw [ho] at this
      exact anyD_mono hq n _ f H this
theorem wpD_mono {L : Lang} : ∀ (c : Code) (f : Fr) (H : Heap) (Q Q' : DPost), (∀ e f H, Q e f H → Q' e f H) → wpD L c f H Q → wpD L c f H Q'
  | .skip, _, _, _, _, hq, h => hq _ _ _ h
  | .region _ ops draw, f, H, Q, Q', hq, h => by
    unfold wpD at h ⊢
    split
    · rename_i hd
      rw [if_pos hd] at h
      exact anyD_mono hq _ _ _ _ h
    · rename_i hd
      rw [if_neg hd] at h
      exact opsD_mono hq _ _ _ h
  | .seq a b, f, H, Q, Q', hq, h => by
    unfold wpD at h ⊢
    refine wpD_mono a f H _ _ (fun e f H he => ?_) h
    cases e
    · exact wpD_mono b f H _ _ hq he
    all_goals exact hq _ _ _ he
  | .cond c a b, f, H, Q, Q', hq, h => by
    unfold wpD at h ⊢
    split
    · rename_i t he
      rw [he] at h
      exact ⟨fun ht => wpD_mono a f H _ _ hq (h.1 ht), fun ht => wpD_mono b f H _ _ hq (h.2 ht)⟩
    · rename_i he
      split at h
      · rename_i t ht
        exact absurd ht (he t)
      · exact h
  | .block id a, f, H, Q, Q', hq, h => by
    unfold wpD at h ⊢
    refine wpD_mono a f H _ _ (fun e f H he => ?_) h
    cases e with
    | exit n =>
      simp only [blockD] at he ⊢
      split
      · rename_i hn; rw [if_pos hn] at he; exact hq _ _ _ he
      · rename_i hn; rw [if_neg hn] at he; exact hq _ _ _ he
    | _ => exact hq _ _ _ he
  | .loop a, f, H, Q, Q', hq, h => by
    unfold wpD at h ⊢
    intro X hX
    refine h X fun f H hw => hX f H (wpD_mono a f H _ _ (fun e f H he => ?_) hw)
    cases e
    · exact he
    all_goals exact hq _ _ _ he
  | .exit n, _, _, _, _, hq, h => hq _ _ _ h
  | .ret, _, _, _, _, hq, h => hq _ _ _ h
  | .rangeFunc .., _, _, _, _, _, h => h
  | .scope _, _, _, _, _, _, h => h
  | .label _, _, _, _, _, _, h => h
  | .goto _, _, _, _, _, _, h => h
  | .refuse _, _, _, _, _, _, h => h
/-- A loop that stood at N places of the small heap when it began. -/
def LoopD (L : Lang) (a : Code) (N : Nat) (Q : DPost) (f : Fr) (H : Heap) : Prop := ∀ X : Fr → Heap → Prop, (∀ f' H', wpD L a f' H' (thenD (dropK N X) Q) → X f' H') → X f H
theorem loop_is {L : Lang} {a : Code} {f : Fr} {H : Heap} {Q : DPost} (h : LoopD L a H.length Q f H) : wpD L (.loop a) f H Q := by
  unfold wpD
  exact h
/-- A loop is once round, and then the loop; what is not needed any more may be given up. -/
theorem loop_unfoldD {L : Lang} {a : Code} {N : Nat} {f : Fr} {H : Heap} {Q : DPost} (h : wpD L a f H (thenD (dropK N (LoopD L a N Q)) Q)) : LoopD L a N Q f H := by
  intro X hX
  refine hX f H (wpD_mono a f H _ _ (fun e f H he => ?_) h)
  cases e with
  | normal =>
    simp only [thenD] at he ⊢
    rcases he with ⟨S, H', f', h1, h2, h3⟩ | ⟨S, H1, n, f', h1, h2, h3, h4, h5, h6⟩
    · exact .inl ⟨S, H', f', h1, h2, h3 X hX⟩
    · exact .inr ⟨S, H1, n, f', h1, h2, h3, h4, h5, h6 X hX⟩
  | _ => exact he
theorem loop_unfold {L : Lang} {a : Code} {N : Nat} {f : Fr} {H : Heap} {Q : DPost} (h : wpD L a f H (thenD (LoopD L a N Q) Q)) : LoopD L a N Q f H := by
  refine loop_unfoldD (wpD_mono a f H _ _ (fun e f H he => ?_) h)
  cases e with
  | normal => exact .inl ⟨_, H, f, .refl H, fun _ => .inl rfl, he⟩
  | _ => exact he

/-! ### the machine follows -/
def ExRep (c : Cx) (e : Exit) (x : DExit) : Prop := match e, x with
  | .normal, .normal => True
  | .exit n, .exit m => n = m
  | .ret, .ret => True
  | .panic chain, .panic d => ∃ v, chain = [{ v := v, recovered := false }] ∧ Rep c v d
  | _, _ => False
def PostV (n : Nat) (ds : List Deferred) (c0 : Cx) (Q : DPost) : Exit → Act → World → Prop := fun e a w =>
  ∃ x f c, Q x f c.hp ∧ ExRep c e x ∧ c.w = w ∧ Inv c ∧ Le c0 c ∧ FrRep c a.tmps f ∧ a.tmps.size = n ∧ a.defers = ds
theorem PostV.trans {n : Nat} {ds : List Deferred} {c0 c1 : Cx} {Q : DPost} {e : Exit} {a : Act} {w : World} (le : Le c0 c1) (h : PostV n ds c1 Q e a w) : PostV n ds c0 Q e a w := by
  obtain ⟨x, f, c, h1, h2, h3, h4, h5, h6⟩ := h
  exact ⟨x, f, c, h1, h2, h3, h4, le.trans h5, h6⟩

theorem guard_ok {ops : Array Oper} {c : Cx} {a : Act} {f : Fr} {o : Oper} {b : Bool} (hf : FrRep c a.tmps f) (hn : ∀ o ∈ ops.toList, ∀ t, o.dst = some t → t < a.tmps.size) (h : guardD ops f o = some b) : Region.wanted o (yielded ops a.tmps) = b := by
  unfold guardD at h
  unfold Region.wanted
  split at h
  · rename_i hg
    rw [hg]
    exact Option.some.inj h
  · rename_i j want hg
    rw [hg]
    simp only
    split at h
    · rename_i t ht
      have hlt : t < a.tmps.size := by
        obtain ⟨o', ho, hd⟩ := Option.bind_eq_some_iff.1 ht
        exact hn o' (by simpa using Array.mem_of_getElem? ho) t hd
      have hr := hf t
      have hget := getD_lt (x := undef) hlt
      split at h
      · rename_i b' hb
        rw [hb] at hr
        generalize a.tmps.getD t undef = v at hr hget
        cases hr
        simp only [yielded, ht, Option.bind_some, hget]
        obtain rfl := Option.some.inj h
        cases b' <;> cases want <;> rfl
      · rename_i hb
        rw [hb] at hr
        generalize a.tmps.getD t undef = v at hr hget
        cases hr
        simp only [yielded, ht, Option.bind_some, hget]
        obtain rfl := Option.some.inj h
        cases want <;> rfl
      · cases h
    · rename_i ht
      obtain rfl := Option.some.inj h
      simp [yielded, ht]

theorem undef_rep {c : Cx} : Rep c undef (.tuple []) := .tuple _ _ rfl (fun i d hd => by simp at hd)

theorem call_any {L : Lang} {c : Cx} (hg : GlOk L c) {a : Act} {f : Fr} (hf : FrRep c a.tmps f) {o : Oper} {g : FuncId} {args : List D} (h : callOf L f o.op = some (g, args)) :
    ∃ vs : Array Value, (execOp a.eval o).run L.P c.w = (callFunc g vs).run L.P c.w ∧ vs.size = args.length ∧ ∀ (i : Nat) (d : D), args[i]? = some d → Rep c (vs.getD i undef) d := by
  have hev : ∀ x, Rep c (a.eval x) (evD L f x) := ev_rep hf hg
  obtain ⟨dst, op, ty, pos, after, guard⟩ := o
  simp only at h
  unfold callOf at h
  split at h
  case h_2 => cases h
  rename_i fo xs ts
  split at h
  case h_2 => cases h
  rename_i g' first captured hfo
  obtain ⟨rfl, rfl⟩ := Prod.mk.inj (Option.some.inj h)
  have hfr := hev fo
  rw [hfo] at hfr
  generalize hq : a.eval fo = q at hfr
  cases hfr with
  | func _ x y _ _ hx hy h1 h2 =>
  obtain ⟨a1, a2⟩ := list_rep hev xs
  refine ⟨x ++ xs.map a.eval ++ y, ?_, by simp only [Array.size_append, hx, hy, a1, List.length_append], fun i d hd => ?_⟩
  · simp [execOp, resolve, hq, Deferred.ofValue, invoke]
  · have hget : (x ++ xs.map a.eval ++ y).getD i undef = if i < x.size then x.getD i undef else if i < x.size + (xs.map a.eval).size then (xs.map a.eval).getD (i - x.size) undef else y.getD (i - (x.size + (xs.map a.eval).size)) undef := by
      simp only [Array.getD_eq_getD_getElem?]
      by_cases q1 : i < x.size
      · rw [if_pos q1, Array.append_assoc, Array.getElem?_append_left q1]
      · rw [if_neg q1]
        by_cases q2 : i < x.size + (xs.map a.eval).size
        · rw [if_pos q2, Array.getElem?_append_left (by simp at q2 ⊢; omega), Array.getElem?_append_right (by omega)]
        · rw [if_neg q2, Array.getElem?_append_right (by simp at q2 ⊢; omega)]
          simp
    rw [hget]
    by_cases q1 : i < first.length
    · rw [if_pos (by omega)]
      rw [List.append_assoc, List.getElem?_append_left q1] at hd
      exact h1 _ _ hd
    · rw [if_neg (by omega)]
      by_cases q2 : i < first.length + (xs.toList.map (evD L f)).length
      · rw [if_pos (by omega)]
        rw [List.append_assoc, List.getElem?_append_right (by omega), List.getElem?_append_left (by omega)] at hd
        rw [hx]
        exact a2 _ _ hd
      · rw [if_neg (by omega)]
        rw [List.getElem?_append_right (by rw [List.length_append]; omega), List.length_append] at hd
        rw [hx, a1]
        exact h2 _ _ hd

theorem call_ok {L : Lang} {c : Cx} (hg : GlOk L c) {a : Act} {f : Fr} (hf : FrRep c a.tmps f) {o : Oper} {g : FuncId} {args : List D} (h : callOf L f o.op = some (g, args)) (hent : Enters L.P g) :
    ∃ vs : Array Value, (execOp a.eval o).run L.P c.w = .ok (.enter g vs) c.w ∧ vs.size = args.length ∧ ∀ (i : Nat) (d : D), args[i]? = some d → Rep c (vs.getD i undef) d := by
  obtain ⟨vs, h1, h2⟩ := call_any hg hf h
  refine ⟨vs, ?_, h2⟩
  obtain ⟨fn, e1, e2, e3⟩ := hent
  have hbn : fn.body ≠ none := by intro hb; simp [hb] at e2
  have hname : fn.name ≠ "runtime.NumGoroutine" := by simpa using e3
  rw [h1]
  simp [callFunc, e1, hname, hbn]

theorem step_ok {L : Lang} {ds : List Deferred} (ok : L.Ok) {ops : Array Oper} {Q : DPost} {o : Oper} {n : Nat} {f : Fr} {K : Fr → Heap → Prop} {c0 c : Cx} {a : Act} (h : stepD L ops Q o f c.hp K) (inv : Inv c) (hg : GlOk L c) (le : Le c0 c) (hf : FrRep c a.tmps f)
    (hsz : a.tmps.size = n) (hd : a.defers = ds) (hops : ∀ o ∈ ops.toList, ∀ t, o.dst = some t → t < n) (ho : ∀ t, o.dst = some t → t < n) {next : Act → World → Prop}
    (hnext : ∀ f' c' a', K f' c'.hp → Inv c' → Le c0 c' → FrRep c' a'.tmps f' → a'.tmps.size = n → a'.defers = ds → next a' c'.w) :
    if Region.wanted o (yielded ops a.tmps) = true then o.wp L.P a c.w next (PostV n ds c0 Q) else next (a.put o.dst undef) c.w := by
  unfold stepD at h
  split at h
  case h_2 => exact h.elim
  rename_i b hb
  have hw := guard_ok hf (by rw [hsz]; exact hops) hb
  rw [hw]
  have hput : ∀ (v : Value), (a.put o.dst v).tmps.size = n ∧ (a.put o.dst v).defers = ds := fun v => by
    cases o.dst <;> simp [Act.put, hsz, hd]
  cases b with
  | false =>
    simp only [Bool.false_eq_true, if_false]
    have hp := put_rep (t := o.dst) (v := undef) hf (undef_rep (c := c)) (by rw [hsz]; exact ho)
    exact hnext _ c _ (h.2 rfl) inv le hp (hput _).1 (hput _).2
  | true =>
    simp only [if_true]
    have h1 := h.1 rfl
    unfold runD at h1
    split at h1
    · rename_i g args hc
      rcases h1 with h1 | ⟨d, h1, h2⟩ | h1
      case inr.inl =>
        obtain ⟨vs, r1, r2, r3⟩ := call_any hg hf hc
        obtain ⟨v, q1, q2⟩ := h1 c vs inv rfl r2 r3
        have hp := put_rep (t := o.dst) (v := v) hf q2 (by rw [hsz]; exact ho)
        unfold Oper.wp
        rw [r1, q1]
        exact hnext _ c _ h2 inv le hp (hput _).1 (hput _).2
      case inr.inr =>
        obtain ⟨vs, r1, r2, r3⟩ := call_ok hg hf hc h1.1
        have hcalls := h1.2 c vs inv rfl hg r2 r3
        unfold Oper.wp
        rw [r1, Oper.upon_enter]
        refine hcalls.mono fun e w' ⟨r, c', q1, q2, q3, q4, q5⟩ => ?_
        subst q2
        cases e with
        | returned v =>
          cases r with
          | ret d =>
            obtain ⟨d2, H2, s1, s2⟩ := q1
            obtain ⟨c2, z1, z2, z3, z4, z5⟩ := s1 c c' v inv q3 q4 rfl rfl q5
            have hp := put_rep (t := o.dst) (v := v) (hf.mono z4) z5 (by rw [hsz]; exact ho)
            rw [← z2] at s2
            show next (a.put o.dst v) c'.w
            rw [← z1]
            exact hnext _ c2 _ s2 z3 (le.trans z4) hp (hput _).1 (hput _).2
          | panic d => exact q5.elim
        | panicked chain =>
          cases r with
          | ret d => exact q5.elim
          | panic d => exact ⟨.panic d, f, c', q1, q5, rfl, q3, le.trans q4, hf.mono q4, hsz, hd⟩
        | outgrown => cases r <;> exact q5.elim
      obtain ⟨vs, r1, r2, r3⟩ := call_ok hg hf hc h1.1
      have hcalls := h1.2 c vs inv rfl hg r2 r3
      unfold Oper.wp
      rw [r1, Oper.upon_enter]
      refine hcalls.mono fun e w' ⟨r, c', q1, q2, q3, q4, q5⟩ => ?_
      subst q2
      cases e with
      | returned v =>
        cases r with
        | ret d =>
          have hp := put_rep (t := o.dst) (v := v) (hf.mono q4) (show Rep c' v d from q5) (by rw [hsz]; exact ho)
          exact hnext _ c' _ q1 q3 (le.trans q4) hp (hput _).1 (hput _).2
        | panic d => exact q5.elim
      | panicked chain =>
        cases r with
        | ret d => exact q5.elim
        | panic d => exact ⟨.panic d, f, c', q1, q5, rfl, q3, le.trans q4, hf.mono q4, hsz, hd⟩
      | outgrown => cases r <;> exact q5.elim
    · rcases h1 with ⟨d, H', e1, e2⟩ | ⟨d, H', d', e1, e3, e4, e2⟩ | ⟨d, H1, d2, H2, e1, e3, e2⟩ | ⟨x, t, d, e1, e3, e2⟩ | ⟨t, e, e1, e3, e4, e2⟩
      case inr.inr.inr.inr =>
        obtain ⟨dst, op, ty, pos, after, guard⟩ := o
        simp only at e1
        subst e1
        obtain ⟨nx, v, c', r1, r2, r3, r4, r5, r6⟩ := bldAlloc_ok ok inv (a := a) (dst := dst) (ty := ty) (pos := pos) (after := after) (guard := guard) (e := e) e3 e4
        rw [← r3] at e2
        have hp := put_rep (t := dst) (v := v) (hf.mono r5) r6 (by rw [hsz]; exact ho)
        unfold Oper.wp
        rw [r1]
        rcases r2 with rfl | ⟨rfl, rfl⟩
        · exact hnext _ c' _ e2 r4 (le.trans r5) hp (hput _).1 (hput _).2
        · exact hnext _ c' _ e2 r4 (le.trans r5) hp (hput _).1 (hput _).2
      · obtain ⟨nx, v, c', r1, r2, r3, r4, r5, r6⟩ := op_ok ok inv hg hf e1
        subst r3
        have hp := put_rep (t := o.dst) (v := v) (hf.mono r5) r6 (by rw [hsz]; exact ho)
        unfold Oper.wp
        rw [r1]
        rcases r2 with rfl | ⟨rfl, rfl⟩
        · exact hnext _ c' _ e2 r4 (le.trans r5) hp (hput _).1 (hput _).2
        · exact hnext _ c' _ e2 r4 (le.trans r5) hp (hput _).1 (hput _).2
      · obtain ⟨nx, v, c', r1, r2, r3, r4, r5, r6⟩ := op_ok ok inv hg hf e1
        subst r3
        obtain ⟨c2, z1, z2, z3, z4, z5⟩ := cut_ok inv r4 r5 e3 r6 e4
        have hp := put_rep (t := o.dst) (v := v) (hf.mono z4) z5 (by rw [hsz]; exact ho)
        rw [← z2] at e2
        unfold Oper.wp
        rw [r1, ← z1]
        rcases r2 with rfl | ⟨rfl, rfl⟩
        · exact hnext _ c2 _ e2 z3 (le.trans z4) hp (hput _).1 (hput _).2
        · exact hnext _ c2 _ e2 z3 (le.trans z4) hp (hput _).1 (hput _).2
      · obtain ⟨nx, v, c', r1, r2, r3, r4, r5, r6⟩ := op_ok ok inv hg hf e1
        subst r3
        obtain ⟨c2, z1, z2, z3, z4, z5⟩ := e3 c c' v inv r4 r5 rfl rfl r6
        have hp := put_rep (t := o.dst) (v := v) (hf.mono z4) z5 (by rw [hsz]; exact ho)
        rw [← z2] at e2
        unfold Oper.wp
        rw [r1, ← z1]
        rcases r2 with rfl | ⟨rfl, rfl⟩
        · exact hnext _ c2 _ e2 z3 (le.trans z4) hp (hput _).1 (hput _).2
        · exact hnext _ c2 _ e2 z3 (le.trans z4) hp (hput _).1 (hput _).2
      · have hx := ev_rep hf hg x
        rw [e3] at hx
        generalize hq : a.eval x = q at hx
        have hx0 := hx
        cases hx with
        | iface _ v _ _ =>
        unfold Oper.wp
        obtain ⟨dst, op, ty, pos, after, guard⟩ := o
        simp only at e1
        subst e1
        have : (execOp a.eval ⟨dst, .panic x, ty, pos, after, guard⟩).run L.P c.w = .halt (.panic (.iface t v)) c.w := by
          simp only [execOp, hq, Instr.panic]
          rfl
        rw [this, Oper.upon_panic]
        exact ⟨.panic (.iface t d), f, c, e2, ⟨_, rfl, hx0⟩, rfl, inv, le, hf, hsz, hd⟩

/-- One operation that is carried out, and what the machine does with it. -/
theorem one_ok {L : Lang} {ds : List Deferred} (ok : L.Ok) {ops : Array Oper} {o : Oper} {n : Nat} {f : Fr} {d : D} {H' : Heap} {c : Cx} {a : Act} (inv : Inv c) (hg : GlOk L c) (hf : FrRep c a.tmps f)
    (hsz : a.tmps.size = n) (hd : a.defers = ds) (hops : ∀ o ∈ ops.toList, ∀ t, o.dst = some t → t < n) (ho : ∀ t, o.dst = some t → t < n) (hgd : guardD ops f o = some true) (hc : callOf L f o.op = none) (e1 : opD L f c.hp o.op = some (d, H')) {next : Act → World → Prop} {Post : Exit → Act → World → Prop}
    (hnext : ∀ c' v, c'.hp = H' → Inv c' → Le c c' → Rep c' v d → next (a.put o.dst v) c'.w) : Region.wanted o (yielded ops a.tmps) = true ∧ o.wp L.P a c.w next Post := by
  refine ⟨guard_ok hf (by rw [hsz]; exact hops) hgd, ?_⟩
  obtain ⟨nx, v, c', r1, r2, r3, r4, r5, r6⟩ := op_ok ok inv hg hf e1
  unfold Oper.wp
  rw [r1]
  rcases r2 with rfl | ⟨rfl, rfl⟩
  · exact hnext c' v r3 r4 r5 r6
  · exact hnext c' _ r3 r4 r5 r6
theorem ops_ok {L : Lang} {ds : List Deferred} (ok : L.Ok) {ops : Array Oper} {Q : DPost} {n : Nat} {c0 : Cx} (g0 : GlOk L c0) (hops : ∀ o ∈ ops.toList, ∀ t, o.dst = some t → t < n) : ∀ (l : List Oper) (f : Fr) (c : Cx) (a : Act), (∀ o ∈ l, ∀ t, o.dst = some t → t < n) → opsD L ops Q l f c.hp → Inv c → Le c0 c → FrRep c a.tmps f →
    a.tmps.size = n → a.defers = ds → wpList L.P ops (PostV n ds c0 Q) l a c.w
  | [], f, c, a, _, h, inv, le, hf, hsz, hd => by
    unfold opsD at h
    exact ⟨.normal, f, c, h, trivial, rfl, inv, le, hf, hsz, hd⟩
  | [o], f, c, a, hl, h, inv, le, hf, hsz, hd => by
    unfold opsD at h
    have := step_ok ok (next := wpList L.P ops (PostV n ds c0 Q) []) h inv (g0.mono le) le hf hsz hd hops (hl o (List.mem_cons_self ..)) (fun f' c' a' hk i' l' f1 s1 d1 =>
      ⟨.normal, f', c', hk, trivial, rfl, i', l', f1, s1, d1⟩)
    unfold wpList
    split
    · rename_i hw; rw [if_pos hw] at this; exact .inl this
    · rename_i hw; rw [if_neg hw] at this; exact this
  | o :: o2 :: r, f, c, a, hl, h, inv, le, hf, hsz, hd => by
    unfold opsD at h
    rcases h with h | ⟨t, cs, ⟨H1, u, sz, ht, ht2, hg1, hc1, e1, hg2, hc2, e2, hun⟩, h2⟩
    · have := step_ok ok (next := wpList L.P ops (PostV n ds c0 Q) (o2 :: r)) h inv (g0.mono le) le hf hsz hd hops (hl o (List.mem_cons_self ..)) (fun f' c' a' hk i' l' f1 s1 d1 =>
        ops_ok ok g0 hops (o2 :: r) f' c' a' (fun o ho => hl o (List.mem_cons_of_mem _ ho)) hk i' l' f1 s1 d1)
      unfold wpList
      split
      · rename_i hw; rw [if_pos hw] at this; exact .inl this
      · rename_i hw; rw [if_neg hw] at this; exact this
    · have htn : t < n := hl o (List.mem_cons_self ..) t ht
      have hput : ∀ (a : Act), a.tmps.size = n → a.defers = ds → ∀ (dst : Option Nat) (v : Value), (a.put dst v).tmps.size = n ∧ (a.put dst v).defers = ds := fun a hs hd dst v => by
        cases dst <;> simp [Act.put, hs, hd]
      have w1 := one_ok ok (n := n) (next := wpList L.P ops (PostV n ds c0 Q) (o2 :: r)) (Post := PostV n ds c0 Q) inv (g0.mono le) hf hsz hd hops (hl o (List.mem_cons_self ..)) hg1 hc1 e1 (fun c1 v1 q1 q2 q3 q4 => by
        rw [ht]
        have hf1 : FrRep c1 (a.put (some t) v1).tmps (f.put (some t) (.ref c.hp.length 0 0 0)) := put_rep (hf.mono q3) q4 (fun x hx => by cases hx; omega)
        have w2 := one_ok ok (n := n) (next := wpList L.P ops (PostV n ds c0 Q) r) (Post := PostV n ds c0 Q) q2 (g0.mono (le.trans q3)) hf1 (hput a hsz hd _ _).1 (hput a hsz hd _ _).2 hops (fun x hx => by rw [ht2] at hx; cases hx) hg2 hc2 (by rw [q1]; exact e2) (fun c2 v2 z1 z2 z3 z4 => by
          rw [ht2]
          have hf2 : FrRep c2 (a.put (some t) v1).tmps (f.put (some t) (.ref c.hp.length 0 0 0)) := hf1.mono z3
          have hle := q3.trans z3
          have hv2 : Rep c2 ((a.put (some t) v1).tmps.getD t undef) (.ref c.hp.length 0 0 0) := by
            have := hf2 t
            simp only [Fr.put, if_true] at this
            exact this
          obtain ⟨c3, y1, y2, y3, y4, y5, y6⟩ := var_ok inv z2 hle z1 hv2 hun
          have hf3 : FrRep c3 (a.put (some t) v1).tmps (f.put (some t) (.box cs)) := fun x => by
            by_cases hx : x = t
            · subst hx
              simp only [Fr.put, if_true]
              exact y6
            · have h0 := hf x
              have he : (a.put (some t) v1).tmps.getD x undef = a.tmps.getD x undef := by
                simp [Act.put, Array.getD_eq_getD_getElem?, Array.getElem?_setIfInBounds_ne (Ne.symm hx)]
              rw [he]
              simp only [Fr.put, if_neg hx]
              exact y5 _ _ h0
          have := ops_ok ok g0 hops r _ c3 (a.put (some t) v1) (fun o ho => hl o (List.mem_cons_of_mem _ (List.mem_cons_of_mem _ ho))) (by rw [y2]; exact h2) y3 (le.trans y4) hf3 (hput a hsz hd _ _).1 (hput a hsz hd _ _).2
          rw [y1] at this
          exact this)
        unfold wpList
        rw [if_pos w2.1]
        exact .inl w2.2)
      unfold wpList
      rw [if_pos w1.1]
      exact .inl w1.2
theorem any_ok {L : Lang} {ds : List Deferred} (ok : L.Ok) {ops : Array Oper} {Q : DPost} {n : Nat} {c0 : Cx} (g0 : GlOk L c0) (hops : ∀ o ∈ ops.toList, ∀ t, o.dst = some t → t < n) : ∀ (k : Nat) (listed : Array Bool) (f : Fr) (c : Cx) (a : Act), anyD L ops Q k listed f c.hp → Inv c → Le c0 c → FrRep c a.tmps f →
    a.tmps.size = n → a.defers = ds → wpAny L.P .any ops (PostV n ds c0 Q) k listed a c.w
  | 0, listed, f, c, a, h, inv, le, hf, hsz, hd => ⟨h.1, .normal, f, c, h.2, trivial, rfl, inv, le, hf, hsz, hd⟩
  | k + 1, listed, f, c, a, h, inv, le, hf, hsz, hd => by
    refine ⟨fun hr => ⟨.normal, f, c, h.1 hr, trivial, rfl, inv, le, hf, hsz, hd⟩, fun i hi => ?_⟩
    have h1 := h.2 i hi
    unfold atD at h1
    unfold wpOp
    split at h1
    · rename_i o ho
      rw [ho]
      simp only
      have := step_ok ok (next := wpAny L.P .any ops (PostV n ds c0 Q) k (listed.setIfInBounds i true)) h1 inv (g0.mono le) le hf hsz hd hops (hops o (by simpa using Array.mem_of_getElem? ho)) (fun f' c' a' hk i' l' f1 s1 d1 =>
        any_ok ok g0 hops k _ f' c' a' hk i' l' f1 s1 d1)
      split
      · rename_i hw; rw [if_pos hw] at this; exact .inl this
      · rename_i hw; rw [if_neg hw] at this; exact this
    · rename_i ho
      rw [ho]
      simp only
      exact any_ok ok g0 hops k _ f c a h1 inv le hf hsz hd

theorem code_ok {L : Lang} {ds : List Deferred} (ok : L.Ok) {n : Nat} : ∀ (code : Code) (f : Fr) (Q : DPost) (c0 : Cx), GlOk L c0 → dstsOk n code = true → ∀ (c : Cx) (a : Act), wpD L code f c.hp Q → Inv c → Le c0 c → FrRep c a.tmps f → a.tmps.size = n → a.defers = ds →
    code.wp L.P (PostV n ds c0 Q) a c.w
  | .skip, f, Q, c0, _, _, c, a, h, inv, le, hf, hsz, hd => wp_skip ⟨.normal, f, c, h, trivial, rfl, inv, le, hf, hsz, hd⟩
  | .exit m, f, Q, c0, _, _, c, a, h, inv, le, hf, hsz, hd => wp_exit ⟨.exit m, f, c, h, rfl, rfl, inv, le, hf, hsz, hd⟩
  | .ret, f, Q, c0, _, _, c, a, h, inv, le, hf, hsz, hd => wp_ret ⟨.ret, f, c, h, trivial, rfl, inv, le, hf, hsz, hd⟩
  | .region id ops draw, f, Q, c0, g0, hds, c, a, h, inv, le, hf, hsz, hd => by
    have hops : ∀ o ∈ ops.toList, ∀ t, o.dst = some t → t < n := fun o ho t ht => by
      simp only [dstsOk, Array.all_eq_true_iff_forall_mem] at hds
      have := hds o (by simpa using ho)
      rw [ht] at this
      simpa using this
    unfold wpD at h
    cases draw with
    | true =>
      simp only [if_true] at h
      refine wp_region_any ok.mixed ?_
      have hat := at_ok inv (w' := { c.w with drawn := c.w.drawn + 1 }) rfl rfl rfl rfl
      exact any_ok ok g0 hops _ _ f (c.at _) a h hat.1 (le.trans hat.2) (hf.mono hat.2) hsz hd
    | false =>
      simp only [Bool.false_eq_true, if_false] at h
      exact wp_region_list (ops_ok ok g0 hops _ f c a hops h inv le hf hsz hd)
  | .seq x y, f, Q, c0, g0, hds, c, a, h, inv, le, hf, hsz, hd => by
    simp only [dstsOk, Bool.and_eq_true] at hds
    unfold wpD at h
    refine wp_seq (wp_mono (code_ok ok x f _ c0 g0 hds.1 c a h inv le hf hsz hd) fun e a' w' ⟨z, f', c', h1, h2, h3, h4, h5, h6, h7, h8⟩ => ?_)
    subst h3
    cases e <;> cases z <;> try exact h2.elim
    · exact code_ok ok y f' Q c0 g0 hds.2 c' a' h1 h4 h5 h6 h7 h8
    · exact ⟨_, f', c', h1, h2, rfl, h4, h5, h6, h7, h8⟩
    · exact ⟨_, f', c', h1, h2, rfl, h4, h5, h6, h7, h8⟩
    · exact ⟨_, f', c', h1, h2, rfl, h4, h5, h6, h7, h8⟩
  | .cond t x y, f, Q, c0, g0, hds, c, a, h, inv, le, hf, hsz, hd => by
    simp only [dstsOk, Bool.and_eq_true] at hds
    unfold wpD at h
    have hev := ev_rep hf (g0.mono le) t
    split at h
    · rename_i b hb
      rw [hb] at hev
      generalize hq : a.eval t = q at hev
      cases hev
      cases b with
      | true => exact wp_cond_true hq (code_ok ok x f Q c0 g0 hds.1 c a (h.1 rfl) inv le hf hsz hd)
      | false => exact wp_cond_false hq (code_ok ok y f Q c0 g0 hds.2 c a (h.2 rfl) inv le hf hsz hd)
    · exact h.elim
  | .block id x, f, Q, c0, g0, hds, c, a, h, inv, le, hf, hsz, hd => by
    unfold wpD at h
    refine wp_block (wp_mono (code_ok ok x f _ c0 g0 hds c a h inv le hf hsz hd) fun e a' w' ⟨z, f', c', h1, h2, h3, h4, h5, h6, h7, h8⟩ => ?_)
    subst h3
    cases e <;> cases z <;> try exact h2.elim
    · exact ⟨.normal, f', c', h1, trivial, rfl, h4, h5, h6, h7, h8⟩
    · have h2' := h2
      simp only [ExRep] at h2'
      subst h2'
      simp only [blockD] at h1
      simp only [Exit.inBlock]
      split
      · rename_i hm; rw [if_pos hm] at h1; exact ⟨.normal, f', c', h1, trivial, rfl, h4, h5, h6, h7, h8⟩
      · rename_i hm; rw [if_neg hm] at h1; exact ⟨.exit _, f', c', h1, rfl, rfl, h4, h5, h6, h7, h8⟩
    · exact ⟨.ret, f', c', h1, trivial, rfl, h4, h5, h6, h7, h8⟩
    · exact ⟨.panic _, f', c', h1, h2, rfl, h4, h5, h6, h7, h8⟩
  | .loop x, f, Q, c0, g0, hds, c, a, h, inv, le, hf, hsz, hd => by
    intro b k cs
    unfold wpD at h
    have key := h (fun f H => ∀ (c1 : Cx) (a : Act), c1.hp = H → Inv c1 → Le c c1 → FrRep c1 a.tmps f → a.tmps.size = n → a.defers = ds →
      ∃ e a' w', PostV n ds c0 Q e a' w' ∧ Arrives L.P (lone (b.at a (.code x :: .inLoop x :: k)) cs c1.w) b k cs e a' w') (fun f H hb c1 a hh inv le1 hf hsz hd => ?_) c a rfl inv .refl hf hsz hd
    · obtain ⟨e, a', w', hq, harr⟩ := key
      exact ⟨e, a', w', hq, .of_steps (.one step_loop) harr⟩
    · subst hh
      obtain ⟨e, a₁, w₁, ⟨z, f', c', h1, h2, h3, h4, h5, h6, h7, h8⟩, harr⟩ := code_ok ok x f _ c (g0.mono le) hds c1 a hb inv le1 hf hsz hd b (.inLoop x :: k) cs
      subst h3
      cases e <;> cases z <;> try exact h2.elim
      · rcases h1 with ⟨S, H2, f2, hdr, hfr, h1⟩ | ⟨S, H1, n1, f2, hdr, hn0, hn1, hu, hfr, h1⟩
        · obtain ⟨i2, l2⟩ := stills_ok h4 hdr
          obtain ⟨e₂, a₂, w₂, hq₂, harr₂⟩ := h1 (c'.rest S H2) a₁ rfl i2 (h5.trans l2) (fun t => stills_rep h4 hdr (h6 t) (hfr t)) h7 h8
          exact ⟨e₂, a₂, w₂, hq₂, .of_steps (Steps.trans harr (.one step_inLoop)) harr₂⟩
        · obtain ⟨i2, l2, r1, r2⟩ := rest_trim h4 h5 hdr hn0 hn1 hu
          obtain ⟨e₂, a₂, w₂, hq₂, harr₂⟩ := h1 (c'.rest S (H1.take n1)) a₁ rfl i2 l2 (fun t => (hfr t).elim (fun hf' => by rw [hf'.1]; exact r1 _ _ (h6 t) hf'.2) (fun hf' => r2 _ _ _ (h6 t) hf')) h7 h8
          exact ⟨e₂, a₂, w₂, hq₂, .of_steps (Steps.trans harr (.one step_inLoop)) harr₂⟩
      · exact ⟨_, a₁, _, ⟨_, f', c', h1, h2, rfl, h4, le.trans h5, h6, h7, h8⟩, .pass (x := .inLoop x) rfl (fun _ _ => .inl (by simp)) harr⟩
      · exact ⟨_, a₁, _, ⟨_, f', c', h1, h2, rfl, h4, le.trans h5, h6, h7, h8⟩, .pass (x := .inLoop x) rfl (fun _ _ => .inl (by simp)) harr⟩
      · exact ⟨_, a₁, _, ⟨_, f', c', h1, h2, rfl, h4, le.trans h5, h6, h7, h8⟩, .pass (x := .inLoop x) rfl (fun _ _ => .inl (by simp)) harr⟩
  | .rangeFunc .., _, _, _, _, _, _, _, h, _, _, _, _, _ => h.elim
  | .scope _, _, _, _, _, _, _, _, h, _, _, _, _, _ => h.elim
  | .label _, _, _, _, _, _, _, _, h, _, _, _, _, _ => h.elim
  | .goto _, _, _, _, _, _, _, _, h, _, _, _, _, _ => h.elim
  | .refuse _, _, _, _, _, _, _, _, h, _, _, _, _, _ => h.elim

/-! ### functions -/
def resOne (T : TypeId → TI) (f : Fr) (H : Heap) : ResultVar → Option D
  | .tmp t => some (f t)
  | .cell a t => loadD T H t (f a)
def resAll (T : TypeId → TI) (f : Fr) (H : Heap) : List ResultVar → Option (List D)
  | [] => some []
  | r :: l => match resOne T f H r, resAll T f H l with
    | some d, some ds => some (d :: ds)
    | _, _ => none
def resD (T : TypeId → TI) (f : Fr) (H : Heap) (rs : List ResultVar) : Option D := match resAll T f H rs with
  | some [d] => some d
  | some ds => some (.tuple ds)
  | none => none
def resRun (tmps : Array Value) : ResultVar → Sem Value
  | .tmp t => pure (tmps.getD t undef)
  | .cell a t => do loadVar t (← asAddr (tmps.getD a undef))
theorem resAll_ok {L : Lang} (ok : L.Ok) {c : Cx} (inv : Inv c) {f : Fr} {tmps : Array Value} (hf : FrRep c tmps f) : ∀ (rs : List ResultVar) (ds : List D), resAll L.T f c.hp rs = some ds →
    ∃ vs : List Value, (rs.mapM (resRun tmps)).run L.P c.w = .ok vs c.w ∧ vs.length = ds.length ∧ ∀ (i : Nat) (d : D), ds[i]? = some d → Rep c (vs.getD i undef) d
  | [], ds, h => by
    obtain rfl := Option.some.inj h
    exact ⟨[], rfl, rfl, fun i d hd => by simp at hd⟩
  | r :: rs, ds, h => by
    simp only [resAll] at h
    cases h1 : resOne L.T f c.hp r with
    | none => simp [h1] at h
    | some d =>
    cases h2 : resAll L.T f c.hp rs with
    | none => simp [h1, h2] at h
    | some ds' =>
    simp only [h1, h2, Option.some.injEq] at h
    subst h
    obtain ⟨vs, v1, v2, v3⟩ := resAll_ok ok inv hf rs ds' h2
    have fin : ∀ v, (resRun tmps r).run L.P c.w = .ok v c.w → Rep c v d → ∃ vs : List Value, ((r :: rs).mapM (resRun tmps)).run L.P c.w = .ok vs c.w ∧ vs.length = (d :: ds').length ∧ ∀ (i : Nat) (e : D), (d :: ds')[i]? = some e → Rep c (vs.getD i undef) e := by
      intro v hv hr
      refine ⟨v :: vs, ?_, by simp [v2], fun i e he => ?_⟩
      · simp only [List.mapM_cons, Sem.run_bind]
        simp_all
      · cases i with
        | zero => simp at he; subst he; exact hr
        | succ i => simpa using v3 i e (by simpa using he)
    cases r with
    | tmp t =>
      obtain rfl := Option.some.inj h1
      exact fin _ (by simp [resRun]) (hf t)
    | cell a t =>
      simp only [resOne] at h1
      have hr := hf a
      unfold loadD at h1
      split at h1
      · rename_i cs o hx
        obtain ⟨b, off, fn, hv, e1, e2, e3⟩ := refCells_ok inv hr hx
        obtain ⟨v, r1, r2⟩ := loadVar_same ok e1 e2 e3 h1
        refine fin v ?_ r2
        simp only [resRun, hv, Sem.run_bind, asAddr, Sem.run_pure, Result.andThen_ok, r1]
      · cases h1
end Go.Proofs.Ytknkkfdkcemolaa.Vm
