/- Code and calls on plain values, and that the machine follows. -/
import Derived.Test.YtejpgmemohchaaaVmRa
set_option linter.unusedVariables false
set_option linter.unusedSimpArgs false
namespace Go.Proofs.Ytejpgmemohchaaa.Vm
open Go

/-- A place that holds a new strings.Builder (its type, a byte's). -/
abbrev bldZ (t e : Nat) : Blk := .map 0 false [(.int .i64 1, .tuple [.int .i64 t, .int .i64 e, .str []])]
theorem bldAlloc_ok {L : Lang} (ok : L.Ok) {c : Cx} (inv : Inv c) {a : Act} {dst : Option Nat} {ty : TypeId} {pos : String} {after : Array Edge} {guard : Option (Nat × Bool)} {t e : Nat} (hz : (L.T t).zero = [.nilptr, .nilsl]) (hk : (L.T t).k.known = true) :
    OpOk L.P c (execOp a.eval ⟨dst, .alloc t, ty, pos, after, guard⟩) (.map c.hp.length 0) (c.hp ++ [bldZ t e]) := by
  obtain ⟨z, z1, z2, z3, z4, z5⟩ := zero_holds ok c hk
  rw [hz] at z3 z5
  have hz2 : z.cells.size = 2 := by rw [z2, ← z3]; rfl
  have hc : z.cells = #[.pointer none, .slice none 0 0] := by
    have r0 := z5 0 _ rfl
    have r1 := z5 1 _ rfl
    have e0 : z.cells.getD 0 undef = .pointer none := by
      generalize z.cells.getD 0 undef = q at r0 ⊢
      cases r0; rfl
    have e1 : z.cells.getD 1 undef = .slice none 0 0 := by
      generalize z.cells.getD 1 undef = q at r1 ⊢
      cases r1; rfl
    apply Array.ext (by simpa using hz2)
    intro i h1 h2
    have h3 : i < 2 := by simpa using h2
    match i, h3 with
    | 0, _ => simpa [Array.getD_eq_getD_getElem?, h1] using e0
    | 1, _ => simpa [Array.getD_eq_getD_getElem?, h1] using e1
  have hp := push_ok inv (k := bldZ t e) (m := (c.w.heap.size, c.w.heap.size)) (w' := c.w.alloc (.cells z.cells t)) rfl rfl rfl (by simp) (fun b hb => heap_alloc_old c.w _ b hb) (fun b _ hat => by
      rcases hat with hat | hat <;> exact Nat.le_of_eq hat) (fun le => ?_)
  · refine ⟨.value (.pointer (some ⟨c.w.heap.size, 0, none⟩)), _, _, ?_, .inl rfl, rfl, hp.1, hp.2, ?_⟩
    · simp [execOp, Instr.alloc, z1, newVar, run_newRow]
      rfl
    · refine .map _ _ _ (by simp [Cx.push]) (by simp [ng, Cx.push, Blk.next]) fun ro es hx => ?_
      simp only [Cx.push, List.getElem?_concat_length, Option.some.injEq, Blk.map.injEq] at hx
      obtain ⟨_, _, rfl⟩ := hx
      simp [Cx.push, upd_same, spTag, spV]
  · refine ⟨?_, (fun h => nomatch h), fun _ => ?_⟩
    · simp only [Cx.push, upd_same]
      show BldOk (c.w.alloc (.cells z.cells t)) (c.w.heap.size, c.w.heap.size) (t : Int).toNat (e : Int).toNat []
      rw [hc]
      exact ⟨.pointer none, .slice none 0 0, .inl rfl, by simpa using heap_alloc_new c.w _, World.ownsRow_nil _ _ _ _, by simp [Value.ownBlock], .inr ⟨rfl, rfl⟩, fun _ => rfl⟩
    · simp only [Cx.push, upd_same]
      exact ⟨fun hi => absurd (inv.imlt _ hi) (Nat.lt_irrefl _), fun hi => absurd (inv.imlt _ hi) (Nat.lt_irrefl _)⟩

/-- How a call ends. -/
inductive DRes where
  | ret (d : D)
  | panic (d : D)
def ResRep (c : Cx) (e : Ending) (r : DRes) : Prop := match e, r with
  | .returned v, .ret d => Rep c v d
  | .panicked chain, .panic d => ∃ v, chain = [{ v := v, recovered := false }] ∧ Rep c v d
  | _, _ => False
def Enters (P : Program) (g : FuncId) : Prop := ∃ fn, P.funcs[g]? = some fn ∧ fn.body.isSome = true ∧ (fn.name == "runtime.NumGoroutine") = false
/-- A call, whatever the machine's memory: from the small heap H on it ends as Q says. -/
def CallsV (L : Lang) (g : FuncId) (args : List D) (H : Heap) (Q : DRes → Heap → Prop) : Prop :=
  Enters L.P g ∧ ∀ (c : Cx) (vs : Array Value), Inv c → c.hp = H → GlOk L c → vs.size = args.length → (∀ (i : Nat) (d : D), args[i]? = some d → Rep c (vs.getD i undef) d) →
    Calls L.P g vs c.w fun e w' => ∃ r c', Q r c'.hp ∧ c'.w = w' ∧ Inv c' ∧ Le c c' ∧ ResRep c' e r
theorem CallsV.mono {L : Lang} {g : FuncId} {args : List D} {H : Heap} {Q Q' : DRes → Heap → Prop} (h : CallsV L g args H Q) (hq : ∀ r H, Q r H → Q' r H) : CallsV L g args H Q' :=
  ⟨h.1, fun c vs h1 h2 h3 h4 h5 => (h.2 c vs h1 h2 h3 h4 h5).mono fun e w' ⟨r, c', q, rest⟩ => ⟨r, c', hq _ _ q, rest⟩⟩

/-- A function of the model's own that answers at once and turns nothing. -/
def ExtV (L : Lang) (g : FuncId) (args : List D) (H : Heap) (d : D) : Prop :=
  ∀ (c : Cx) (vs : Array Value), Inv c → c.hp = H → GlOk L c → vs.size = args.length → (∀ (i : Nat) (d : D), args[i]? = some d → Rep c (vs.getD i undef) d) → ∃ v, (callFunc g vs).run L.P c.w = .ok (.value v) c.w ∧ Rep c v d

inductive DExit where
  | normal
  | exit (n : Nat)
  | ret
  | panic (d : D)
abbrev DPost := DExit → Fr → Heap → Prop

/-- The function that an operation calls, and with what. -/
def callOf (L : Lang) (f : Fr) (op : Op) : Option (FuncId × List D) := match op with
  | .call { callee := .value fo, args := xs, argTypes := _ } => match evD L f fo with
    | .func (.func g) first captured => some (g, first ++ xs.toList.map (evD L f) ++ captured)
    | _ => none
  | _ => none
/-- A call of a loop's yield, and with what. -/
def yldOf (L : Lang) (f : Fr) (op : Op) : Option (Nat × Nat × List D) := match op with
  | .call { callee := .value fo, args := xs, argTypes := _ } => match evD L f fo with
    | .yld r g => some (r, g, xs.toList.map (evD L f))
    | _ => none
  | _ => none
/-- A round of a loop over a function, whatever the machine's memory. -/
def YieldV (L : Lang) (r g : Nat) (args : List D) (H : Heap) (Q : DRes → Heap → Prop) : Prop :=
  ∀ (c : Cx) (v : Value) (vs : Array Value), Inv c → c.hp = H → GlOk L c → Rep c v (.yld r g) → vs.size = args.length → (∀ (i : Nat) (d : D), args[i]? = some d → Rep c (vs.getD i undef) d) →
    ∃ l fn tmps as bo, v = .func (.yield l) #[] #[] ∧ (Instr.yield l vs).run L.P c.w = .ok (.round l fn tmps as bo) c.w ∧
      RoundIn Fence.wide 0 L.P l fn tmps as bo c.w fun e w' => ∃ r c', Q r c'.hp ∧ c'.w = w' ∧ Inv c' ∧ Le c c' ∧ ResRep c' e r
theorem YieldV.mono {L : Lang} {r g : Nat} {args : List D} {H : Heap} {Q Q' : DRes → Heap → Prop} (h : YieldV L r g args H Q) (hq : ∀ r H, Q r H → Q' r H) : YieldV L r g args H Q' := fun c v vs h1 h2 h3 h4 h5 h6 =>
  let ⟨l, fn, tmps, as, bo, e1, e2, e3⟩ := h c v vs h1 h2 h3 h4 h5 h6
  ⟨l, fn, tmps, as, bo, e1, e2, e3.mono fun e w' ⟨r, c', q, rest⟩ => ⟨r, c', hq _ _ q, rest⟩⟩
/-- A loop's record. -/
abbrev loopB (g : Nat) (ps : List Nat) (as bo : Code) (st : Int) (pend : D) (fr : List D) : Blk := .map g false [(.int .i64 3, .cod ps as bo), (.int .i64 st, pend), (.undef, .tuple fr)]
/-- Is a guarded operation carried out? -/
def guardD (ops : Array Oper) (f : Fr) (o : Oper) : Option Bool := match o.guard with
  | none => some true
  | some (j, want) => match (ops[j]?).bind (·.dst) with
    | some t => match f t with
      | .bool b => some (b == want)
      | .tuple [] => some false
      | _ => none
    | none => some false
def OptK (o : Option (D × Heap)) (K : D → Heap → Prop) : Prop := ∃ d H, o = some (d, H) ∧ K d H
/-- One operation. -/
def runD (L : Lang) (f : Fr) (H : Heap) (op : Op) (K : D → Heap → Prop) (KP : D → Heap → Prop) : Prop :=
  match callOf L f op with
  | some (g, args) => (CallsV L g args H fun r H' => match r with
    | .ret d => K d H'
    | .panic d => KP d H') ∨ (∃ d, ExtV L g args H d ∧ K d H) ∨ CallsV L g args H fun r H1 => match r with
    | .ret d => ∃ d2 H2, Shift H H1 d H2 d2 ∧ K d2 H2
    | .panic d => KP d H1
  | none => OptK (opD L f H op) K ∨ (∃ d H' d', opD L f H op = some (d, H') ∧ H'.take H.length = H ∧ Snap (fun r => H.length ≤ r) H' d d' ∧ K d' H) ∨ (∃ d H1 d2 H2, opD L f H op = some (d, H1) ∧ Shift H H1 d H2 d2 ∧ K d2 H2) ∨ (∃ x t d, op = .panic x ∧ evD L f x = .iface t d ∧ KP (.iface t d) H) ∨
    (∃ t e, op = .alloc t ∧ (L.T t).zero = [.nilptr, .nilsl] ∧ (L.T t).k.known = true ∧ K (.map H.length 0) (H ++ [bldZ t e])) ∨
    ∃ r g xs, yldOf L f op = some (r, g, xs) ∧ YieldV L r g xs H fun r H' => match r with
      | .ret d => K d H'
      | .panic d => KP d H'
def stepD (L : Lang) (ops : Array Oper) (Q : DPost) (o : Oper) (f : Fr) (H : Heap) (K : Fr → Heap → Prop) : Prop :=
  match guardD ops f o with
  | some b => (b = true → runD L f H o.op (fun d H' => K (f.put o.dst d) H') (fun p H' => Q (.panic p) f H')) ∧ (b = false → K (f.put o.dst (.tuple [])) H)
  | none => False
/-- A variable that is made, laid, and never changed: two operations, and a place that never turns. -/
def FuseD (L : Lang) (ops : Array Oper) (f : Fr) (H : Heap) (o1 o2 : Oper) (t : Nat) (cs : List D) : Prop :=
  ∃ H1 u sz, o1.dst = some t ∧ o2.dst = none ∧ guardD ops f o1 = some true ∧ callOf L f o1.op = none ∧ opD L f H o1.op = some (.ref H.length 0 0 0, H1) ∧
    guardD ops (f.put (some t) (.ref H.length 0 0 0)) o2 = some true ∧ callOf L (f.put (some t) (.ref H.length 0 0 0)) o2.op = none ∧
    opD L (f.put (some t) (.ref H.length 0 0 0)) H1 o2.op = some (u, H ++ [.cells 0 sz false [cs]]) ∧ ∀ d, d ∈ cs → Under H.length d
def opsD (L : Lang) (ops : Array Oper) (Q : DPost) : List Oper → Fr → Heap → Prop
  | [], f, H => Q .normal f H
  | [o], f, H => stepD L ops Q o f H (fun f H => Q .normal f H)
  | o :: o2 :: r, f, H => stepD L ops Q o f H (opsD L ops Q (o2 :: r)) ∨ ∃ t cs, FuseD L ops f H o o2 t cs ∧ opsD L ops Q r (f.put (some t) (.box cs)) H
theorem opsD_step {L : Lang} {ops : Array Oper} {Q : DPost} {o : Oper} {r : List Oper} {f : Fr} {H : Heap} (h : stepD L ops Q o f H (opsD L ops Q r)) : opsD L ops Q (o :: r) f H := by
  cases r with
  | nil =>
    unfold opsD
    have e : opsD L ops Q [] = fun f H => Q .normal f H := by
      funext f H
      unfold opsD
      rfl
    rw [e] at h
    exact h
  | cons o2 r =>
    unfold opsD
    exact .inl h
def atD (L : Lang) (ops : Array Oper) (Q : DPost) (i : Nat) (f : Fr) (H : Heap) (K : Fr → Heap → Prop) : Prop := match ops[i]? with
  | some o => stepD L ops Q o f H K
  | none => K f H
def anyD (L : Lang) (ops : Array Oper) (Q : DPost) : Nat → Array Bool → Fr → Heap → Prop
  | 0, listed, f, H => Region.ready .any ops listed = [] ∧ Q .normal f H
  | n + 1, listed, f, H => (Region.ready .any ops listed = [] → Q .normal f H) ∧ ∀ i ∈ Region.ready .any ops listed, atD L ops Q i f H (anyD L ops Q n (listed.setIfInBounds i true))

/-- Blocks may be given up. -/
def dropK (N : Nat) (K : Fr → Heap → Prop) (f : Fr) (H : Heap) : Prop := (∃ S H' f', Stills S H H' ∧ (∀ t, f' t = f t ∨ Snap S H (f t) (f' t)) ∧ K f' H') ∨
  ∃ S H1 n f', Stills S H H1 ∧ N ≤ n ∧ n ≤ H1.length ∧ (∀ k, k ∈ H1.take n → k.under n) ∧ (∀ t, (f' t = f t ∧ Under n (f t)) ∨ Snap S H (f t) (f' t)) ∧ K f' (H1.take n)
def thenD (K : Fr → Heap → Prop) (Q : DPost) : DPost
  | .normal, f, H => K f H
  | e, f, H => Q e f H
def blockD (id : Nat) (Q : DPost) : DPost
  | .exit n, f, H => if n = id then Q .normal f H else Q (.exit n) f H
  | e, f, H => Q e f H
def wpD (L : Lang) : Code → Fr → Heap → DPost → Prop
  | .skip, f, H, Q => Q .normal f H
  | .region _ ops draw, f, H, Q => if draw then anyD L ops Q ops.size (Array.replicate ops.size false) f H else opsD L ops Q ops.toList f H
  | .seq a b, f, H, Q => wpD L a f H (thenD (fun f H => wpD L b f H Q) Q)
  | .cond c a b, f, H, Q => match evD L f c with
    | .bool t => (t = true → wpD L a f H Q) ∧ (t = false → wpD L b f H Q)
    | _ => False
  | .block id a, f, H, Q => wpD L a f H (blockD id Q)
  | .loop a, f, H, Q => ∀ X : Fr → Heap → Prop, (∀ f' H', wpD L a f' H' (thenD (dropK H.length X) Q) → X f' H') → X f H
  | .exit n, f, H, Q => Q (.exit n) f H
  | .ret, f, H, Q => Q .ret f H
  | .rangeFunc g ps as bo, f, H, Q => ∃ gi first caps fr, evD L f g = .func (.func gi) first caps ∧ (∀ t : Nat, f t = fr.getD t (.tuple [])) ∧
    CallsV L gi (first ++ .yld H.length 0 :: caps) (H ++ [loopB 0 ps.toList as bo 0 .undef fr]) fun r H' => match r with
      | .ret _ => ∃ ps1 as1 bo1 st pend fr', H'[H.length]? = some (loopB 0 ps1 as1 bo1 st pend fr') ∧ st ≠ 2 ∧ match pend with
        | .undef => Q .normal f (H'.set H.length (loopB 0 ps1 as1 bo1 3 .undef fr'))
        | .int .i64 k => Q (.exit k.toNat) f (H'.set H.length (loopB 0 ps1 as1 bo1 3 (.int .i64 k) fr'))
        | .bool true => Q .ret f (H'.set H.length (loopB 0 ps1 as1 bo1 3 (.bool true) fr'))
        | _ => False
      | .panic d => Q (.panic d) f H'
  | _, _, _, _ => False

theorem runD_mono {L : Lang} {f : Fr} {H : Heap} {op : Op} {K K' KP KP' : D → Heap → Prop} (h : runD L f H op K KP) (hk : ∀ d H, K d H → K' d H) (hp : ∀ d H, KP d H → KP' d H) : runD L f H op K' KP' := by
  unfold runD at h ⊢
  split
  · rename_i g args he
    rw [he] at h
    rcases h with h | ⟨d, h1, h2⟩ | h
    · refine .inl (CallsV.mono h fun r H' hr => ?_)
      cases r
      · exact hk _ _ hr
      · exact hp _ _ hr
    · exact .inr (.inl ⟨d, h1, hk _ _ h2⟩)
    · refine .inr (.inr (CallsV.mono h fun r H' hr => ?_))
      cases r
      · obtain ⟨d2, H2, h1, h2⟩ := hr
        exact ⟨d2, H2, h1, hk _ _ h2⟩
      · exact hp _ _ hr
  · rename_i he
    rw [he] at h
    rcases h with ⟨d, H', h1, h2⟩ | ⟨d, H', d', h1, h2, h3, h4⟩ | ⟨d, H1, d2, H2, h1, h2, h3⟩ | ⟨x, t, d, h1, h2, h3⟩ | ⟨t, e, h1, h2, h3, h4⟩ | ⟨r, g, xs, h1, h2⟩
    · exact .inl ⟨d, H', h1, hk _ _ h2⟩
    · exact .inr (.inl ⟨d, H', d', h1, h2, h3, hk _ _ h4⟩)
    · exact .inr (.inr (.inl ⟨d, H1, d2, H2, h1, h2, hk _ _ h3⟩))
    · exact .inr (.inr (.inr (.inl ⟨x, t, d, h1, h2, hp _ _ h3⟩)))
    · exact .inr (.inr (.inr (.inr (.inl ⟨t, e, h1, h2, h3, hk _ _ h4⟩))))
    · refine .inr (.inr (.inr (.inr (.inr ⟨r, g, xs, h1, YieldV.mono h2 fun r H' hr => ?_⟩))))
      cases r
      · exact hk _ _ hr
      · exact hp _ _ hr
theorem stepD_mono {L : Lang} {ops : Array Oper} {Q Q' : DPost} {o : Oper} {f : Fr} {H : Heap} {K K' : Fr → Heap → Prop} (h : stepD L ops Q o f H K) (hk : ∀ f H, K f H → K' f H) (hq : ∀ d f H, Q (.panic d) f H → Q' (.panic d) f H) : stepD L ops Q' o f H K' := by
  unfold stepD at h ⊢
  split
  · rename_i b he
    rw [he] at h
    exact ⟨fun hb => runD_mono (h.1 hb) (fun d H => hk _ _) (fun d H => hq _ _ _), fun hb => hk _ _ (h.2 hb)⟩
  · rename_i he
    rw [he] at h
    exact h
theorem opsD_mono {L : Lang} {ops : Array Oper} {Q Q' : DPost} (hq : ∀ e f H, Q e f H → Q' e f H) : ∀ (l : List Oper) (f : Fr) (H : Heap), opsD L ops Q l f H → opsD L ops Q' l f H
  | [], _, _, h => by
    unfold opsD at h ⊢
    exact hq _ _ _ h
  | [o], _, _, h => by
    unfold opsD at h ⊢
    exact stepD_mono h (fun f H => hq _ _ _) (fun _ _ _ => hq _ _ _)
  | _ :: o2 :: r, _, _, h => by
    unfold opsD at h ⊢
    rcases h with h | ⟨t, cs, h1, h2⟩
    · exact .inl (stepD_mono h (fun f H => opsD_mono hq (o2 :: r) f H) (fun _ _ _ => hq _ _ _))
    · exact .inr ⟨t, cs, h1, opsD_mono hq r _ _ h2⟩
theorem anyD_mono {L : Lang} {ops : Array Oper} {Q Q' : DPost} (hq : ∀ e f H, Q e f H → Q' e f H) : ∀ (n : Nat) (l : Array Bool) (f : Fr) (H : Heap), anyD L ops Q n l f H → anyD L ops Q' n l f H
  | 0, _, _, _, h => ⟨h.1, hq _ _ _ h.2⟩
  | n + 1, l, f, H, h => by
    refine ⟨fun hr => hq _ _ _ (h.1 hr), fun i hi => ?_⟩
    have := h.2 i hi
    unfold atD at this ⊢
    split
    · rename_i o ho
      rw [ho] at this
      exact stepD_mono this (fun f H => anyD_mono hq n _ f H) (fun _ _ _ => hq _ _ _)
    · rename_i ho
      rw [ho] at this
      exact anyD_mono hq n _ f H this
theorem wpD_mono {L : Lang} : ∀ (c : Code) (f : Fr) (H : Heap) (Q Q' : DPost), (∀ e f H, Q e f H → Q' e f H) → wpD L c f H Q → wpD L c f H Q'
  | .skip, _, _, _, _, hq, h => hq _ _ _ h
  | .region _ ops draw, f, H, Q, Q', hq, h => by
    unfold wpD at h ⊢
    split
    · rename_i hd
      rw [if_pos hd] at h
      exact anyD_mono hq _ _ _ _ h
    · rename_i hd
      rw [if_neg hd] at h
      exact opsD_mono hq _ _ _ h
  | .seq a b, f, H, Q, Q', hq, h => by
    unfold wpD at h ⊢
    refine wpD_mono a f H _ _ (fun e f H he => ?_) h
    cases e
    · exact wpD_mono b f H _ _ hq he
    all_goals exact hq _ _ _ he
  | .cond c a b, f, H, Q, Q', hq, h => by
    unfold wpD at h ⊢
    split
    · rename_i t he
      rw [he] at h
      exact ⟨fun ht => wpD_mono a f H _ _ hq (h.1 ht), fun ht => wpD_mono b f H _ _ hq (h.2 ht)⟩
    · rename_i he
      split at h
      · rename_i t ht
        exact absurd ht (he t)
      · exact h
  | .block id a, f, H, Q, Q', hq, h => by
    unfold wpD at h ⊢
    refine wpD_mono a f H _ _ (fun e f H he => ?_) h
    cases e with
    | exit n =>
      simp only [blockD] at he ⊢
      split
      · rename_i hn; rw [if_pos hn] at he; exact hq _ _ _ he
      · rename_i hn; rw [if_neg hn] at he; exact hq _ _ _ he
    | _ => exact hq _ _ _ he
  | .loop a, f, H, Q, Q', hq, h => by
    unfold wpD at h ⊢
    intro X hX
    refine h X fun f H hw => hX f H (wpD_mono a f H _ _ (fun e f H he => ?_) hw)
    cases e
    · exact he
    all_goals exact hq _ _ _ he
  | .exit n, _, _, _, _, hq, h => hq _ _ _ h
  | .ret, _, _, _, _, hq, h => hq _ _ _ h
  | .rangeFunc g ps as bo, f, H, Q, Q', hq, h => by
    unfold wpD at h ⊢
    obtain ⟨gi, first, caps, fr, h1, h2, h3⟩ := h
    refine ⟨gi, first, caps, fr, h1, h2, h3.mono fun r H' hr => ?_⟩
    cases r with
    | ret d =>
      obtain ⟨ps1, as1, bo1, st, pend, fr', k1, k2, k3⟩ := hr
      refine ⟨ps1, as1, bo1, st, pend, fr', k1, k2, ?_⟩
      split at k3 <;> first | exact hq _ _ _ k3 | exact k3
    | panic d => exact hq _ _ _ hr
  | .scope _, _, _, _, _, _, h => h
  | .label _, _, _, _, _, _, h => h
  | .goto _, _, _, _, _, _, h => h
  | .refuse _, _, _, _, _, _, h => h
/-- A loop that stood at N places of the small heap when it began. -/
def LoopD (L : Lang) (a : Code) (N : Nat) (Q : DPost) (f : Fr) (H : Heap) : Prop := ∀ X : Fr → Heap → Prop, (∀ f' H', wpD L a f' H' (thenD (dropK N X) Q) → X f' H') → X f H
theorem loop_is {L : Lang} {a : Code} {f : Fr} {H : Heap} {Q : DPost} (h : LoopD L a H.length Q f H) : wpD L (.loop a) f H Q := by
  unfold wpD
  exact h
/-- A loop is once round, and then the loop; what is not needed any more may be given up. -/
theorem loop_unfoldD {L : Lang} {a : Code} {N : Nat} {f : Fr} {H : Heap} {Q : DPost} (h : wpD L a f H (thenD (dropK N (LoopD L a N Q)) Q)) : LoopD L a N Q f H := by
  intro X hX
  refine hX f H (wpD_mono a f H _ _ (fun e f H he => ?_) h)
  cases e with
  | normal =>
    simp only [thenD] at he ⊢
    rcases he with ⟨S, H', f', h1, h2, h3⟩ | ⟨S, H1, n, f', h1, h2, h3, h4, h5, h6⟩
    · exact .inl ⟨S, H', f', h1, h2, h3 X hX⟩
    · exact .inr ⟨S, H1, n, f', h1, h2, h3, h4, h5, h6 X hX⟩
  | _ => exact he
theorem loop_unfold {L : Lang} {a : Code} {N : Nat} {f : Fr} {H : Heap} {Q : DPost} (h : wpD L a f H (thenD (LoopD L a N Q) Q)) : LoopD L a N Q f H := by
  refine loop_unfoldD (wpD_mono a f H _ _ (fun e f H he => ?_) h)
  cases e with
  | normal => exact .inl ⟨_, H, f, .refl H, fun _ => .inl rfl, he⟩
  | _ => exact he

/-! ### the machine follows -/
def ExRep (c : Cx) (e : Exit) (x : DExit) : Prop := match e, x with
  | .normal, .normal => True
  | .exit n, .exit m => n = m
  | .ret, .ret => True
  | .panic chain, .panic d => ∃ v, chain = [{ v := v, recovered := false }] ∧ Rep c v d
  | _, _ => False
def PostV (n : Nat) (ds : List Deferred) (c0 : Cx) (Q : DPost) : Exit → Act → World → Prop := fun e a w =>
  ∃ x f c, Q x f c.hp ∧ ExRep c e x ∧ c.w = w ∧ Inv c ∧ Le c0 c ∧ FrRep c a.tmps f ∧ a.tmps.size = n ∧ a.defers = ds
theorem PostV.trans {n : Nat} {ds : List Deferred} {c0 c1 : Cx} {Q : DPost} {e : Exit} {a : Act} {w : World} (le : Le c0 c1) (h : PostV n ds c1 Q e a w) : PostV n ds c0 Q e a w := by
  obtain ⟨x, f, c, h1, h2, h3, h4, h5, h6⟩ := h
  exact ⟨x, f, c, h1, h2, h3, h4, le.trans h5, h6⟩

theorem guard_ok {ops : Array Oper} {c : Cx} {a : Act} {f : Fr} {o : Oper} {b : Bool} (hf : FrRep c a.tmps f) (hn : ∀ o ∈ ops.toList, ∀ t, o.dst = some t → t < a.tmps.size) (h : guardD ops f o = some b) : Region.wanted o (yielded ops a.tmps) = b := by
  unfold guardD at h
  unfold Region.wanted
  split at h
  · rename_i hg
    rw [hg]
    exact Option.some.inj h
  · rename_i j want hg
    rw [hg]
    simp only
    split at h
    · rename_i t ht
      have hlt : t < a.tmps.size := by
        obtain ⟨o', ho, hd⟩ := Option.bind_eq_some_iff.1 ht
        exact hn o' (by simpa using Array.mem_of_getElem? ho) t hd
      have hr := hf t
      have hget := getD_lt (x := undef) hlt
      split at h
      · rename_i b' hb
        rw [hb] at hr
        generalize a.tmps.getD t undef = v at hr hget
        cases hr
        simp only [yielded, ht, Option.bind_some, hget]
        obtain rfl := Option.some.inj h
        cases b' <;> cases want <;> rfl
      · rename_i hb
        rw [hb] at hr
        generalize a.tmps.getD t undef = v at hr hget
        cases hr
        simp only [yielded, ht, Option.bind_some, hget]
        obtain rfl := Option.some.inj h
        cases want <;> rfl
      · cases h
    · rename_i ht
      obtain rfl := Option.some.inj h
      simp [yielded, ht]

theorem undef_rep {c : Cx} : Rep c undef (.tuple []) := .tuple _ _ rfl (fun i d hd => by simp at hd)

theorem call_any {L : Lang} {c : Cx} (hg : GlOk L c) {a : Act} {f : Fr} (hf : FrRep c a.tmps f) {o : Oper} {g : FuncId} {args : List D} (h : callOf L f o.op = some (g, args)) :
    ∃ vs : Array Value, (execOp a.eval o).run L.P c.w = (callFunc g vs).run L.P c.w ∧ vs.size = args.length ∧ ∀ (i : Nat) (d : D), args[i]? = some d → Rep c (vs.getD i undef) d := by
  have hev : ∀ x, Rep c (a.eval x) (evD L f x) := ev_rep hf hg
  obtain ⟨dst, op, ty, pos, after, guard⟩ := o
  simp only at h
  unfold callOf at h
  split at h
  case h_2 => cases h
  rename_i fo xs ts
  split at h
  case h_2 => cases h
  rename_i g' first captured hfo
  obtain ⟨rfl, rfl⟩ := Prod.mk.inj (Option.some.inj h)
  have hfr := hev fo
  rw [hfo] at hfr
  generalize hq : a.eval fo = q at hfr
  cases hfr with
  | func _ x y _ _ hx hy h1 h2 =>
  obtain ⟨a1, a2⟩ := list_rep hev xs
  refine ⟨x ++ xs.map a.eval ++ y, ?_, by simp only [Array.size_append, hx, hy, a1, List.length_append], fun i d hd => ?_⟩
  · simp [execOp, resolve, hq, Deferred.ofValue, invoke]
  · have hget : (x ++ xs.map a.eval ++ y).getD i undef = if i < x.size then x.getD i undef else if i < x.size + (xs.map a.eval).size then (xs.map a.eval).getD (i - x.size) undef else y.getD (i - (x.size + (xs.map a.eval).size)) undef := by
      simp only [Array.getD_eq_getD_getElem?]
      by_cases q1 : i < x.size
      · rw [if_pos q1, Array.append_assoc, Array.getElem?_append_left q1]
      · rw [if_neg q1]
        by_cases q2 : i < x.size + (xs.map a.eval).size
        · rw [if_pos q2, Array.getElem?_append_left (by simp at q2 ⊢; omega), Array.getElem?_append_right (by omega)]
        · rw [if_neg q2, Array.getElem?_append_right (by simp at q2 ⊢; omega)]
          simp
    rw [hget]
    by_cases q1 : i < first.length
    · rw [if_pos (by omega)]
      rw [List.append_assoc, List.getElem?_append_left q1] at hd
      exact h1 _ _ hd
    · rw [if_neg (by omega)]
      by_cases q2 : i < first.length + (xs.toList.map (evD L f)).length
      · rw [if_pos (by omega)]
        rw [List.append_assoc, List.getElem?_append_right (by omega), List.getElem?_append_left (by omega)] at hd
        rw [hx]
        exact a2 _ _ hd
      · rw [if_neg (by omega)]
        rw [List.getElem?_append_right (by rw [List.length_append]; omega), List.length_append] at hd
        rw [hx, a1]
        exact h2 _ _ hd

theorem call_ok {L : Lang} {c : Cx} (hg : GlOk L c) {a : Act} {f : Fr} (hf : FrRep c a.tmps f) {o : Oper} {g : FuncId} {args : List D} (h : callOf L f o.op = some (g, args)) (hent : Enters L.P g) :
    ∃ vs : Array Value, (execOp a.eval o).run L.P c.w = .ok (.enter g vs) c.w ∧ vs.size = args.length ∧ ∀ (i : Nat) (d : D), args[i]? = some d → Rep c (vs.getD i undef) d := by
  obtain ⟨vs, h1, h2⟩ := call_any hg hf h
  refine ⟨vs, ?_, h2⟩
  obtain ⟨fn, e1, e2, e3⟩ := hent
  have hbn : fn.body ≠ none := by intro hb; simp [hb] at e2
  have hname : fn.name ≠ "runtime.NumGoroutine" := by simpa using e3
  rw [h1]
  simp [callFunc, e1, hname, hbn]

theorem opD_nodefer {L : Lang} {f : Fr} {H : Heap} {op : Op} {x : D × Heap} (h : opD L f H op = some x) : ∀ cl, op ≠ .defer cl := by
  rintro cl rfl
  simp [opD] at h

theorem step_ok {L : Lang} {ds : List Deferred} {F : Fence} (hF : WideF F) {m : Nat} (ok : L.Ok) {ops : Array Oper} {Q : DPost} {o : Oper} {n : Nat} {f : Fr} {K : Fr → Heap → Prop} {c0 c : Cx} {a : Act} (h : stepD L ops Q o f c.hp K) (inv : Inv c) (hg : GlOk L c) (le : Le c0 c) (hf : FrRep c a.tmps f)
    (hsz : a.tmps.size = n) (hd : a.defers = ds) (hops : ∀ o ∈ ops.toList, ∀ t, o.dst = some t → t < n) (ho : ∀ t, o.dst = some t → t < n) {next : Act → World → Prop}
    (hnext : ∀ f' c' a', K f' c'.hp → Inv c' → Le c0 c' → FrRep c' a'.tmps f' → a'.tmps.size = n → a'.defers = ds → next a' c'.w) :
    if Region.wanted o (yielded ops a.tmps) = true then o.wpIn F m L.P a c.w next (PostV n ds c0 Q) else next (a.put o.dst undef) c.w := by
  unfold stepD at h
  split at h
  case h_2 => exact h.elim
  rename_i b hb
  have hw := guard_ok hf (by rw [hsz]; exact hops) hb
  rw [hw]
  have hput : ∀ (v : Value), (a.put o.dst v).tmps.size = n ∧ (a.put o.dst v).defers = ds := fun v => by
    cases o.dst <;> simp [Act.put, hsz, hd]
  cases b with
  | false =>
    simp only [Bool.false_eq_true, if_false]
    have hp := put_rep (t := o.dst) (v := undef) hf (undef_rep (c := c)) (by rw [hsz]; exact ho)
    exact hnext _ c _ (h.2 rfl) inv le hp (hput _).1 (hput _).2
  | true =>
    simp only [if_true]
    have h1 := h.1 rfl
    unfold runD at h1
    split at h1
    · rename_i g args hc
      refine oper_in hF (fun cl hcl => by rw [hcl] at hc; cases hc) ?_
      rcases h1 with h1 | ⟨d, h1, h2⟩ | h1
      case inr.inl =>
        obtain ⟨vs, r1, r2, r3⟩ := call_any hg hf hc
        obtain ⟨v, q1, q2⟩ := h1 c vs inv rfl hg r2 r3
        have hp := put_rep (t := o.dst) (v := v) hf q2 (by rw [hsz]; exact ho)
        unfold Oper.wp
        rw [r1, q1]
        exact hnext _ c _ h2 inv le hp (hput _).1 (hput _).2
      case inr.inr =>
        obtain ⟨vs, r1, r2, r3⟩ := call_ok hg hf hc h1.1
        have hcalls := h1.2 c vs inv rfl hg r2 r3
        unfold Oper.wp
        rw [r1, Oper.upon_enter]
        refine hcalls.mono fun e w' ⟨r, c', q1, q2, q3, q4, q5⟩ => ?_
        subst q2
        cases e with
        | returned v =>
          cases r with
          | ret d =>
            obtain ⟨d2, H2, s1, s2⟩ := q1
            obtain ⟨c2, z1, z2, z3, z4, z5⟩ := s1 c c' v inv q3 q4 rfl rfl q5
            have hp := put_rep (t := o.dst) (v := v) (hf.mono z4) z5 (by rw [hsz]; exact ho)
            rw [← z2] at s2
            show next (a.put o.dst v) c'.w
            rw [← z1]
            exact hnext _ c2 _ s2 z3 (le.trans z4) hp (hput _).1 (hput _).2
          | panic d => exact q5.elim
        | panicked chain =>
          cases r with
          | ret d => exact q5.elim
          | panic d => exact ⟨.panic d, f, c', q1, q5, rfl, q3, le.trans q4, hf.mono q4, hsz, hd⟩
        | outgrown => cases r <;> exact q5.elim
      obtain ⟨vs, r1, r2, r3⟩ := call_ok hg hf hc h1.1
      have hcalls := h1.2 c vs inv rfl hg r2 r3
      unfold Oper.wp
      rw [r1, Oper.upon_enter]
      refine hcalls.mono fun e w' ⟨r, c', q1, q2, q3, q4, q5⟩ => ?_
      subst q2
      cases e with
      | returned v =>
        cases r with
        | ret d =>
          have hp := put_rep (t := o.dst) (v := v) (hf.mono q4) (show Rep c' v d from q5) (by rw [hsz]; exact ho)
          exact hnext _ c' _ q1 q3 (le.trans q4) hp (hput _).1 (hput _).2
        | panic d => exact q5.elim
      | panicked chain =>
        cases r with
        | ret d => exact q5.elim
        | panic d => exact ⟨.panic d, f, c', q1, q5, rfl, q3, le.trans q4, hf.mono q4, hsz, hd⟩
      | outgrown => cases r <;> exact q5.elim
    · rcases h1 with ⟨d, H', e1, e2⟩ | ⟨d, H', d', e1, e3, e4, e2⟩ | ⟨d, H1, d2, H2, e1, e3, e2⟩ | ⟨x, t, d, e1, e3, e2⟩ | ⟨t, e, e1, e3, e4, e2⟩ | ⟨r, g, xs, e1, e2⟩
      case inr.inr.inr.inr.inr =>
        obtain ⟨dst, op, ty, pos, after, guard⟩ := o
        simp only at e1
        unfold yldOf at e1
        split at e1
        case h_2 => cases e1
        rename_i fo ys ts _
        split at e1
        case h_2 => cases e1
        rename_i r' g' hfo
        obtain ⟨rfl, rfl, rfl⟩ : r' = r ∧ g' = g ∧ ys.toList.map (evD L f) = xs := by
          have := Option.some.inj e1
          exact ⟨(Prod.mk.inj this).1, (Prod.mk.inj (Prod.mk.inj this).2).1, (Prod.mk.inj (Prod.mk.inj this).2).2⟩
        have hev : ∀ x, Rep c (a.eval x) (evD L f x) := ev_rep hf hg
        have hfr := hev fo
        rw [hfo] at hfr
        obtain ⟨a1, a2⟩ := list_rep hev ys
        obtain ⟨l, fn, tmps, as, bo, y1, y2, y3⟩ := e2 c (a.eval fo) (ys.map a.eval) inv rfl hg hfr (by simp) a2
        have hrun : (execOp a.eval ⟨dst, .call { callee := .value fo, args := ys, argTypes := ts }, ty, pos, after, guard⟩).run L.P c.w = .ok (.round l fn tmps as bo) c.w := by
          rw [← y2]
          simp [execOp, resolve, y1, Deferred.ofValue, invoke]
        refine ⟨fun f _ => hF.fn f, ?_⟩
        have hs : (⟨dst, .call { callee := .value fo, args := ys, argTypes := ts }, ty, pos, after, guard⟩ : Oper).semAt F.round a.eval = execOp a.eval ⟨dst, .call { callee := .value fo, args := ys, argTypes := ts }, ty, pos, after, guard⟩ := by
          unfold Oper.semAt
          split
          · rename_i l c h1 h2; cases h2
          · rfl
        rw [hs, hrun, Oper.uponIn_round]
        refine ⟨depth_in hF, (round_in hF y3).mono fun e w' ⟨r, c', q1, q2, q3, q4, q5⟩ => ?_⟩
        subst q2
        cases e with
        | returned v =>
          cases r with
          | ret d =>
            have hp := put_rep (t := dst) (v := v) (hf.mono q4) (show Rep c' v d from q5) (by rw [hsz]; exact ho)
            exact hnext _ c' _ q1 q3 (le.trans q4) hp (hput _).1 (hput _).2
          | panic d => exact q5.elim
        | panicked chain =>
          cases r with
          | ret d => exact q5.elim
          | panic d => exact ⟨.panic d, f, c', q1, q5, rfl, q3, le.trans q4, hf.mono q4, hsz, hd⟩
        | outgrown => cases r <;> exact q5.elim
      case inr.inr.inr.inr.inl =>
        refine oper_in hF (fun cl hcl => by rw [hcl] at e1; cases e1) ?_
        obtain ⟨dst, op, ty, pos, after, guard⟩ := o
        simp only at e1
        subst e1
        obtain ⟨nx, v, c', r1, r2, r3, r4, r5, r6⟩ := bldAlloc_ok ok inv (a := a) (dst := dst) (ty := ty) (pos := pos) (after := after) (guard := guard) (e := e) e3 e4
        rw [← r3] at e2
        have hp := put_rep (t := dst) (v := v) (hf.mono r5) r6 (by rw [hsz]; exact ho)
        unfold Oper.wp
        rw [r1]
        rcases r2 with rfl | ⟨rfl, rfl⟩
        · exact hnext _ c' _ e2 r4 (le.trans r5) hp (hput _).1 (hput _).2
        · exact hnext _ c' _ e2 r4 (le.trans r5) hp (hput _).1 (hput _).2
      · refine oper_in hF (opD_nodefer e1) ?_
        obtain ⟨nx, v, c', r1, r2, r3, r4, r5, r6⟩ := op_ok ok inv hg hf e1
        subst r3
        have hp := put_rep (t := o.dst) (v := v) (hf.mono r5) r6 (by rw [hsz]; exact ho)
        unfold Oper.wp
        rw [r1]
        rcases r2 with rfl | ⟨rfl, rfl⟩
        · exact hnext _ c' _ e2 r4 (le.trans r5) hp (hput _).1 (hput _).2
        · exact hnext _ c' _ e2 r4 (le.trans r5) hp (hput _).1 (hput _).2
      · refine oper_in hF (opD_nodefer e1) ?_
        obtain ⟨nx, v, c', r1, r2, r3, r4, r5, r6⟩ := op_ok ok inv hg hf e1
        subst r3
        obtain ⟨c2, z1, z2, z3, z4, z5⟩ := cut_ok inv r4 r5 e3 r6 e4
        have hp := put_rep (t := o.dst) (v := v) (hf.mono z4) z5 (by rw [hsz]; exact ho)
        rw [← z2] at e2
        unfold Oper.wp
        rw [r1, ← z1]
        rcases r2 with rfl | ⟨rfl, rfl⟩
        · exact hnext _ c2 _ e2 z3 (le.trans z4) hp (hput _).1 (hput _).2
        · exact hnext _ c2 _ e2 z3 (le.trans z4) hp (hput _).1 (hput _).2
      · refine oper_in hF (opD_nodefer e1) ?_
        obtain ⟨nx, v, c', r1, r2, r3, r4, r5, r6⟩ := op_ok ok inv hg hf e1
        subst r3
        obtain ⟨c2, z1, z2, z3, z4, z5⟩ := e3 c c' v inv r4 r5 rfl rfl r6
        have hp := put_rep (t := o.dst) (v := v) (hf.mono z4) z5 (by rw [hsz]; exact ho)
        rw [← z2] at e2
        unfold Oper.wp
        rw [r1, ← z1]
        rcases r2 with rfl | ⟨rfl, rfl⟩
        · exact hnext _ c2 _ e2 z3 (le.trans z4) hp (hput _).1 (hput _).2
        · exact hnext _ c2 _ e2 z3 (le.trans z4) hp (hput _).1 (hput _).2
      · refine oper_in hF (fun cl hcl => by rw [hcl] at e1; cases e1) ?_
        have hx := ev_rep hf hg x
        rw [e3] at hx
        generalize hq : a.eval x = q at hx
        have hx0 := hx
        cases hx with
        | iface _ v _ _ =>
        unfold Oper.wp
        obtain ⟨dst, op, ty, pos, after, guard⟩ := o
        simp only at e1
        subst e1
        have : (execOp a.eval ⟨dst, .panic x, ty, pos, after, guard⟩).run L.P c.w = .halt (.panic (.iface t v)) c.w := by
          simp only [execOp, hq, Instr.panic]
          rfl
        rw [this, Oper.upon_panic]
        exact ⟨.panic (.iface t d), f, c, e2, ⟨_, rfl, hx0⟩, rfl, inv, le, hf, hsz, hd⟩

/-- One operation that is carried out, and what the machine does with it. -/
theorem one_ok {L : Lang} {ds : List Deferred} {F : Fence} (hF : WideF F) {m : Nat} (ok : L.Ok) {ops : Array Oper} {o : Oper} {n : Nat} {f : Fr} {d : D} {H' : Heap} {c : Cx} {a : Act} (inv : Inv c) (hg : GlOk L c) (hf : FrRep c a.tmps f)
    (hsz : a.tmps.size = n) (hd : a.defers = ds) (hops : ∀ o ∈ ops.toList, ∀ t, o.dst = some t → t < n) (ho : ∀ t, o.dst = some t → t < n) (hgd : guardD ops f o = some true) (hc : callOf L f o.op = none) (e1 : opD L f c.hp o.op = some (d, H')) {next : Act → World → Prop} {Post : Exit → Act → World → Prop}
    (hnext : ∀ c' v, c'.hp = H' → Inv c' → Le c c' → Rep c' v d → next (a.put o.dst v) c'.w) : Region.wanted o (yielded ops a.tmps) = true ∧ o.wpIn F m L.P a c.w next Post := by
  refine ⟨guard_ok hf (by rw [hsz]; exact hops) hgd, oper_in hF (opD_nodefer e1) ?_⟩
  obtain ⟨nx, v, c', r1, r2, r3, r4, r5, r6⟩ := op_ok ok inv hg hf e1
  unfold Oper.wp
  rw [r1]
  rcases r2 with rfl | ⟨rfl, rfl⟩
  · exact hnext c' v r3 r4 r5 r6
  · exact hnext c' _ r3 r4 r5 r6
theorem ops_ok {L : Lang} {ds : List Deferred} {F : Fence} (hF : WideF F) {m : Nat} (ok : L.Ok) {ops : Array Oper} {Q : DPost} {n : Nat} {c0 : Cx} (g0 : GlOk L c0) (hops : ∀ o ∈ ops.toList, ∀ t, o.dst = some t → t < n) : ∀ (l : List Oper) (f : Fr) (c : Cx) (a : Act), (∀ o ∈ l, ∀ t, o.dst = some t → t < n) → opsD L ops Q l f c.hp → Inv c → Le c0 c → FrRep c a.tmps f →
    a.tmps.size = n → a.defers = ds → wpListIn F m L.P ops (PostV n ds c0 Q) l a c.w
  | [], f, c, a, _, h, inv, le, hf, hsz, hd => by
    unfold opsD at h
    exact ⟨.normal, f, c, h, trivial, rfl, inv, le, hf, hsz, hd⟩
  | [o], f, c, a, hl, h, inv, le, hf, hsz, hd => by
    unfold opsD at h
    have := step_ok hF (m := m) ok (next := wpListIn F m L.P ops (PostV n ds c0 Q) []) h inv (g0.mono le) le hf hsz hd hops (hl o (List.mem_cons_self ..)) (fun f' c' a' hk i' l' f1 s1 d1 =>
      ⟨.normal, f', c', hk, trivial, rfl, i', l', f1, s1, d1⟩)
    unfold wpListIn
    split
    · rename_i hw; rw [if_pos hw] at this; exact this
    · rename_i hw; rw [if_neg hw] at this; exact ⟨fun f _ => hF.fn f, this⟩
  | o :: o2 :: r, f, c, a, hl, h, inv, le, hf, hsz, hd => by
    unfold opsD at h
    rcases h with h | ⟨t, cs, ⟨H1, u, sz, ht, ht2, hg1, hc1, e1, hg2, hc2, e2, hun⟩, h2⟩
    · have := step_ok hF (m := m) ok (next := wpListIn F m L.P ops (PostV n ds c0 Q) (o2 :: r)) h inv (g0.mono le) le hf hsz hd hops (hl o (List.mem_cons_self ..)) (fun f' c' a' hk i' l' f1 s1 d1 =>
        ops_ok hF (m := m) ok g0 hops (o2 :: r) f' c' a' (fun o ho => hl o (List.mem_cons_of_mem _ ho)) hk i' l' f1 s1 d1)
      unfold wpListIn
      split
      · rename_i hw; rw [if_pos hw] at this; exact this
      · rename_i hw; rw [if_neg hw] at this; exact ⟨fun f _ => hF.fn f, this⟩
    · have htn : t < n := hl o (List.mem_cons_self ..) t ht
      have hput : ∀ (a : Act), a.tmps.size = n → a.defers = ds → ∀ (dst : Option Nat) (v : Value), (a.put dst v).tmps.size = n ∧ (a.put dst v).defers = ds := fun a hs hd dst v => by
        cases dst <;> simp [Act.put, hs, hd]
      have w1 := one_ok hF (m := m) ok (n := n) (next := wpListIn F m L.P ops (PostV n ds c0 Q) (o2 :: r)) (Post := PostV n ds c0 Q) inv (g0.mono le) hf hsz hd hops (hl o (List.mem_cons_self ..)) hg1 hc1 e1 (fun c1 v1 q1 q2 q3 q4 => by
        rw [ht]
        have hf1 : FrRep c1 (a.put (some t) v1).tmps (f.put (some t) (.ref c.hp.length 0 0 0)) := put_rep (hf.mono q3) q4 (fun x hx => by cases hx; omega)
        have w2 := one_ok hF (m := m) ok (n := n) (next := wpListIn F m L.P ops (PostV n ds c0 Q) r) (Post := PostV n ds c0 Q) q2 (g0.mono (le.trans q3)) hf1 (hput a hsz hd _ _).1 (hput a hsz hd _ _).2 hops (fun x hx => by rw [ht2] at hx; cases hx) hg2 hc2 (by rw [q1]; exact e2) (fun c2 v2 z1 z2 z3 z4 => by
          rw [ht2]
          have hf2 : FrRep c2 (a.put (some t) v1).tmps (f.put (some t) (.ref c.hp.length 0 0 0)) := hf1.mono z3
          have hle := q3.trans z3
          have hv2 : Rep c2 ((a.put (some t) v1).tmps.getD t undef) (.ref c.hp.length 0 0 0) := by
            have := hf2 t
            simp only [Fr.put, if_true] at this
            exact this
          obtain ⟨c3, y1, y2, y3, y4, y5, y6⟩ := var_ok inv z2 hle z1 hv2 hun
          have hf3 : FrRep c3 (a.put (some t) v1).tmps (f.put (some t) (.box cs)) := fun x => by
            by_cases hx : x = t
            · subst hx
              simp only [Fr.put, if_true]
              exact y6
            · have h0 := hf x
              have he : (a.put (some t) v1).tmps.getD x undef = a.tmps.getD x undef := by
                simp [Act.put, Array.getD_eq_getD_getElem?, Array.getElem?_setIfInBounds_ne (Ne.symm hx)]
              rw [he]
              simp only [Fr.put, if_neg hx]
              exact y5 _ _ h0
          have := ops_ok hF (m := m) ok g0 hops r _ c3 (a.put (some t) v1) (fun o ho => hl o (List.mem_cons_of_mem _ (List.mem_cons_of_mem _ ho))) (by rw [y2]; exact h2) y3 (le.trans y4) hf3 (hput a hsz hd _ _).1 (hput a hsz hd _ _).2
          rw [y1] at this
          exact this)
        unfold wpListIn
        rw [if_pos w2.1]
        exact w2.2)
      unfold wpListIn
      rw [if_pos w1.1]
      exact w1.2
theorem any_ok {L : Lang} {ds : List Deferred} {F : Fence} (hF : WideF F) {m : Nat} (ok : L.Ok) {ops : Array Oper} {Q : DPost} {n : Nat} {c0 : Cx} (g0 : GlOk L c0) (hops : ∀ o ∈ ops.toList, ∀ t, o.dst = some t → t < n) : ∀ (k : Nat) (listed : Array Bool) (f : Fr) (c : Cx) (a : Act), anyD L ops Q k listed f c.hp → Inv c → Le c0 c → FrRep c a.tmps f →
    a.tmps.size = n → a.defers = ds → wpAnyIn F m L.P .any ops (PostV n ds c0 Q) k listed a c.w
  | 0, listed, f, c, a, h, inv, le, hf, hsz, hd => ⟨h.1, .normal, f, c, h.2, trivial, rfl, inv, le, hf, hsz, hd⟩
  | k + 1, listed, f, c, a, h, inv, le, hf, hsz, hd => by
    refine ⟨fun hr => ⟨.normal, f, c, h.1 hr, trivial, rfl, inv, le, hf, hsz, hd⟩, fun i hi => ?_⟩
    have h1 := h.2 i hi
    unfold atD at h1
    unfold wpOpIn
    split at h1
    · rename_i o ho
      rw [ho]
      simp only
      have := step_ok hF (m := m) ok (next := wpAnyIn F m L.P .any ops (PostV n ds c0 Q) k (listed.setIfInBounds i true)) h1 inv (g0.mono le) le hf hsz hd hops (hops o (by simpa using Array.mem_of_getElem? ho)) (fun f' c' a' hk i' l' f1 s1 d1 =>
        any_ok hF (m := m) ok g0 hops k _ f' c' a' hk i' l' f1 s1 d1)
      split
      · rename_i hw; rw [if_pos hw] at this; exact this
      · rename_i hw; rw [if_neg hw] at this; exact ⟨fun f _ => hF.fn f, this⟩
    · rename_i ho
      rw [ho]
      simp only
      exact any_ok hF (m := m) ok g0 hops k _ f c a h1 inv le hf hsz hd

/-- A place for the calls that a loop's rounds defer: none is there. -/
def Idle (c : Cx) (b : Nat) : Prop := c.w.heap[b]? = some (.deferred (some [])) ∧ ¬ Own c b ∧ ¬ c.im b
def mkOf (b : Nat) : Deferred := { target := .collected b, args := #[] }
def Marks (N : Nat) (c : Cx) (mk : Bool) (ds l : List Deferred) : Prop := ∃ ms : List Nat, l = ms.map mkOf ++ ds ∧ (mk = false → ms = []) ∧ ms.Nodup ∧ ∀ b, b ∈ ms → Idle c b ∧ N ≤ b
theorem Idle.mono {c c' : Cx} {b : Nat} (h : Idle c b) (le : Le c c') : Idle c' b := by
  obtain ⟨h1, h2, h3⟩ := h
  have hlt : b < c.w.heap.size := (Array.getElem?_eq_some_iff.1 h1).1
  refine ⟨(le.frame b hlt h2).trans h1, fun ho => ?_, fun hi => ?_⟩
  · rcases le.own b ho with h | h
    · exact h2 h
    · omega
  · rcases le.imn b hi with h | h | h
    · exact h3 h
    · exact h2 h
    · omega
theorem Idle.rest {c : Cx} {b n : Nat} {S : Nat → Prop} {H1 : Heap} (h : Idle c b) (hs : Stills S c.hp H1) : Idle (c.rest S (H1.take n)) b := by
  obtain ⟨h1, h2, h3⟩ := h
  refine ⟨h1, fun ⟨r, k, q1, q2, q3⟩ => ?_, fun hi => ?_⟩
  · have q1 : (H1.take n)[r]? = some k := q1
    rw [List.getElem?_take] at q1
    split at q1
    case isFalse => cases q1
    have hr : r < c.hp.length := by rw [← hs.1]; exact (List.getElem?_eq_some_iff.1 q1).1
    rcases hs.2 r _ (List.getElem?_eq_getElem hr) with h1' | ⟨h0, h1'⟩
    · rw [q1] at h1'
      obtain rfl := Option.some.inj h1'
      simp [Blk.alive] at q2
    · rw [q1] at h1'
      exact h2 ⟨r, k, by rw [List.getElem?_eq_getElem hr, ← h1'], q2, q3⟩
  · rcases hi with hi | hi
    · exact h3 hi
    · exact h2 hi.own
theorem Marks.mono {c c' : Cx} {N : Nat} {mk : Bool} {ds l : List Deferred} (h : Marks N c mk ds l) (le : Le c c') : Marks N c' mk ds l := by
  obtain ⟨ms, h1, h2, h3, h4⟩ := h
  exact ⟨ms, h1, h2, h3, fun b hb => ⟨(h4 b hb).1.mono le, (h4 b hb).2⟩⟩
theorem Marks.none {N : Nat} {c : Cx} {mk : Bool} {ds : List Deferred} : Marks N c mk ds ds := ⟨[], rfl, fun _ => rfl, List.nodup_nil, fun b hb => nomatch hb⟩
def PostM (N n : Nat) (mk : Bool) (ds : List Deferred) (c0 : Cx) (Q : DPost) : Exit → Act → World → Prop := fun e a w =>
  ∃ x f c, Q x f c.hp ∧ ExRep c e x ∧ c.w = w ∧ Inv c ∧ Le c0 c ∧ FrRep c a.tmps f ∧ a.tmps.size = n ∧ Marks N c mk ds a.defers
theorem PostV.marks {N n : Nat} {mk : Bool} {ds : List Deferred} {c0 c : Cx} {Q : DPost} {a0 : Act} (le : Le c0 c) (hm : Marks N c mk ds a0.defers) {e : Exit} {a : Act} {w : World} (h : PostV n a0.defers c Q e a w) : PostM N n mk ds c0 Q e a w := by
  obtain ⟨x, f, c1, h1, h2, h3, h4, h5, h6, h7, h8⟩ := h
  exact ⟨x, f, c1, h1, h2, h3, h4, le.trans h5, h6, h7, by rw [h8]; exact hm.mono h5⟩
theorem PostM.plain {N n : Nat} {ds : List Deferred} {c0 : Cx} {Q : DPost} {e : Exit} {a : Act} {w : World} (h : PostM N n false ds c0 Q e a w) : PostV n ds c0 Q e a w := by
  obtain ⟨x, f, c, h1, h2, h3, h4, h5, h6, h7, ms, k1, k2, _⟩ := h
  exact ⟨x, f, c, h1, h2, h3, h4, h5, h6, h7, by rw [k1, k2 rfl]; rfl⟩
/-- A block that is nobody's is laid. -/
theorem foreign_ok {c : Cx} (inv : Inv c) (o : Obj) : Inv (c.at (c.w.alloc o)) ∧ Le c (c.at (c.w.alloc o)) := by
  have hold : ∀ b, b < c.w.heap.size → (c.w.alloc o).heap[b]? = c.w.heap[b]? := fun b hb => heap_alloc_old c.w _ b hb
  have le : Le c (c.at (c.w.alloc o)) := by
    refine ⟨rfl, rfl, rfl, by simp [Cx.at], Nat.le_refl _, fun _ h => h, fun b hb => hold b (inv.imlt b hb), fun _ h => .inl h, fun _ h => .inl h, fun b hb _ => hold b hb,
      fun _ _ => Nat.le_refl _, fun r g sz ro xs _ _ h => ⟨ro, xs, h, rfl, rfl, ?_⟩, fun r g ro es _ _ h => ⟨ro, es, h, rfl, rfl⟩⟩
    have hlt : (c.mu r).1 < c.w.heap.size := (inv.blk r _ h).lt rfl
    show bsize (c.w.alloc o) _ = _
    unfold bsize
    rw [hold _ hlt]
  refine ⟨⟨fun b hb => Nat.lt_of_lt_of_le (inv.imlt b hb) le.size, fun r k hk => (inv.blk r k hk).mono le rfl (fun ha b hb => hold b ((inv.blk r k hk).atlt ha hb)) (fun _ _ _ => Iff.rfl), inv.inj⟩, le⟩
/-- A loop's record is written. -/
theorem rec_ok {c : Cx} (inv : Inv c) {r g : Nat} {ps : List Nat} {as bo : Code} {st st' : Int} {pend pend' : D} {fr : List D} (hx : c.hp[r]? = some (loopB g ps as bo st pend fr)) {lp : Loop} (hl : c.w.heap[(c.mu r).1]? = some (.loop lp)) (st2 : LoopState) (pd2 : Option Code)
    (h1 : stOk st' st2) (h2 : pendOk pend' pd2) : Inv (c.put r (loopB g ps as bo st' pend' fr) (c.mu r) (c.w.putObj (c.mu r).1 (.loop { lp with state := st2, pending := pd2 }))) ∧
      Le c (c.put r (loopB g ps as bo st' pend' fr) (c.mu r) (c.w.putObj (c.mu r).1 (.loop { lp with state := st2, pending := pd2 }))) := by
  obtain ⟨⟨e1, lp0, k1, k2, k3, k4, k5, k6, k7, k8⟩, h5, h6⟩ : ((c.mu r).2 = (c.mu r).1 ∧ LoopIs c (c.mu r).1 ps as bo st pend fr) ∧ (false = true → _) ∧ (false = false → ¬ c.im (c.mu r).1 ∧ ¬ c.im (c.mu r).2) := inv.blk _ _ hx
  obtain rfl : lp0 = lp := by
    rw [k1] at hl
    exact Obj.loop.inj (Option.some.inj hl)
  have hlt : (c.mu r).1 < c.w.heap.size := (Array.getElem?_eq_some_iff.1 k1).1
  refine put_ok inv hx rfl rfl rfl rfl (by simp) (fun b _ hne => World.putObj_heap_other fun hb => hne rfl (.inl hb.symm)) (fun b _ hb => .inl ⟨rfl, hb⟩) (Nat.le_refl _)
    ⟨fun g' sz' ro' xs' he => (by cases he), fun g' ro' es' he hg => by
      obtain ⟨rfl, rfl, rfl⟩ := Blk.map.inj he
      exact ⟨_, _, rfl, rfl, rfl⟩⟩ (fun le => by
      show (_ ∧ LoopIs _ _ ps as bo st' pend' fr) ∧ _ ∧ _
      exact ⟨⟨by simp only [Cx.put, upd_same]; exact e1, { lp0 with state := st2, pending := pd2 }, by simp only [Cx.put, upd_same]; exact World.putObj_heap_same hlt, k2, k3, k4, h1, h2, k7, fun t => (k8 t).mono le⟩, (fun h => nomatch h), fun _ => by simp only [Cx.put, upd_same]; exact h6 rfl⟩)
theorem code_okF {L : Lang} {ds : List Deferred} {F : Fence} (hF : WideF F) {m : Nat} {mk : Bool} (hmk : mk = true → F = Fence.wide) (ok : L.Ok) {N n : Nat} : ∀ (code : Code) (f : Fr) (Q : DPost) (c0 : Cx), GlOk L c0 ∧ N ≤ c0.w.heap.size → dstsB mk n code = true → ∀ (c : Cx) (a : Act), wpD L code f c.hp Q → Inv c → Le c0 c → FrRep c a.tmps f → a.tmps.size = n → Marks N c mk ds a.defers →
    code.wpIn F m L.P (PostM N n mk ds c0 Q) a c.w
  | .skip, f, Q, c0, _, _, c, a, h, inv, le, hf, hsz, hd => wpIn_skip ⟨.normal, f, c, h, trivial, rfl, inv, le, hf, hsz, hd⟩
  | .exit _, f, Q, c0, _, _, c, a, h, inv, le, hf, hsz, hd => wpIn_exit ⟨.exit _, f, c, h, rfl, rfl, inv, le, hf, hsz, hd⟩
  | .ret, f, Q, c0, _, _, c, a, h, inv, le, hf, hsz, hd => wpIn_ret ⟨.ret, f, c, h, trivial, rfl, inv, le, hf, hsz, hd⟩
  | .region id ops draw, f, Q, c0, g0, hds, c, a, h, inv, le, hf, hsz, hd => by
    have hops : ∀ o ∈ ops.toList, ∀ t, o.dst = some t → t < n := fun o ho t ht => by
      simp only [dstsB, Array.all_eq_true_iff_forall_mem] at hds
      have := hds o (by simpa using ho)
      rw [ht] at this
      simpa using this
    unfold wpD at h
    refine wpIn_mono (Q := PostV n a.defers c Q) ?_ fun e a' w' hq => hq.marks le hd
    cases draw with
    | true =>
      simp only [if_true] at h
      refine wpIn_region_any ok.mixed ?_
      have hat := at_ok inv (w' := { c.w with drawn := c.w.drawn + 1 }) rfl rfl rfl rfl
      exact any_ok hF ok (g0.1.mono le) hops _ _ f (c.at _) a h hat.1 hat.2 (hf.mono hat.2) hsz rfl
    | false =>
      simp only [Bool.false_eq_true, if_false] at h
      exact wpIn_region_list (ops_ok hF ok (g0.1.mono le) hops _ f c a hops h inv .refl hf hsz rfl)
  | .seq x y, f, Q, c0, g0, hds, c, a, h, inv, le, hf, hsz, hd => by
    simp only [dstsB, Bool.and_eq_true] at hds
    unfold wpD at h
    refine wpIn_seq (wpIn_mono (code_okF hF hmk ok x f _ c0 g0 hds.1 c a h inv le hf hsz hd) fun e a' w' ⟨z, f', c', h1, h2, h3, h4, h5, h6, h7, h8⟩ => ?_)
    subst h3
    cases e <;> cases z <;> try exact h2.elim
    · exact code_okF hF hmk ok y f' Q c0 g0 hds.2 c' a' h1 h4 h5 h6 h7 h8
    · exact ⟨_, f', c', h1, h2, rfl, h4, h5, h6, h7, h8⟩
    · exact ⟨_, f', c', h1, h2, rfl, h4, h5, h6, h7, h8⟩
    · exact ⟨_, f', c', h1, h2, rfl, h4, h5, h6, h7, h8⟩
  | .cond t x y, f, Q, c0, g0, hds, c, a, h, inv, le, hf, hsz, hd => by
    simp only [dstsB, Bool.and_eq_true] at hds
    unfold wpD at h
    have hev := ev_rep hf (g0.1.mono le) t
    split at h
    · rename_i b hb
      rw [hb] at hev
      generalize hq : a.eval t = q at hev
      cases hev
      cases b with
      | true => exact wpIn_cond_true hq (code_okF hF hmk ok x f Q c0 g0 hds.1 c a (h.1 rfl) inv le hf hsz hd)
      | false => exact wpIn_cond_false hq (code_okF hF hmk ok y f Q c0 g0 hds.2 c a (h.2 rfl) inv le hf hsz hd)
    · exact h.elim
  | .block id x, f, Q, c0, g0, hds, c, a, h, inv, le, hf, hsz, hd => by
    simp only [dstsB] at hds
    unfold wpD at h
    refine wpIn_block (wpIn_mono (code_okF hF hmk ok x f _ c0 g0 hds c a h inv le hf hsz hd) fun e a' w' ⟨z, f', c', h1, h2, h3, h4, h5, h6, h7, h8⟩ => ?_)
    subst h3
    cases e <;> cases z <;> try exact h2.elim
    · exact ⟨.normal, f', c', h1, trivial, rfl, h4, h5, h6, h7, h8⟩
    · have h2' := h2
      simp only [ExRep] at h2'
      subst h2'
      simp only [blockD] at h1
      simp only [Exit.inBlock]
      split
      · rename_i hm; rw [if_pos hm] at h1; exact ⟨.normal, f', c', h1, trivial, rfl, h4, h5, h6, h7, h8⟩
      · rename_i hm; rw [if_neg hm] at h1; exact ⟨.exit _, f', c', h1, rfl, rfl, h4, h5, h6, h7, h8⟩
    · exact ⟨.ret, f', c', h1, trivial, rfl, h4, h5, h6, h7, h8⟩
    · exact ⟨.panic _, f', c', h1, h2, rfl, h4, h5, h6, h7, h8⟩
  | .loop x, f, Q, c0, g0, hds, c, a, h, inv, le, hf, hsz, hd => by
    simp only [dstsB] at hds
    intro b k cs hro hb hr
    unfold wpD at h
    have key := h (fun f H => ∀ (c1 : Cx) (a : Act), c1.hp = H → Inv c1 → Le c c1 → FrRep c1 a.tmps f → a.tmps.size = n → Marks N c1 mk ds a.defers →
      ∃ e a' w', PostM N n mk ds c0 Q e a' w' ∧ ArrivesIn (Machine.fenced L.P F) L.P (lone (b.atR a (.code x :: .inLoop x :: k)) cs c1.w) b k cs e a' w') (fun f H hb' c1 a hh inv le1 hf hsz hd => ?_) c a rfl inv .refl hf hsz hd
    · obtain ⟨e, a', w', hq, harr⟩ := key
      exact ⟨e, a', w', hq, .of_steps (.one (fenced_calm hb hr rfl) stepR_loop) harr⟩
    · subst hh
      obtain ⟨e, a₁, w₁, ⟨z, f', c', h1, h2, h3, h4, h5, h6, h7, h8⟩, harr⟩ := code_okF hF hmk ok x f _ c ⟨g0.1.mono le, Nat.le_trans g0.2 le.size⟩ hds c1 a hb' inv le1 hf hsz hd b (.inLoop x :: k) cs hro hb hr
      subst h3
      cases e <;> cases z <;> try exact h2.elim
      · rcases h1 with ⟨S, H2, f2, hdr, hfr, h1⟩ | ⟨S, H1, n1, f2, hdr, hn0, hn1, hu, hfr, h1⟩
        · obtain ⟨i2, l2⟩ := stills_ok h4 hdr
          obtain ⟨e₂, a₂, w₂, hq₂, harr₂⟩ := h1 (c'.rest S H2) a₁ rfl i2 (h5.trans l2) (fun t => stills_rep h4 hdr (h6 t) (hfr t)) h7 (h8.mono l2)
          exact ⟨e₂, a₂, w₂, hq₂, .of_steps (StepsIn.trans harr (.one (fenced_calm hb hr rfl) stepR_inLoop)) harr₂⟩
        · obtain ⟨i2, l2, r1, r2⟩ := rest_trim h4 h5 hdr hn0 hn1 hu
          have h8' : Marks N (c'.rest S (H1.take n1)) mk ds a₁.defers := by
            obtain ⟨ms, m1, m2, m3, m4⟩ := h8
            exact ⟨ms, m1, m2, m3, fun b hb => ⟨(m4 b hb).1.rest hdr, (m4 b hb).2⟩⟩
          obtain ⟨e₂, a₂, w₂, hq₂, harr₂⟩ := h1 (c'.rest S (H1.take n1)) a₁ rfl i2 l2 (fun t => (hfr t).elim (fun hf' => by rw [hf'.1]; exact r1 _ _ (h6 t) hf'.2) (fun hf' => r2 _ _ _ (h6 t) hf')) h7 h8'
          exact ⟨e₂, a₂, w₂, hq₂, .of_steps (StepsIn.trans harr (.one (fenced_calm hb hr rfl) stepR_inLoop)) harr₂⟩
      · exact ⟨_, a₁, _, ⟨_, f', c', h1, h2, rfl, h4, le.trans h5, h6, h7, h8⟩, .pass (x := .inLoop x) rfl (fun _ _ => .inl (by simp)) harr⟩
      · exact ⟨_, a₁, _, ⟨_, f', c', h1, h2, rfl, h4, le.trans h5, h6, h7, h8⟩, .pass (x := .inLoop x) rfl (fun _ _ => .inl (by simp)) harr⟩
      · exact ⟨_, a₁, _, ⟨_, f', c', h1, h2, rfl, h4, le.trans h5, h6, h7, h8⟩, .pass (x := .inLoop x) rfl (fun _ _ => .inl (by simp)) harr⟩
  | .rangeFunc go ps as bo, f, Q, c0, g0, hds, c, a, h, inv, le, hf, hsz, hd => by
    simp only [dstsB, Bool.and_eq_true] at hds
    obtain ⟨⟨⟨hk, hps⟩, hda⟩, hdb⟩ := hds
    obtain rfl := hmk hk
    unfold wpD at h
    obtain ⟨gi, first, caps, fr, e1, e2, e3⟩ := h
    refine wpIn_rangeFunc fun fn _ => ?_
    obtain ⟨iA, lA⟩ := foreign_ok inv (.deferred (some []))
    have hfA : FrRep (c.at (c.w.alloc (.deferred (some [])))) a.tmps f := hf.mono lA
    have hent := run_enterLoop_outer (P := L.P) (w := c.w) fn a.tmps ps as bo
    obtain ⟨lp, hlp⟩ : ∃ lp : Loop, lp = { state := .ready, pending := none, fn := fn, tmps := a.tmps, params := ps, assign := as, body := bo, defers := c.w.heap.size } := ⟨_, rfl⟩
    rw [← hlp] at hent
    have hsA : (c.at (c.w.alloc (.deferred (some [])))).w.heap.size = c.w.heap.size + 1 := by simp [Cx.at]
    have hB := push_ok iA (k := loopB 0 ps.toList as bo 0 .undef fr) (m := (c.w.heap.size + 1, c.w.heap.size + 1)) (w' := (c.w.alloc (.deferred (some []))).alloc (.loop lp)) rfl rfl rfl (by simp [Cx.at]) (fun b hb => heap_alloc_old _ _ b hb)
      (fun b _ hat => by rcases hat with hat | hat <;> exact Nat.le_of_eq (hsA.trans hat)) (fun leB => by
        show (_ ∧ LoopIs _ _ ps.toList as bo 0 .undef fr) ∧ _ ∧ _
        refine ⟨⟨?_, lp, ?_, by rw [hlp], by rw [hlp], by rw [hlp], by rw [hlp]; trivial, by rw [hlp]; trivial, ?_, fun t => ?_⟩, (fun h => nomatch h), fun _ => ?_⟩
        · simp [Cx.push, upd_same]
        · simp only [Cx.push, upd_same]
          have := World.alloc_heap_new (c.w.alloc (.deferred (some []))) (.loop lp)
          simpa using this
        · rw [hlp]
          subst hsz
          refine ⟨hda, hdb, fun p hp => ?_⟩
          have := Array.all_eq_true_iff_forall_mem.1 hps p (by simpa using hp)
          simpa using this
        · have h0 := (hfA t).mono leB
          rw [e2 t] at h0
          have hlt : lp.tmps = a.tmps := by rw [hlp]
          rw [hlt]
          exact h0
        · simp only [Cx.push, upd_same]
          have := iA.imlt (c.w.heap.size + 1)
          rw [hsA] at this
          exact ⟨fun hi => absurd (this hi) (Nat.lt_irrefl _), fun hi => absurd (this hi) (Nat.lt_irrefl _)⟩)
    obtain ⟨c2, hc2⟩ : ∃ c2, c2 = (c.at (c.w.alloc (.deferred (some [])))).push (loopB 0 ps.toList as bo 0 .undef fr) (c.w.heap.size + 1, c.w.heap.size + 1) ((c.w.alloc (.deferred (some []))).alloc (.loop lp)) := ⟨_, rfl⟩
    rw [← hc2] at hB
    obtain ⟨iB, lB⟩ := hB
    have hw2 : c2.w = (c.w.alloc (.deferred (some []))).alloc (.loop lp) := by rw [hc2]; rfl
    have hh2 : c2.hp = c.hp ++ [loopB 0 ps.toList as bo 0 .undef fr] := by rw [hc2]; rfl
    have hm2 : c2.mu c.hp.length = (c.w.heap.size + 1, c.w.heap.size + 1) := by rw [hc2]; exact upd_same
    have lAB := lA.trans lB
    have hidle : Idle c2 c.w.heap.size := by
      refine Idle.mono ⟨?_, fun ho => ?_, fun hi => ?_⟩ lB
      · exact World.alloc_heap_new _ _
      · rcases lA.own _ ho with h | h
        · exact absurd (inv.ownlt h) (Nat.lt_irrefl _)
        · obtain ⟨r, k, q1, q2, q3⟩ := ho
          exact absurd ((inv.blk r k q1).atlt q2 q3) (Nat.lt_irrefl _)
      · exact absurd (inv.imlt _ hi) (Nat.lt_irrefl _)
    have hmarks : ∀ c3, Le c2 c3 → Marks N c3 mk ds (mkOf c.w.heap.size :: a.defers) := fun c3 l3 => by
      obtain ⟨ms, m1, m2, m3, m4⟩ := hd
      refine ⟨c.w.heap.size :: ms, by rw [m1]; rfl, (fun h => by rw [hk] at h; cases h), List.nodup_cons.2 ⟨fun hm => ?_, m3⟩, fun b hb => ?_⟩
      · exact absurd (Array.getElem?_eq_some_iff.1 (m4 _ hm).1.1).1 (Nat.lt_irrefl _)
      · rcases List.mem_cons.1 hb with rfl | hb
        · exact ⟨hidle.mono l3, Nat.le_trans g0.2 le.size⟩
        · exact ⟨((m4 b hb).1.mono lAB).mono l3, (m4 b hb).2⟩
    have hevg := (ev_rep hf (g0.1.mono le) go).mono lAB
    rw [e1] at hevg
    generalize hqv : a.eval go = q at hevg
    cases hevg with
    | func _ x y _ _ hx hy hx2 hy2 =>
    obtain ⟨⟨fi, i1, i2, i3⟩, hcall⟩ := e3
    have hbn : fi.body ≠ none := by intro hb; simp [hb] at i2
    have hname : fi.name ≠ "runtime.NumGoroutine" := by simpa using i3
    obtain ⟨yv, hyv⟩ : ∃ yv : Value, yv = .func (.yield (c.w.heap.size + 1)) #[] #[] := ⟨_, rfl⟩
    refine ⟨c.w.heap.size + 1, [mkOf c.w.heap.size], c2.w, { target := .fn (.func gi) (y), args := x ++ #[yv] }, c2.w, gi, x ++ #[yv] ++ y, c2.w, by rw [hw2]; exact hent, ?_, fun f' _ => trivial, ?_, (fun h => nomatch h), ?_⟩
    · rw [hyv]
      have hcst : a.eval (.const (.func (.yield (c.w.heap.size + 1)) #[] #[])) = .func (.yield (c.w.heap.size + 1)) #[] #[] := rfl
      simp [resolve, rangeCall, hqv, Deferred.ofValue, hcst]
    · simp [invoke, callFunc, i1, hname, hbn]
    · refine callsIn_wide.2 ((hcall c2 (x ++ #[yv] ++ y) iB hh2 (g0.1.mono (le.trans lAB)) (by simp [hx, hy]; omega) fun i d hd' => ?_).mono fun e w' ⟨r, c', q1, q2, q3, q4, q5⟩ => ?_)
      · have hyr : Rep c2 yv (.yld c.hp.length 0) := by
          refine .yld _ _ _ (by simp [hh2]) (by simp [ng, hh2, Blk.next]) fun ro es _ => ?_
          rw [hyv, hm2]
        by_cases p1 : i < first.length
        · rw [List.getElem?_append_left p1] at hd'
          have := hx2 i d hd'
          rw [← hx] at p1
          have e : (x ++ #[yv] ++ y).getD i undef = x.getD i undef := by
            simp only [Array.getD_eq_getD_getElem?]
            rw [Array.append_assoc, Array.getElem?_append_left p1]
          rw [e]; exact this
        · rw [List.getElem?_append_right (by omega)] at hd'
          by_cases p2 : i = first.length
          · subst p2
            simp only [Nat.sub_self, List.getElem?_cons_zero, Option.some.injEq] at hd'
            subst hd'
            have e : (x ++ #[yv] ++ y).getD first.length undef = yv := by
              simp only [Array.getD_eq_getD_getElem?]
              rw [Array.append_assoc, Array.getElem?_append_right (by omega), hx, Nat.sub_self, Array.getElem?_append_left (by simp)]
              simp
            rw [e]; exact hyr
          · have hs : i - first.length = (i - (first.length + 1)) + 1 := by omega
            rw [hs, List.getElem?_cons_succ] at hd'
            have := hy2 _ d hd'
            have e : (x ++ #[yv] ++ y).getD i undef = y.getD (i - (first.length + 1)) undef := by
              simp only [Array.getD_eq_getD_getElem?]
              rw [Array.getElem?_append_right (by simp; omega)]
              simp [hx]
            rw [e]; exact this
      · subst q2
        cases e with
        | returned v =>
          cases r with
          | panic d => exact q5.elim
          | ret d =>
          obtain ⟨ps1, as1, bo1, st, pend, fr', r1, r2, r3⟩ := q1
          obtain ⟨⟨u1, lp', u2, u3, u4, u5, u6, u7, u8, u9⟩, _, _⟩ : ((c'.mu c.hp.length).2 = (c'.mu c.hp.length).1 ∧ LoopIs c' (c'.mu c.hp.length).1 ps1 as1 bo1 st pend fr') ∧ _ ∧ _ := q3.blk _ _ r1
          have hmu : (c'.mu c.hp.length).1 = c.w.heap.size + 1 := by
            obtain ⟨_, _, _, z, _⟩ := q4.maps c.hp.length 0 false _ (by rw [hh2]; simp) (by simp [ng, hh2, Blk.next]) r1
            rw [z, hm2]
          rw [hmu] at u2
          have hb : lp'.state ≠ .busy := by
            intro hbz
            rw [hbz] at u6
            unfold stOk at u6
            split at u6 <;> simp_all
          refine ⟨lp'.pending, _, run_endLoop u2 hb, ?_⟩
          have key := fun pend' (h2 : pendOk pend' lp'.pending) => rec_ok q3 (st' := 3) (pend' := pend') r1 (lp := lp') (by rw [hmu]; exact u2) .exhausted lp'.pending trivial h2
          rw [hmu] at key
          have hfin : ∀ (x : DExit) (e : Exit) (pend' : D), pendOk pend' lp'.pending → (∀ c3, ExRep c3 e x) → Q x f (c'.hp.set c.hp.length (loopB 0 ps1 as1 bo1 3 pend' fr')) →
              PostM N n mk ds c0 Q e { a with defers := [mkOf c.w.heap.size] ++ a.defers } (c'.w.putObj (c.w.heap.size + 1) (.loop { lp' with state := .exhausted, pending := lp'.pending })) := fun x e pend' hp' hex hq => by
            obtain ⟨k1, k2⟩ := key pend' hp'
            exact ⟨x, f, _, hq, hex _, rfl, k1, (le.trans lAB).trans (q4.trans k2), hf.mono (lAB.trans (q4.trans k2)), hsz, hmarks _ (q4.trans k2)⟩
          split at r3
          · obtain hpn : lp'.pending = none := by
              revert u7; cases lp'.pending <;> intro u7 <;> first | rfl | exact u7.elim
            rw [hpn]
            rw [hpn] at hfin
            exact hfin .normal .normal .undef trivial (fun _ => trivial) r3
          · rename_i k
            obtain ⟨nn, hpn, hkn⟩ : ∃ nn, lp'.pending = some (.exit nn) ∧ k = nn := by
              revert u7; cases lp'.pending with
              | none => intro u7; exact u7.elim
              | some cc => cases cc <;> intro u7 <;> first | exact ⟨_, rfl, u7⟩ | exact u7.elim
            subst hkn
            rw [hpn]
            rw [hpn] at hfin
            exact wpIn_exit (hfin (.exit nn) (.exit nn) (.int .i64 nn) rfl (fun _ => rfl) (by simpa using r3))
          · obtain hpn : lp'.pending = some .ret := by
              revert u7; cases lp'.pending with
              | none => intro u7; exact u7.elim
              | some cc => cases cc <;> intro u7 <;> first | rfl | exact u7.elim
            rw [hpn]
            rw [hpn] at hfin
            exact wpIn_ret (hfin .ret .ret (.bool true) trivial (fun _ => trivial) r3)
          · exact r3.elim
        | panicked chain =>
          cases r with
          | ret d => exact q5.elim
          | panic d => exact ⟨.panic d, f, c', q1, q5, rfl, q3, (le.trans lAB).trans q4, hf.mono (lAB.trans q4), hsz, hmarks _ q4⟩
        | outgrown => cases r <;> exact q5.elim
  | .scope _, _, _, _, _, _, _, _, h, _, _, _, _, _ => h.elim
  | .label _, _, _, _, _, _, _, _, h, _, _, _, _, _ => h.elim
  | .goto _, _, _, _, _, _, _, _, h, _, _, _, _, _ => h.elim
  | .refuse _, _, _, _, _, _, _, _, h, _, _, _, _, _ => h.elim
theorem code_ok {L : Lang} {ds : List Deferred} (ok : L.Ok) {n : Nat} (code : Code) (f : Fr) (Q : DPost) (c0 : Cx) (g0 : GlOk L c0) (hds : dstsOk n code = true) (c : Cx) (a : Act) (h : wpD L code f c.hp Q) (inv : Inv c) (le : Le c0 c) (hf : FrRep c a.tmps f) (hsz : a.tmps.size = n) (hd : a.defers = ds) :
    code.wp L.P (PostV n ds c0 Q) a c.w :=
  wpIn_wide.1 (wpIn_mono (code_okF (m := 0) (mk := false) (.inl rfl) (fun h => nomatch h) ok (N := 0) code f Q c0 ⟨g0, Nat.zero_le _⟩ hds c a h inv le hf hsz (hd ▸ Marks.none)) fun _ _ _ h => h.plain)

/-! ### functions -/
def resOne (T : TypeId → TI) (f : Fr) (H : Heap) : ResultVar → Option D
  | .tmp t => some (f t)
  | .cell a t => loadD T H t (f a)
def resAll (T : TypeId → TI) (f : Fr) (H : Heap) : List ResultVar → Option (List D)
  | [] => some []
  | r :: l => match resOne T f H r, resAll T f H l with
    | some d, some ds => some (d :: ds)
    | _, _ => none
def resD (T : TypeId → TI) (f : Fr) (H : Heap) (rs : List ResultVar) : Option D := match resAll T f H rs with
  | some [d] => some d
  | some ds => some (.tuple ds)
  | none => none
def resRun (tmps : Array Value) : ResultVar → Sem Value
  | .tmp t => pure (tmps.getD t undef)
  | .cell a t => do loadVar t (← asAddr (tmps.getD a undef))
theorem resAll_ok {L : Lang} (ok : L.Ok) {c : Cx} (inv : Inv c) {f : Fr} {tmps : Array Value} (hf : FrRep c tmps f) : ∀ (rs : List ResultVar) (ds : List D), resAll L.T f c.hp rs = some ds →
    ∃ vs : List Value, (rs.mapM (resRun tmps)).run L.P c.w = .ok vs c.w ∧ vs.length = ds.length ∧ ∀ (i : Nat) (d : D), ds[i]? = some d → Rep c (vs.getD i undef) d
  | [], ds, h => by
    obtain rfl := Option.some.inj h
    exact ⟨[], rfl, rfl, fun i d hd => by simp at hd⟩
  | r :: rs, ds, h => by
    simp only [resAll] at h
    cases h1 : resOne L.T f c.hp r with
    | none => simp [h1] at h
    | some d =>
    cases h2 : resAll L.T f c.hp rs with
    | none => simp [h1, h2] at h
    | some ds' =>
    simp only [h1, h2, Option.some.injEq] at h
    subst h
    obtain ⟨vs, v1, v2, v3⟩ := resAll_ok ok inv hf rs ds' h2
    have fin : ∀ v, (resRun tmps r).run L.P c.w = .ok v c.w → Rep c v d → ∃ vs : List Value, ((r :: rs).mapM (resRun tmps)).run L.P c.w = .ok vs c.w ∧ vs.length = (d :: ds').length ∧ ∀ (i : Nat) (e : D), (d :: ds')[i]? = some e → Rep c (vs.getD i undef) e := by
      intro v hv hr
      refine ⟨v :: vs, ?_, by simp [v2], fun i e he => ?_⟩
      · simp only [List.mapM_cons, Sem.run_bind]
        simp_all
      · cases i with
        | zero => simp at he; subst he; exact hr
        | succ i => simpa using v3 i e (by simpa using he)
    cases r with
    | tmp t =>
      obtain rfl := Option.some.inj h1
      exact fin _ (by simp [resRun]) (hf t)
    | cell a t =>
      simp only [resOne] at h1
      have hr := hf a
      unfold loadD at h1
      split at h1
      · rename_i cs o hx
        obtain ⟨b, off, fn, hv, e1, e2, e3⟩ := refCells_ok inv hr hx
        obtain ⟨v, r1, r2⟩ := loadVar_same ok e1 e2 e3 h1
        refine fin v ?_ r2
        simp only [resRun, hv, Sem.run_bind, asAddr, Sem.run_pure, Result.andThen_ok, r1]
      · cases h1
end Go.Proofs.Ytejpgmemohchaaa.Vm
