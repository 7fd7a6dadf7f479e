/- Steps of a walk over plain values. -/
import Derived.Test.YtejpgmemohchaaaVmO
namespace Go.Proofs.Ytejpgmemohchaaa.Vm
open Go

variable {L : Lang} {f : Fr} {H : Heap} {Q : DPost}
theorem w_skip (h : Q .normal f H) : wpD L .skip f H Q := h
theorem w_exit {n : Nat} (h : Q (.exit n) f H) : wpD L (.exit n) f H Q := h
theorem w_ret (h : Q .ret f H) : wpD L .ret f H Q := h
theorem w_seq {a b : Code} (h : wpD L a f H (thenD (fun f H => wpD L b f H Q) Q)) : wpD L (.seq a b) f H Q := h
theorem w_region {id : Nat} {ops : Array Oper} (h : opsD L ops Q ops.toList f H) : wpD L (.region id ops false) f H Q := h
theorem w_block {id : Nat} {a : Code} (h : wpD L a f H (blockD id Q)) : wpD L (.block id a) f H Q := h
theorem w_cond {c : Operand} {a b : Code} {t : Bool} {x : D} (hx : evD L f c = x) (hc : x = .bool t) (h1 : t = true → wpD L a f H Q) (h2 : t = false → wpD L b f H Q) : wpD L (.cond c a b) f H Q := by
  subst hx
  unfold wpD
  rw [hc]
  exact ⟨h1, h2⟩
theorem w_true {c : Operand} {a b : Code} (hc : evD L f c = .bool true) (h1 : wpD L a f H Q) : wpD L (.cond c a b) f H Q := w_cond rfl hc (fun _ => h1) (fun h => by cases h)
theorem w_false {c : Operand} {a b : Code} (hc : evD L f c = .bool false) (h1 : wpD L b f H Q) : wpD L (.cond c a b) f H Q := w_cond rfl hc (fun h => by cases h) (fun _ => h1)
/-- A loop, by what it keeps and what grows less. -/
theorem w_loop {a : Code} (I : Nat → Fr → Heap → Prop) (n : Nat) (h0 : I n f H) (h : ∀ n f H, I n f H → wpD L a f H (thenD (fun f H => ∃ m, m < n ∧ I m f H) Q)) : wpD L (.loop a) f H Q := by
  have key : ∀ n f H', I n f H' → LoopD L a H.length Q f H' := by
    intro n
    induction n using Nat.strongRecOn with
    | ind n ih =>
      intro f H hI
      refine loop_unfold (wpD_mono a f H _ _ (fun e f H he => ?_) (h n f H hI))
      cases e with
      | normal => exact he.elim fun m hm => ih m hm.1 f H hm.2
      | _ => exact he
  exact loop_is (key n f H h0)

/-- A loop, by what it keeps and what grows less; what is not needed any more may be given up behind each round. -/
theorem w_loopD {a : Code} (I : Nat → Fr → Heap → Prop) (n : Nat) (h0 : I n f H) (h : ∀ n f H, I n f H → wpD L a f H (thenD (fun f H => ∃ m, m < n ∧ ∃ H', Drops H H' ∧ I m f H') Q)) : wpD L (.loop a) f H Q := by
  have key : ∀ n f H', I n f H' → LoopD L a H.length Q f H' := by
    intro n
    induction n using Nat.strongRecOn with
    | ind n ih =>
      intro f H hI
      refine loop_unfoldD (wpD_mono a f H _ _ (fun e f H he => ?_) (h n f H hI))
      cases e with
      | normal => exact he.elim fun m hm => hm.2.elim fun H' hh => .inl ⟨_, H', f, hh.1.stills, fun _ => .inl rfl, ih m hm.1 f H' hh.2⟩
      | _ => exact he
  exact loop_is (key n f H h0)

/-- A frame of which these temporaries are told. -/
def lookF : List (Nat × D) → Fr
  | [], _ => .undef
  | (k, d) :: r, t => if t = k then d else lookF r t
/-- A loop, by what it keeps and what grows less; behind each round no more than n places of the small heap are left; what the blocks behind them hold never changes. -/
theorem w_loopT {a : Code} (I : Nat → Fr → Heap → Prop) (n : Nat) (h0 : I n f H)
    (h : ∀ n f' H', I n f' H' → wpD L a f' H' (thenD (fun f1 H1 => ∃ m, m < n ∧ ∃ H2 k l, H.length ≤ k ∧ H1.take k = H2 ∧ k ≤ H1.length ∧ (∀ b, b ∈ H2 → b.under k) ∧ (∀ p, p ∈ l → (p.2 = f1 p.1 ∧ Under k p.2) ∨ Snap (fun r => k ≤ r) H1 (f1 p.1) p.2) ∧ I m (lookF l) H2) Q)) : wpD L (.loop a) f H Q := by
  have key : ∀ n f H', I n f H' → LoopD L a H.length Q f H' := by
    intro n
    induction n using Nat.strongRecOn with
    | ind n ih =>
      intro f1 H1 hI
      refine loop_unfoldD (wpD_mono a f1 H1 _ _ (fun e f1 H1 he => ?_) (h n f1 H1 hI))
      cases e with
      | normal =>
        obtain ⟨m, hm, H2, k, l, h1, rfl, h3, h4, h5, h6⟩ := he
        refine .inr ⟨fun r => k ≤ r, H1.zipIdx.map fun p => if p.2 < k then p.1 else .gone p.1.next, k, lookF l, ⟨by simp, fun r b hb => ?_⟩, h1, by simpa using h3, ?_, fun t => ?_, ?_⟩
        · by_cases hr : r < k
          · exact .inr ⟨by omega, by simp [hb, hr]⟩
          · exact .inl (by simp [hb, hr])
        · have e : (H1.zipIdx.map fun p => if p.2 < k then p.1 else Blk.gone p.1.next).take k = H1.take k := by
            refine List.ext_getElem? fun i => ?_
            rw [List.getElem?_take, List.getElem?_take]
            split
            · rename_i hi
              rw [List.getElem?_map, List.getElem?_zipIdx]
              cases H1[i]? <;> simp [hi]
            · rfl
          rw [e]
          exact h4
        · have key2 : ∀ (l : List (Nat × D)), (∀ p, p ∈ l → (p.2 = f1 p.1 ∧ Under k p.2) ∨ Snap (fun r => k ≤ r) H1 (f1 p.1) p.2) → (lookF l t = f1 t ∧ Under k (f1 t)) ∨ Snap (fun r => k ≤ r) H1 (f1 t) (lookF l t) := by
            intro l
            induction l with
            | nil => intro _; exact .inr .any
            | cons p l ihl =>
              intro hp
              obtain ⟨x, d⟩ := p
              by_cases hx : t = x
              · subst hx
                have hx := hp (t, d) (List.mem_cons_self ..)
                simp only [lookF, if_true]
                rcases hx with ⟨h1, h2⟩ | hx
                · simp only at h1 h2
                  exact .inl ⟨h1, h1 ▸ h2⟩
                · exact .inr hx
              · simp only [lookF, if_neg hx]
                exact ihl fun p hp' => hp p (List.mem_cons_of_mem _ hp')
          exact key2 l h5
        · have e : (H1.zipIdx.map fun p => if p.2 < k then p.1 else Blk.gone p.1.next).take k = H1.take k := by
            refine List.ext_getElem? fun i => ?_
            rw [List.getElem?_take, List.getElem?_take]
            split
            · rename_i hi
              rw [List.getElem?_map, List.getElem?_zipIdx]
              cases H1[i]? <;> simp [hi]
            · rfl
          rw [e]
          exact ih m hm _ _ h6
      | _ => exact he
  exact loop_is (key n f H h0)

theorem t_normal {K : Fr → Heap → Prop} (h : K f H) : thenD K Q .normal f H := h
theorem t_exit {K : Fr → Heap → Prop} {n : Nat} (h : Q (.exit n) f H) : thenD K Q (.exit n) f H := h
theorem t_ret {K : Fr → Heap → Prop} (h : Q .ret f H) : thenD K Q .ret f H := h
theorem b_normal {id : Nat} (h : Q .normal f H) : blockD id Q .normal f H := h
theorem b_ret {id : Nat} (h : Q .ret f H) : blockD id Q .ret f H := h
theorem b_here {id : Nat} (h : Q .normal f H) : blockD id Q (.exit id) f H := by
  simp only [blockD, if_true]
  exact h
theorem b_on {id n : Nat} (hn : n ≠ id) (h : Q (.exit n) f H) : blockD id Q (.exit n) f H := by
  simp only [blockD, if_neg hn]
  exact h

theorem o_end {ops : Array Oper} (h : Q .normal f H) : opsD L ops Q [] f H := by
  unfold opsD
  exact h
theorem o_one {ops : Array Oper} {o : Oper} {r : List Oper} {d : D} {H' : Heap} (hg : guardD ops f o = some true) (hc : callOf L f o.op = none) (h : opD L f H o.op = some (d, H')) (k : opsD L ops Q r (f.put o.dst d) H') :
    opsD L ops Q (o :: r) f H := by
  refine opsD_step ?_
  unfold stepD
  rw [hg]
  refine ⟨fun _ => ?_, fun h => by cases h⟩
  unfold runD
  rw [hc]
  exact .inl ⟨d, H', h, k⟩
/-- What it makes never changes: it is told for good. -/
theorem o_frz {ops : Array Oper} {dst : Option Nat} {op : Op} {ty : TypeId} {pos : String} {after : Array Edge} {guard : Option (Nat × Bool)} {r : List Oper} {d d' : D} {H' : Heap} (hg : guardD ops f ⟨dst, op, ty, pos, after, guard⟩ = some true) (hc : callOf L f op = none)
    (h : opD L f H op = some (d, H')) (ht : H'.take H.length = H) (hs : Snap (fun r => H.length ≤ r) H' d d') (k : opsD L ops Q r (f.put dst d') H) : opsD L ops Q (⟨dst, op, ty, pos, after, guard⟩ :: r) f H := by
  refine opsD_step ?_
  unfold stepD
  rw [hg]
  refine ⟨fun _ => ?_, fun h => by cases h⟩
  unfold runD
  rw [hc]
  exact .inr (.inl ⟨d, H', d', h, ht, hs, k⟩)
/-- What it makes lies in a place that was given up. -/
theorem o_into {ops : Array Oper} {dst : Option Nat} {op : Op} {ty : TypeId} {pos : String} {after : Array Edge} {guard : Option (Nat × Bool)} {r : List Oper} {d : D} {H1 : Heap} {p g g0 sz : Nat} {ro : Bool} {xs : List (List D)} (hg : guardD ops f ⟨dst, op, ty, pos, after, guard⟩ = some true) (hc : callOf L f op = none)
    (h : opD L f H op = some (d, H1)) (hH : H1 = H ++ [.cells g0 sz ro xs]) (hp : H[p]? = some (.gone g)) (hun : ∀ x, x ∈ xs → ∀ e, e ∈ x → Under H.length e) (hd : (∃ i o k, d = .ref H.length i o k) ∨ ∃ i l k, d = .slice H.length i l k)
    (k : opsD L ops Q r (f.put dst (mvD H.length p g d)) (H.set p (.cells (g + g0) sz ro xs))) : opsD L ops Q (⟨dst, op, ty, pos, after, guard⟩ :: r) f H := by
  subst hH
  refine opsD_step ?_
  unfold stepD
  rw [hg]
  refine ⟨fun _ => ?_, fun h => by cases h⟩
  unfold runD
  rw [hc]
  exact .inr (.inr (.inl ⟨d, _, _, _, h, shift_into hp hun hd, k⟩))
/-- A variable that is made with what it holds, and never changed. -/
theorem o_boxv {ops : Array Oper} {dst : Option Nat} {op : Op} {ty : TypeId} {pos : String} {after : Array Edge} {guard : Option (Nat × Bool)} {r : List Oper} {sz : Nat} {cs : List D} (hg : guardD ops f ⟨dst, op, ty, pos, after, guard⟩ = some true) (hc : callOf L f op = none)
    (h : opD L f H op = some (.ref H.length 0 0 0, H ++ [.cells 0 sz false [cs]])) (hun : ∀ d, d ∈ cs → Under H.length d) (k : opsD L ops Q r (f.put dst (.box cs)) H) : opsD L ops Q (⟨dst, op, ty, pos, after, guard⟩ :: r) f H := by
  refine opsD_step ?_
  unfold stepD
  rw [hg]
  refine ⟨fun _ => ?_, fun h => by cases h⟩
  unfold runD
  rw [hc]
  exact .inr (.inr (.inl ⟨_, _, _, _, h, shift_var hun, k⟩))
/-- It gives up. -/
theorem o_panic {ops : Array Oper} {dst : Option Nat} {x : Operand} {ty : TypeId} {pos : String} {after : Array Edge} {guard : Option (Nat × Bool)} {r : List Oper} {t : TypeId} {d : D} (hg : guardD ops f ⟨dst, .panic x, ty, pos, after, guard⟩ = some true)
    (h : evD L f x = .iface t d) (k : Q (.panic (.iface t d)) f H) : opsD L ops Q (⟨dst, .panic x, ty, pos, after, guard⟩ :: r) f H := by
  refine opsD_step ?_
  unfold stepD
  rw [hg]
  refine ⟨fun _ => ?_, fun h => by cases h⟩
  exact .inr (.inr (.inr (.inl ⟨x, t, d, rfl, h, k⟩)))
/-- A strings.Builder is made. -/
theorem o_bld {t e : Nat} {ops : Array Oper} {dst : Option Nat} {ty : TypeId} {pos : String} {after : Array Edge} {guard : Option (Nat × Bool)} {r : List Oper} (hg : guardD ops f ⟨dst, .alloc t, ty, pos, after, guard⟩ = some true)
    (hz : (L.T t).zero = [.nilptr, .nilsl]) (hk : (L.T t).k.known = true) (k : opsD L ops Q r (f.put dst (.map H.length 0)) (H ++ [bldZ t e])) : opsD L ops Q (⟨dst, .alloc t, ty, pos, after, guard⟩ :: r) f H := by
  refine opsD_step ?_
  unfold stepD
  rw [hg]
  refine ⟨fun _ => ?_, fun h => by cases h⟩
  exact .inr (.inr (.inr (.inr (.inl ⟨t, e, rfl, hz, hk, k⟩))))
theorem o_not {ops : Array Oper} {o : Oper} {r : List Oper} (hg : guardD ops f o = some false) (k : opsD L ops Q r (f.put o.dst (.tuple [])) H) : opsD L ops Q (o :: r) f H := by
  refine opsD_step ?_
  unfold stepD
  rw [hg]
  exact ⟨(fun h => nomatch h), fun _ => k⟩
theorem o_call {ops : Array Oper} {o : Oper} {r : List Oper} {g : FuncId} {args : List D} {R : DRes → Heap → Prop} (hg : guardD ops f o = some true) (hc : callOf L f o.op = some (g, args)) (h : CallsV L g args H R)
    (k : ∀ d H', R (.ret d) H' → opsD L ops Q r (f.put o.dst d) H') (kp : ∀ d H', R (.panic d) H' → Q (.panic d) f H') : opsD L ops Q (o :: r) f H := by
  refine opsD_step ?_
  unfold stepD
  rw [hg]
  refine ⟨fun _ => ?_, fun h => by cases h⟩
  unfold runD
  rw [hc]
  refine .inl (h.mono fun x H' hx => ?_)
  cases x with
  | ret d => exact k d H' hx
  | panic d => exact kp d H' hx
theorem o_ext {ops : Array Oper} {dst : Option Nat} {op : Op} {ty : TypeId} {pos : String} {after : Array Edge} {guard : Option (Nat × Bool)} {r : List Oper} {g : FuncId} {args : List D} {d : D} (hg : guardD ops f ⟨dst, op, ty, pos, after, guard⟩ = some true) (hc : callOf L f op = some (g, args))
    (h : ExtV L g args H d) (k : opsD L ops Q r (f.put dst d) H) : opsD L ops Q (⟨dst, op, ty, pos, after, guard⟩ :: r) f H := by
  refine opsD_step ?_
  unfold stepD
  rw [hg]
  refine ⟨fun _ => ?_, fun h => by cases h⟩
  unfold runD
  rw [hc]
  exact .inr (.inl ⟨d, h, k⟩)

/-- A variable that is made, laid, and never changed. -/
theorem o_fuse {ops : Array Oper} {t : Nat} {op op2 : Op} {ty ty2 : TypeId} {pos pos2 : String} {after after2 : Array Edge} {guard guard2 : Option (Nat × Bool)} {r : List Oper} {H1 : Heap} {u : D} {sz : Nat} {cs : List D} (hg : guardD ops f ⟨some t, op, ty, pos, after, guard⟩ = some true) (hc : callOf L f op = none)
    (h : opD L f H op = some (.ref H.length 0 0 0, H1)) (hg2 : guardD ops (f.put (some t) (.ref H.length 0 0 0)) ⟨none, op2, ty2, pos2, after2, guard2⟩ = some true) (hc2 : callOf L (f.put (some t) (.ref H.length 0 0 0)) op2 = none)
    (h2 : opD L (f.put (some t) (.ref H.length 0 0 0)) H1 op2 = some (u, H ++ [.cells 0 sz false [cs]])) (hu : ∀ d, d ∈ cs → Under H.length d) (k : opsD L ops Q r (f.put (some t) (.box cs)) H) : opsD L ops Q (⟨some t, op, ty, pos, after, guard⟩ :: ⟨none, op2, ty2, pos2, after2, guard2⟩ :: r) f H := by
  unfold opsD
  exact .inr ⟨t, cs, ⟨H1, u, sz, rfl, rfl, hg, hc, h, hg2, hc2, h2, hu⟩, k⟩
theorem put_same {t : Nat} {d : D} : (f.put (some t) d) t = d := by simp [Fr.put]
theorem put_ne {t u : Nat} {d : D} (h : (u == t) = false) : (f.put (some t) d) u = f u := by
  have : u ≠ t := by simpa using h
  simp [Fr.put, this]
theorem put_none {d : D} : f.put none d = f := rfl

def endP (T : TypeId → TI) (rs : List ResultVar) (Q : DRes → Prop) : DPost := endD T rs fun r H => match r with
  | .ret d => ∃ d', Snap (fun _ => True) H d d' ∧ Q (.ret d')
  | .panic d => ∃ d', Snap (fun _ => True) H d d' ∧ Q (.panic d')
theorem pure_of_body (ok : L.Ok) {g : FuncId} {fn : Func} {code : Code} {args : List D} {Q : DRes → Prop} (hf : L.P.funcs[g]? = some fn) (hb : fn.body = some code) (hn : (fn.name == "runtime.NumGoroutine") = false)
    (hl : args.length ≤ fn.ntmps) (hd : dstsOk fn.ntmps code = true) (h : wpD L code (argF args) [] (endP L.T fn.results.toList Q)) : PureV L g args Q :=
  (calls_of_body ok hf hb hn hl hd h).close fun r _ hr => by cases r <;> exact hr
theorem e_ret {T : TypeId → TI} {rs : List ResultVar} {Q : DRes → Prop} {d d' : D} (h : resD T f H rs = some d) (hs : Snap (fun _ => True) H d d') (hq : Q (.ret d')) : endP T rs Q .ret f H := ⟨d, h, d', hs, hq⟩
theorem e_normal {T : TypeId → TI} {rs : List ResultVar} {Q : DRes → Prop} {d d' : D} (h : resD T f H rs = some d) (hs : Snap (fun _ => True) H d d') (hq : Q (.ret d')) : endP T rs Q .normal f H := ⟨d, h, d', hs, hq⟩
end Go.Proofs.Ytejpgmemohchaaa.Vm
