/- Every operation; code; calls: the calculus on plain values, and that the machine follows it. -/
import Derived.Test.YtejpgmemohchaaaVmKm
set_option linter.unusedSimpArgs false
namespace Go.Proofs.Ytejpgmemohchaaa.Vm
open Go

def pairsD (f : Operand → D) (ps : List (Nat × Operand)) : List (Nat × D) := ps.map fun p => (p.1, f p.2)
def one (H : Heap) (d : Option D) : Option (D × Heap) := d.map fun d => (d, H)
def builtinD (L : Lang) (H : Heap) (b : Builtin) (ts : List TypeId) (xs : List D) : Option (D × Heap) := match b, ts, xs with
  | .len, [t], [x] => one H (lenD L.T H t x)
  | .append, [ts, tx], [s, x] => appendD L.T H ts tx s x
  | .max, _, x :: r => one H (bestD true x r)
  | .min, _, x :: r => one H (bestD false x r)
  | .clear, [t], [x] => (clearD L.T H t x).map fun H' => (.tuple [], H')
  | _, _, _ => none
/-- An operation that is no call of a function. -/
def opD (L : Lang) (f : Fr) (H : Heap) (op : Op) : Option (D × Heap) := match op with
  | .move x => some (evD L f x, H)
  | .assign x => some (evD L f x, H)
  | .pick c a b => one H (pickD (evD L f c) (evD L f a) (evD L f b))
  | .alloc t => allocD (L.T t) H
  | .box t x => boxD H (L.T t).size (evD L f x)
  | .build t ps => one H (buildD L.T H t (pairsD (evD L f) ps.toList))
  | .buildSlice t n ps => buildSliceD L.T H t n (pairsD (evD L f) ps.toList)
  | .load t a => one H (loadD L.T H t (evD L f a))
  | .store t a x => (storeD L.T H t (evD L f a) (evD L f x)).map fun H' => (.tuple [], H')
  | .nilCheck x => one H (nilD H (evD L f x))
  | .binOp op t x y _ => one H (binOpD L.T H op t (evD L f x) (evD L f y))
  | .unOp op _ x => one H (unD op (evD L f x))
  | .convert s d x => convD L.T H s d (evD L f x)
  | .makeInterface t x => one H (ifaceD L.T t (evD L f x))
  | .makeFunc fn a b => some (.func fn (a.toList.map (evD L f)) (b.toList.map (evD L f)), H)
  | .makeSlice t l c => makeSliceD L.T H t (evD L f l) (evD L f c)
  | .slice t x lo hi mx => one H (sliceD L.T H t (evD L f x) (lo.map (evD L f)) (hi.map (evD L f)) (mx.map (evD L f)))
  | .fieldAddr s x i => one H (fieldAtD L.T H s (evD L f x) i)
  | .field s x i => one H (fieldD L.T s (evD L f x) i)
  | .indexAddr t x i => one H (indexAtD L.T H t (evD L f x) (evD L f i))
  | .index t x i => one H (indexD L.T t (evD L f x) (evD L f i))
  | .typeAssert x _ t cok => one H (assertD L.T (evD L f x) t cok)
  | .extract t i => one H (extractD (evD L f t) i)
  | .call { callee := .builtin b, args := xs, argTypes := ts } => builtinD L H b ts.toList (xs.toList.map (evD L f))
  | .lookup t x i cok => one H (lookupD L.T H t (evD L f x) (evD L f i) cok)
  | .makeMap _ none => some (mapNew H)
  | .mapUpdate t m k x => (entryD L.T H t (evD L f m) (evD L f k) (some (evD L f x))).map fun r => (.tuple [], r.2.2)
  | .insert t m k x => (entryD L.T H t (evD L f m) (evD L f k) (some (evD L f x))).map fun r => (.tuple [], r.2.2)
  | .mapEntry t m k => (entryD L.T H t (evD L f m) (evD L f k) none).map fun r => (.tuple [r.1, r.2.1], r.2.2)
  | .entryStore _ m s x => (entryStoreD H (evD L f m) (evD L f s) (evD L f x)).map fun H' => (.tuple [], H')
  | _ => none

def NextIs (nx : Next) (v : Value) : Prop := nx = .value v ∨ (nx = .skip ∧ v = undef)
def OpOk (P : Program) (c : Cx) (s : Sem Next) (d : D) (H : Heap) : Prop := ∃ nx v c', s.run P c.w = .ok nx c'.w ∧ NextIs nx v ∧ c'.hp = H ∧ Inv c' ∧ Le c c' ∧ Rep c' v d
theorem ValOk.op {P : Program} {c : Cx} {s : Sem Value} {d : D} {H : Heap} (h : ValOk P c s d H) : OpOk P c (do pure (.value (← s))) d H := by
  obtain ⟨v, c', h1, h2⟩ := h
  exact ⟨.value v, v, c', by simp [h1], .inl rfl, h2⟩
theorem ValOk.one {P : Program} {c : Cx} {s : Sem Value} {d : D} {H : Heap} {o : Option D} (h : ∀ d, o = some d → ValOk P c s d c.hp) (e : one c.hp o = some (d, H)) : ValOk P c s d H := by
  obtain ⟨x, hx, he⟩ := Option.map_eq_some_iff.1 e
  obtain ⟨rfl, rfl⟩ := Prod.mk.inj he
  exact h _ hx
theorem pairs_ok {c : Cx} {ρ : Operand → Value} {e : Operand → D} (h : ∀ x, Rep c (ρ x) (e x)) (ps : Array (Nat × Operand)) :
    (ps.map fun (i, x) => (i, ρ x)).toList.map (·.1) = (pairsD e ps.toList).map (·.1) ∧
    ∀ (k : Nat) (u : Nat × Value) (p : Nat × D), (ps.map fun (i, x) => (i, ρ x)).toList[k]? = some u → (pairsD e ps.toList)[k]? = some p → Rep c u.2 p.2 := by
  constructor
  · simp [pairsD, Function.comp_def]
  · intro k u p hu hp
    simp only [Array.toList_map, List.getElem?_map, pairsD] at hu hp
    obtain ⟨q, h1, rfl⟩ := Option.map_eq_some_iff.1 hu
    rw [h1] at hp
    obtain rfl := Option.some.inj hp
    exact h _
theorem list_rep {c : Cx} {ρ : Operand → Value} {e : Operand → D} (h : ∀ x, Rep c (ρ x) (e x)) (xs : Array Operand) :
    (xs.map ρ).size = (xs.toList.map e).length ∧ ∀ (i : Nat) (d : D), (xs.toList.map e)[i]? = some d → Rep c ((xs.map ρ).getD i undef) d := by
  refine ⟨by simp, fun i d hd => ?_⟩
  rw [List.getElem?_map] at hd
  obtain ⟨x, hx, rfl⟩ := Option.map_eq_some_iff.1 hd
  rw [Array.getElem?_toList] at hx
  have hi : i < xs.size := (Array.getElem?_eq_some_iff.1 hx).1
  have : (xs.map ρ).getD i undef = ρ x := by
    rw [Array.getD_eq_getD_getElem?, Array.getElem?_map, hx]
    rfl
  rw [this]
  exact h x
theorem opt_rep {c : Cx} {ρ : Operand → Value} {e : Operand → D} (h : ∀ x, Rep c (ρ x) (e x)) (x : Option Operand) : OptRep c (x.map ρ) (x.map e) := by
  cases x with
  | none => trivial
  | some x => exact h x

theorem builtin_ok {L : Lang} (ok : L.Ok) {c : Cx} (inv : Inv c) {b : Builtin} {ts : Array TypeId} {ty : TypeId} {cs : Array Bool} {vs : Array Value} {xs : List D} {d : D} {H : Heap} (hl : vs.size = xs.length)
    (hr : ∀ (i : Nat) (d : D), xs[i]? = some d → Rep c (vs.getD i undef) d) (h : builtinD L c.hp b ts.toList xs = some (d, H)) : OpOk L.P c (builtin b ts ty cs vs) d H := by
  have hts : ∀ l, ts.toList = l → ts = l.toArray := fun l e => by rw [← e]
  have hvs : ∀ u : Value, vs.size = 1 → vs = #[vs.getD 0 undef] := fun u h1 => by
    obtain ⟨l⟩ := vs
    match l, h1 with
    | [x], _ => rfl
  have hvs2 : vs.size = 2 → vs = #[vs.getD 0 undef, vs.getD 1 undef] := fun h1 => by
    obtain ⟨l⟩ := vs
    match l, h1 with
    | [x, y], _ => rfl
  unfold builtinD at h
  split at h
  · rename_i t x he
    have h1 := hvs undef hl
    rw [h1, hts _ he]
    exact (ValOk.one (fun d hd => len_ok ok inv (hr 0 x rfl) hd) h).op
  · rename_i t1 t2 s x he
    have h1 := hvs2 hl
    rw [h1, hts _ he]
    exact (append_ok ok inv ty (hr 0 s rfl) (hr 1 x rfl) h).op
  · rename_i x r
    refine ValOk.op (s := Builtin.max_ ts ty vs) (ValOk.one (fun d hd => ?_) h)
    obtain ⟨l⟩ := vs
    cases l with
    | nil => simp at hl
    | cons v l =>
    obtain ⟨u, h1, h2⟩ := max_ok (P := L.P) r l v x d (by simpa using hr 0 x rfl) (by simpa using hl.symm) (fun i w e hw he => by
      have := hr (i + 1) e (by simpa using he)
      simpa [hw] using this) hd
    exact .same inv h1 h2
  · rename_i x r
    refine ValOk.op (s := Builtin.min_ ts ty vs) (ValOk.one (fun d hd => ?_) h)
    obtain ⟨l⟩ := vs
    cases l with
    | nil => simp at hl
    | cons v l =>
    obtain ⟨u, h1, h2⟩ := min_ok (P := L.P) r l v x d (by simpa using hr 0 x rfl) (by simpa using hl.symm) (fun i w e hw he => by
      have := hr (i + 1) e (by simpa using he)
      simpa [hw] using this) hd
    exact .same inv h1 h2
  · rename_i t x he
    have h1 := hvs undef hl
    obtain ⟨H', hH, hp⟩ := Option.map_eq_some_iff.1 h
    obtain ⟨rfl, rfl⟩ := Prod.mk.inj hp
    rw [h1, hts _ he]
    exact (clear_ok ok inv (hr 0 x rfl) hH).op
  · cases h

theorem op_ok {L : Lang} (ok : L.Ok) {c : Cx} (inv : Inv c) (hg : GlOk L c) {a : Act} {f : Fr} (hf : FrRep c a.tmps f) {o : Oper} {d : D} {H : Heap} (h : opD L f c.hp o.op = some (d, H)) :
    OpOk L.P c (execOp a.eval o) d H := by
  have hev : ∀ x, Rep c (a.eval x) (evD L f x) := ev_rep hf hg
  obtain ⟨dst, op, ty, pos, after, guard⟩ := o
  simp only at h
  unfold opD at h
  split at h
  case h_1 x =>
    obtain ⟨rfl, rfl⟩ := Prod.mk.inj (Option.some.inj h)
    exact ⟨_, _, c, rfl, .inl rfl, rfl, inv, .refl, hev x⟩
  case h_2 x =>
    obtain ⟨rfl, rfl⟩ := Prod.mk.inj (Option.some.inj h)
    exact ⟨_, _, c, rfl, .inl rfl, rfl, inv, .refl, hev x⟩
  case h_3 x y z =>
    obtain ⟨v, c', h1, h2⟩ := ValOk.one (fun d hd => pick_ok (P := L.P) inv (hev x) (hev y) (hev z) hd) h
    refine ⟨.value v, v, c', ?_, .inl rfl, h2⟩
    simp only [Sem.run_bind, Sem.run_pure] at h1
    simp only [execOp, Sem.run_bind, Sem.run_pure]
    cases hb : (asBool (a.eval x)).run L.P c.w with
    | ok b w =>
      rw [hb] at h1
      simp only [Result.andThen_ok, Result.ok.injEq] at h1 ⊢
      exact ⟨congrArg Next.value h1.1, h1.2⟩
    | halt e w => rw [hb] at h1; simp at h1
  case h_4 t => exact (alloc_ok ok inv h).op
  case h_5 t x => exact (box_ok inv (hev x) h).op
  case h_6 t ps =>
    obtain ⟨p1, p2⟩ := pairs_ok hev ps
    exact (ValOk.one (fun d hd => build_ok ok inv p1 p2 hd) h).op
  case h_7 t n ps =>
    obtain ⟨p1, p2⟩ := pairs_ok hev ps
    exact (buildSlice_ok ok inv p1 p2 h).op
  case h_8 t x => exact (ValOk.one (fun d hd => load_ok ok inv (hev x) hd) h).op
  case h_9 t x y =>
    obtain ⟨H', hH, hp⟩ := Option.map_eq_some_iff.1 h
    obtain ⟨rfl, rfl⟩ := Prod.mk.inj hp
    obtain ⟨c', h1, h2, h3, h4⟩ := store_ok ok inv (hev x) (hev y) hH
    exact ⟨.skip, undef, c', by simp [execOp, h1], .inr ⟨rfl, rfl⟩, h2, h3, h4, .tuple _ _ rfl (fun i d hd => by simp at hd)⟩
  case h_10 x =>
    obtain ⟨y, hy, he⟩ := Option.map_eq_some_iff.1 h
    obtain ⟨rfl, rfl⟩ := Prod.mk.inj he
    have hx := hev x
    have fin : y = evD L f x → (execOp a.eval { dst, op := .nilCheck x, type := ty, pos, after, guard }).run L.P c.w = .ok (.value (a.eval x)) c.w →
        OpOk L.P c (execOp a.eval { dst, op := .nilCheck x, type := ty, pos, after, guard }) y c.hp := fun e h1 => ⟨_, _, c, h1, .inl rfl, rfl, inv, .refl, e ▸ hx⟩
    unfold nilD at hy
    split at hy
    · rename_i r i o g hh
      split at hy
      · rename_i ha
        obtain ⟨sz, ro, xs, hxx⟩ := alive_some ha
        refine fin (Option.some.inj hy).symm ?_
        rw [hh] at hx
        generalize hq : a.eval x = q at hx
        cases hx with
        | ref _ _ _ _ _ _ _ hv => rw [hv sz ro xs hxx] at hq ⊢; simp [execOp, hq]
      · cases hy
    · rename_i cs hh
      refine fin (Option.some.inj hy).symm ?_
      rw [hh] at hx
      generalize hq : a.eval x = q at hx
      cases hx
      simp [execOp, hq]
    · rename_i fn a1 a2 hh
      refine fin (Option.some.inj hy).symm ?_
      rw [hh] at hx
      generalize hq : a.eval x = q at hx
      cases hx
      simp [execOp, hq]
    · cases hy
  case h_11 op t x y yt => exact (ValOk.one (fun d hd => binOp_ok ok inv (a := x) (b := y) (hev x) (hev y) hd) h).op
  case h_12 op t x => exact (ValOk.one (fun d hd => un_ok inv (hev x) hd) h).op
  case h_13 s t x => exact (conv_ok ok inv (hev x) h).op
  case h_14 t x => exact (ValOk.one (fun d hd => iface_ok ok inv (hev x) hd) h).op
  case h_15 fn xs ys =>
    obtain ⟨rfl, rfl⟩ := Prod.mk.inj (Option.some.inj h)
    obtain ⟨a1, a2⟩ := list_rep hev xs
    obtain ⟨b1, b2⟩ := list_rep hev ys
    exact ⟨_, _, c, rfl, .inl rfl, rfl, inv, .refl, .func _ _ _ _ _ a1 b1 a2 b2⟩
  case h_16 t x y => exact (makeSlice_ok ok inv (hev x) (hev y) h).op
  case h_17 t x lo hi mx => exact (ValOk.one (fun d hd => slice_ok ok inv (hev x) (opt_rep hev lo) (opt_rep hev hi) (opt_rep hev mx) hd) h).op
  case h_18 s x i => exact (ValOk.one (fun d hd => fieldAt_ok ok inv (hev x) hd) h).op
  case h_19 s x i => exact (ValOk.one (fun d hd => field_ok ok inv (hev x) hd) h).op
  case h_20 t x i => exact (ValOk.one (fun d hd => indexAt_ok ok inv (hev x) (hev i) hd) h).op
  case h_21 t x i => exact (ValOk.one (fun d hd => index_ok ok inv (hev x) (hev i) hd) h).op
  case h_22 x xt t cok => exact (ValOk.one (fun d hd => assert_ok ok inv (hev x) hd) h).op
  case h_23 t i => exact (ValOk.one (fun d hd => extract_ok inv (hev t) hd) h).op
  case h_24 b xs ts =>
    obtain ⟨a1, a2⟩ := list_rep hev xs
    have key : ∀ cs, OpOk L.P c (builtin b ts ty cs (xs.map a.eval)) d H := fun cs => builtin_ok ok inv a1 a2 h
    unfold OpOk at key ⊢
    simpa [execOp, resolve, invoke] using key _
  case h_25 t x i cok => exact (ValOk.one (fun d hd => lookup_ok ok inv (hev x) (hev i) hd) h).op
  case h_26 t =>
    obtain ⟨rfl, rfl⟩ := Prod.mk.inj (Option.some.inj h)
    exact (makeMap_ok inv).op
  case h_27 t m k x =>
    obtain ⟨⟨w, e, H'⟩, hH, hp⟩ := Option.map_eq_some_iff.1 h
    obtain ⟨rfl, rfl⟩ := Prod.mk.inj hp
    obtain ⟨c', h1, h2, h3, h4⟩ := mapUpdate_ok ok inv (hev m) (hev k) (hev x) hH
    exact ⟨.skip, undef, c', by simp [execOp, h1], .inr ⟨rfl, rfl⟩, h2, h3, h4, .tuple _ _ rfl (fun i d hd => by simp at hd)⟩
  case h_28 t m k x =>
    obtain ⟨⟨w, e, H'⟩, hH, hp⟩ := Option.map_eq_some_iff.1 h
    obtain ⟨rfl, rfl⟩ := Prod.mk.inj hp
    obtain ⟨c', h1, h2, h3, h4⟩ := mapUpdate_ok ok inv (hev m) (hev k) (hev x) hH
    exact ⟨.skip, undef, c', by simp [execOp, h1], .inr ⟨rfl, rfl⟩, h2, h3, h4, .tuple _ _ rfl (fun i d hd => by simp at hd)⟩
  case h_29 t m k =>
    obtain ⟨⟨w, e, H'⟩, hH, hp⟩ := Option.map_eq_some_iff.1 h
    obtain ⟨rfl, rfl⟩ := Prod.mk.inj hp
    exact (mapEntry_ok ok inv (hev m) (hev k) hH).op
  case h_30 t m st x =>
    obtain ⟨H', hH, hp⟩ := Option.map_eq_some_iff.1 h
    obtain ⟨rfl, rfl⟩ := Prod.mk.inj hp
    obtain ⟨c', h1, h2, h3, h4⟩ := entryStore_ok (P := L.P) (t := t) inv (hev m) (hev st) (hev x) hH
    exact ⟨.skip, undef, c', by simp [execOp, h1], .inr ⟨rfl, rfl⟩, h2, h3, h4, .tuple _ _ rfl (fun i d hd => by simp at hd)⟩
  case h_31 => cases h
end Go.Proofs.Ytejpgmemohchaaa.Vm
