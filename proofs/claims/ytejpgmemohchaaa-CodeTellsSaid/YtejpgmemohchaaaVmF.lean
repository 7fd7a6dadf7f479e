/- New variables, new rows, rows that grow. -/
import Derived.Test.YtejpgmemohchaaaVmE
import Derived.Laws.IdiomStrings
namespace Go.Proofs.Ytejpgmemohchaaa.Vm
open Go

/-- What a row of the machine's cells holds, as elements. -/
def Holds (c : Cx) (arr : Array Value) (sz : Nat) (xs : List (List D)) : Prop :=
  (∀ (i : Nat) (x : List D), xs[i]? = some x → x.length = sz ∧ ∀ (o : Nat) (d : D), x[o]? = some d → Rep c (arr.getD (i * sz + o) undef) d) ∧
  (∀ k, k < arr.size → (arr.getD k undef).oneCell' = true) ∧ xs.length * sz ≤ arr.size

theorem new_blk {c c' : Cx} {r g sz : Nat} {xs : List (List D)} {arr : Array Value} {e : TypeId} {fz : Nat × Nat} {b : Nat} (le : Le c c') (h0 : 0 < sz) (h : Holds c arr sz xs)
    (hb : c'.w.heap[b]? = some (.cells arr e fz)) (hm : c'.mu r = (b, 0)) (hi : ¬ c'.im b) (hf : ∀ o, o < arr.size → ¬ (fz.1 ≤ o ∧ o < fz.2)) : BlkOk c' r (.cells g sz false xs) := by
  obtain ⟨h1, h2, h3⟩ := h
  refine ⟨h0, arr, e, fz, by rw [hm]; exact hb, by rw [hm]; simpa using h3, fun _ o _ ho => hf o ho, fun i x hx => ?_, (fun h => nomatch h), fun _ => by rw [hm]; exact hi, h2⟩
  refine ⟨(h1 i x hx).1, fun o d hd => ?_⟩
  rw [hm]
  simpa using ((h1 i x hx).2 o d hd).mono le

/-- A new block. -/
theorem new_okG (gn : Nat) {c : Cx} (inv : Inv c) {w' : World} {arr : Array Value} {e : TypeId} {fz : Nat × Nat} {sz : Nat} {xs : List (List D)} (hos : w'.os = c.w.os) (htape : w'.tape = c.w.tape) (hout : w'.output = c.w.output)
    (hheap : w'.heap = c.w.heap.push (.cells arr e fz)) (hf : ∀ o, o < arr.size → ¬ (fz.1 ≤ o ∧ o < fz.2)) (h0 : 0 < sz) (h : Holds c arr sz xs) :
    Inv (c.push (.cells gn sz false xs) (c.w.heap.size, 0) w') ∧ Le c (c.push (.cells gn sz false xs) (c.w.heap.size, 0) w') := by
  refine push_ok inv hos htape hout (by simp [hheap]) (fun b hb => by rw [hheap, Array.getElem?_push, if_neg (by omega)]) (fun b _ hb => by obtain rfl : _ = b := hb; exact Nat.le_refl _) fun le => ?_
  refine new_blk le h0 h (b := c.w.heap.size) (e := e) (fz := fz) (by simp [Cx.push, hheap]) (by simp [Cx.push, upd_same]) (fun hi => ?_) hf
  have := inv.imlt _ hi
  omega
/-- A new block. -/
theorem new_ok {c : Cx} (inv : Inv c) {w' : World} {arr : Array Value} {e : TypeId} {fz : Nat × Nat} {sz : Nat} {xs : List (List D)} (hos : w'.os = c.w.os) (htape : w'.tape = c.w.tape) (hout : w'.output = c.w.output)
    (hheap : w'.heap = c.w.heap.push (.cells arr e fz)) (hf : ∀ o, o < arr.size → ¬ (fz.1 ≤ o ∧ o < fz.2)) (h0 : 0 < sz) (h : Holds c arr sz xs) :
    Inv (c.push (.cells 0 sz false xs) (c.w.heap.size, 0) w') ∧ Le c (c.push (.cells 0 sz false xs) (c.w.heap.size, 0) w') := new_okG 0 inv hos htape hout hheap hf h0 h
/-- A block that lies anew. -/
theorem renew_ok {c : Cx} (inv : Inv c) {w' : World} {arr : Array Value} {e : TypeId} {fz : Nat × Nat} {r g sz k : Nat} (hk : 1 ≤ k) {xs0 xs : List (List D)} (hx : c.hp[r]? = some (.cells g sz false xs0))
    (hos : w'.os = c.w.os) (htape : w'.tape = c.w.tape) (hout : w'.output = c.w.output)
    (hheap : w'.heap = c.w.heap.push (.cells arr e fz)) (hf : ∀ o, o < arr.size → ¬ (fz.1 ≤ o ∧ o < fz.2)) (h0 : 0 < sz) (h : Holds c arr sz xs) :
    Inv (c.put r (.cells (g + k) sz false xs) (c.w.heap.size, 0) w') ∧ Le c (c.put r (.cells (g + k) sz false xs) (c.w.heap.size, 0) w') := by
  refine put_ok inv hx rfl hos htape hout (by simp [hheap]) (fun b hb _ => by rw [hheap, Array.getElem?_push, if_neg (by omega)]) (fun b _ hb => .inr (by obtain rfl : _ = b := hb; exact Nat.le_refl _)) (by simp only [Blk.next]; omega)
    ⟨fun g' sz' ro' xs' he hg => ?_, fun g' ro' es he => by cases he⟩ fun le => ?_
  · cases he
    simp only [Blk.next] at hg
    omega
  · refine new_blk le h0 h (b := c.w.heap.size) (e := e) (fz := fz) (by simp [Cx.put, hheap]) (by simp [Cx.put, upd_same]) (fun hi => ?_) hf
    have := inv.imlt _ hi
    omega

theorem run_newRow {P : Program} (e : TypeId) (arr : Array Value) (w : World) : (newRow e arr).run P w = .ok ⟨w.heap.size, 0, none⟩ (w.alloc (.cells arr e)) := by
  simp [newRow]

/-- A variable. -/
def boxD (H : Heap) (n : Nat) (d : D) : Option (D × Heap) := match cellsD H d with
  | some cs => if cs.length = n ∧ 0 < n then some (.ref H.length 0 0 0, H ++ [.cells 0 n false [cs]]) else none
  | none => none
theorem ref_new {c : Cx} {k : Blk} {m : Nat × Nat} {w : World} {sz : Nat} {xs : List (List D)} (hk : k = .cells 0 sz false xs) :
    Rep (c.push k m w) (.pointer (some ⟨m.1, m.2, none⟩)) (.ref c.hp.length 0 0 0) := by
  subst hk
  refine .ref _ _ _ _ _ (by simp [Cx.push]) (by simp [Cx.push, ng, Blk.next]) fun sz' ro' xs' hx => ?_
  simp [Cx.push, upd_same]
theorem holds_one {c : Cx} {v : Value} {d : D} {cs : List D} (hv : Rep c v d) (h : cellsD c.hp d = some cs) : Holds c v.cells cs.length [cs] := by
  obtain ⟨h1, h2, h3⟩ := cells_ok hv h
  refine ⟨fun i x hx => ?_, h2, by simp [h1]⟩
  cases i with
  | zero => simp at hx; subst hx; exact ⟨rfl, fun o d hd => by simpa using h3 o d hd⟩
  | succ i => simp at hx
theorem box_ok {P : Program} {c : Cx} (inv : Inv c) {t : TypeId} {v : Value} {x d : D} {n : Nat} {H : Heap} (hv : Rep c v x) (h : boxD c.hp n x = some (d, H)) : ValOk P c (Instr.box t v) d H := by
  unfold boxD at h
  split at h
  case h_2 => cases h
  rename_i cs hc
  split at h
  case isFalse => cases h
  rename_i hn
  obtain ⟨rfl, rfl⟩ := Prod.mk.inj (Option.some.inj h)
  obtain ⟨rfl, h0⟩ := hn
  obtain ⟨i1, l1⟩ := new_ok inv (w' := c.w.alloc (.cells v.cells t)) (e := t) (fz := (0, 0)) rfl rfl rfl rfl (fun o _ ⟨_, h⟩ => by simp at h) h0 (holds_one hv hc)
  exact ⟨.pointer (some ⟨c.w.heap.size, 0, none⟩), _, by simp [Instr.box, newVar, run_newRow]; rfl, rfl, i1, l1, ref_new rfl⟩

def allocD (ti : TI) (H : Heap) : Option (D × Heap) := if ti.k.known = true ∧ 0 < ti.size then some (.ref H.length 0 0 0, H ++ [.cells 0 ti.size false [ti.zero]]) else none
theorem zero_holds {L : Lang} (ok : L.Ok) (c : Cx) {t : TypeId} (hk : (L.T t).k.known = true) : ∃ z, (∀ w, (zeroValue t).run L.P w = .ok z w) ∧ z.cells.size = (L.T t).size ∧ (L.T t).zero.length = (L.T t).size ∧
    (∀ k, k < z.cells.size → (z.cells.getD k undef).oneCell' = true) ∧ ∀ o d, (L.T t).zero[o]? = some d → Rep c (z.cells.getD o undef) d := by
  obtain ⟨z, h1, ⟨i, hi, hz⟩, h2, h3, h4⟩ := run_zero ok hk c.w
  refine ⟨z, fun w => by simp [zeroValue, typeInfo, hi, hz], by omega, h3, fun k hk => ?_, fun o d hd => zm_rep (h4 o d hd)⟩
  exact zm_one (h4 k _ (List.getElem?_eq_getElem (by omega)))
theorem alloc_ok {L : Lang} (ok : L.Ok) {c : Cx} (inv : Inv c) {t : TypeId} {d : D} {H : Heap} {b : Bool} (h : allocD (L.T t) c.hp = some (d, H)) : ValOk L.P c (Instr.alloc t b (.tuple #[])) d H := by
  unfold allocD at h
  split at h
  case isFalse => cases h
  rename_i hk
  obtain ⟨rfl, rfl⟩ := Prod.mk.inj (Option.some.inj h)
  obtain ⟨z, z1, z2, z3, z4, z5⟩ := zero_holds ok c hk.1
  obtain ⟨i1, l1⟩ := new_ok inv (w' := c.w.alloc (.cells z.cells t)) (e := t) (fz := (0, 0)) (xs := [(L.T t).zero]) rfl rfl rfl rfl (fun o _ ⟨_, h⟩ => by simp at h) hk.2
    ⟨fun i x hx => by
      cases i with
      | zero => simp at hx; subst hx; exact ⟨z3, fun o d hd => by simpa using z5 o d hd⟩
      | succ i => simp at hx, z4, by simp [z2]⟩
  exact ⟨.pointer (some ⟨c.w.heap.size, 0, none⟩), _, by simp [Instr.alloc, z1, newVar, run_newRow]; rfl, rfl, i1, l1, ref_new rfl⟩

/-! ### aggregates by value -/
def fillD (H : Heap) (place : Nat → Option (Nat × Nat)) : List D → List (Nat × D) → Option (List D)
  | cs, [] => some cs
  | cs, (i, v) :: r => match place i, cellsD H v with
    | some (off, size), some vs => if vs.length = size ∧ off + vs.length ≤ cs.length then fillD H place (splice cs off vs) r else none
    | _, _ => none
theorem foldl_set (vs : Array Value) (off : Nat) (cells : Array Value) :
    ∃ out : Array Value, vs.zipIdx.foldl (fun cs (c, j) => cs.setIfInBounds (off + j) c) cells = out ∧ out.size = cells.size ∧
      ∀ k, k < cells.size → out.getD k undef = if off ≤ k ∧ k < off + vs.size then vs.getD (k - off) undef else cells.getD k undef := by
  refine ⟨_, rfl, ?_⟩
  rw [← Array.foldl_toList]
  have key : ∀ (l : List Value) (s : Nat) (cs : Array Value), ((l.zipIdx s).foldl (fun cs (c, j) => cs.setIfInBounds (off + j) c) cs).size = cs.size ∧
      ∀ k, k < cs.size → ((l.zipIdx s).foldl (fun cs (c, j) => cs.setIfInBounds (off + j) c) cs).getD k undef = if off + s ≤ k ∧ k < off + s + l.length then l.getD (k - (off + s)) undef else cs.getD k undef := by
    intro l
    induction l with
    | nil => intro s cs; exact ⟨rfl, fun k _ => by rw [if_neg (by simp)]; rfl⟩
    | cons v l ih =>
      intro s cs
      obtain ⟨i1, i2⟩ := ih (s + 1) (cs.setIfInBounds (off + s) v)
      simp only [List.zipIdx_cons, List.foldl_cons]
      refine ⟨by rw [i1]; simp, fun k hk => ?_⟩
      rw [i2 k (by simpa using hk)]
      by_cases hks : k = off + s
      · subst hks
        rw [if_neg (by omega), if_pos (by simp)]
        simp [Array.getD_eq_getD_getElem?, hk]
      · by_cases h1 : off + (s + 1) ≤ k ∧ k < off + (s + 1) + l.length
        · rw [if_pos h1, if_pos (by simp; omega)]
          obtain ⟨m, rfl⟩ : ∃ m, k = off + (s + 1) + m := ⟨k - (off + (s + 1)), by omega⟩
          rw [show off + (s + 1) + m - (off + (s + 1)) = m by omega, show off + (s + 1) + m - (off + s) = m + 1 by omega]
          simp
        · rw [if_neg h1, if_neg (by simp; omega)]
          simp [Array.getD_eq_getD_getElem?, Array.getElem?_setIfInBounds_ne (Ne.symm hks)]
  have := key vs.toList 0 cells
  simp only [Array.toList_zipIdx] at *
  refine ⟨this.1, fun k hk => ?_⟩
  rw [this.2 k hk]
  simp only [Nat.add_zero, Array.length_toList]
  split
  · simp [List.getD_eq_getElem?_getD, Array.getD_eq_getD_getElem?]
  · rfl
theorem fill_ok {c : Cx} {place : Nat → Option (Nat × Nat)} : ∀ (ps : List (Nat × D)) (us : List (Nat × Value)) (cs out : List D) (cells : Array Value),
    us.map (·.1) = ps.map (·.1) → (∀ (k : Nat) (u : Nat × Value) (p : Nat × D), us[k]? = some u → ps[k]? = some p → Rep c u.2 p.2) → cells.size = cs.length → (∀ i, i < cells.size → (cells.getD i undef).oneCell' = true) →
    (∀ i d, cs[i]? = some d → Rep c (cells.getD i undef) d) → fillD c.hp place cs ps = some out →
    ∃ res, Instr.fill place cells us = some res ∧ res.size = out.length ∧ out.length = cs.length ∧ (∀ i, i < res.size → (res.getD i undef).oneCell' = true) ∧ ∀ i d, out[i]? = some d → Rep c (res.getD i undef) d
  | [], us, cs, out, cells, hm, _, h1, h2, h3, h => by
    obtain rfl : us = [] := by simpa using hm
    simp only [fillD, Option.some.injEq] at h
    subst h
    exact ⟨cells, rfl, h1, rfl, h2, h3⟩
  | (i, p) :: ps, us, cs, out, cells, hm, hr, h1, h2, h3, h => by
    cases us with
    | nil => simp at hm
    | cons u us =>
    obtain ⟨j, u⟩ := u
    simp only [List.map_cons, List.cons.injEq] at hm
    obtain ⟨rfl, hm⟩ := hm
    simp only [fillD] at h
    cases hp : place j with
    | none => simp [hp] at h
    | some os =>
    obtain ⟨off, size⟩ := os
    cases hc : cellsD c.hp p with
    | none => simp [hp, hc] at h
    | some vs =>
    simp only [hp, hc] at h
    by_cases hh : vs.length = size ∧ off + vs.length ≤ cs.length
    case neg => rw [if_neg hh] at h; cases h
    rw [if_pos hh] at h
    have hu : Rep c u p := hr 0 (j, u) (j, p) rfl rfl
    obtain ⟨c1, c2, c3⟩ := cells_ok hu hc
    obtain ⟨out', e1, e2, e3⟩ := foldl_set u.cells off cells
    have ih := fill_ok ps us (splice cs off vs) out out' hm (fun k u p hk hq => hr (k + 1) u p (by simpa using hk) (by simpa using hq)) (by rw [e2, h1, splice_length hh.2]) (fun k hk => by
        rw [e3 k (by omega)]
        split
        · exact c2 _ (by omega)
        · exact h2 k (by omega)) (fun k d hd => by
        have hk : k < cells.size := by
          rw [h1, ← splice_length hh.2]
          exact (List.getElem?_eq_some_iff.1 hd).1
        rw [e3 k hk]
        rw [splice_get hh.2] at hd
        split at hd
        · rename_i hq
          rw [if_pos (by omega)]
          exact c3 _ _ hd
        · rename_i hq
          rw [if_neg (by omega)]
          exact h3 _ _ hd) h
    obtain ⟨res, f1, f2, f3, f4, f5⟩ := ih
    refine ⟨res, ?_, f2, by rw [f3, splice_length hh.2], f4, f5⟩
    simp only [Instr.fill, hp]
    rw [if_neg (by simp only [Bool.or_eq_true, decide_eq_true_eq]; omega), e1]
    exact f1

def fieldsOf (T : TypeId → TI) (fs : List (Nat × TypeId)) (i : Nat) : Option (Nat × Nat) := (fs[i]?).map fun p => (p.1, (T p.2).size)
def buildD (T : TypeId → TI) (H : Heap) (t : TypeId) (ps : List (Nat × D)) : Option D := match (T t).k with
  | .agg fs => if fs.all (fun p => (T p.2).k.known) then (fillD H (fieldsOf T fs) (T t).zero ps).map .agg else none
  | .arr _ e => if (T e).k.known = true then (fillD H (fun i => some (i * (T e).size, (T e).size)) (T t).zero ps).map .agg else none
  | _ => none
theorem build_ok {L : Lang} (ok : L.Ok) {c : Cx} (inv : Inv c) {t : TypeId} {us : Array (Nat × Value)} {ps : List (Nat × D)} {d : D} (hm : us.toList.map (·.1) = ps.map (·.1))
    (hr : ∀ (k : Nat) (u : Nat × Value) (p : Nat × D), us.toList[k]? = some u → ps[k]? = some p → Rep c u.2 p.2) (h : buildD L.T c.hp t ps = some d) : ValOk L.P c (Instr.build t us) d c.hp := by
  unfold buildD at h
  split at h
  · rename_i fs hT
    split at h
    case isFalse => cases h
    rename_i hall
    obtain ⟨out, ho, rfl⟩ := Option.map_eq_some_iff.1 h
    obtain ⟨z, z1, z2, z3, z4, z5⟩ := zero_holds ok c (t := t) (by rw [hT]; rfl)
    obtain ⟨d0, hu, hfit⟩ := ti_under (ok.ty t) (by rw [hT]; simp)
    rw [hT] at hfit
    obtain ⟨fields, rfl, hfs, _⟩ := hfit
    have hplaces : (fields.mapM (m := Sem) fun f => do pure (f.offset, ← sizeOf f.type)).run L.P c.w = .ok (fields.map fun f => (f.offset, (L.T f.type).size)) c.w := by
      rw [Array.mapM_eq_mapM_toList]
      have : ∀ l : List Field, (∀ f ∈ l, (L.T f.type).k.known = true) → (l.mapM (m := Sem) fun f => do pure (f.offset, ← sizeOf f.type)).run L.P c.w = .ok (l.map fun f => (f.offset, (L.T f.type).size)) c.w := by
        intro l
        induction l with
        | nil => intro _; rfl
        | cons f l ih =>
          intro hl
          simp only [List.mapM_cons, Sem.run_bind, run_size ok (hl f (List.mem_cons_self ..)), Result.andThen_ok, Sem.run_pure, ih (fun g hg => hl g (List.mem_cons_of_mem _ hg)), List.map_cons]
      have hk : ∀ f ∈ fields.toList, (L.T f.type).k.known = true := fun f hf => by
        rw [← hfs] at hall
        simp only [List.all_map, List.all_eq_true] at hall
        exact hall f hf
      simp only [Sem.run_map, this _ hk, Result.andThen_ok]
      congr 1
      simp [← Array.toList_map]
    have hpl : ∀ i, (fields.map fun f => (f.offset, (L.T f.type).size))[i]? = fieldsOf L.T fs i := fun i => by
      simp [fieldsOf, ← hfs, Array.getElem?_toList]
      rfl
    obtain ⟨res, r1, r2, r3, r4, r5⟩ := fill_ok (c := c) ps us.toList (L.T t).zero out z.cells hm hr (by omega) z4 z5 ho
    refine .same inv (v := .agg res) ?_ (.agg _ _ r2 r4 r5)
    have hfun : (fun x => (fields.map fun f => (f.offset, (L.T f.type).size))[x]?) = fieldsOf L.T fs := funext hpl
    simp only [Instr.build, Sem.run_bind, z1, Result.andThen_ok, run_underlying hu, hplaces, hfun, r1, Sem.run_pure]
  · rename_i n e hT
    split at h
    case isFalse => cases h
    rename_i hk
    obtain ⟨out, ho, rfl⟩ := Option.map_eq_some_iff.1 h
    obtain ⟨z, z1, z2, z3, z4, z5⟩ := zero_holds ok c (t := t) (by rw [hT]; rfl)
    obtain ⟨d0, hu, hfit⟩ := ti_under (ok.ty t) (by rw [hT]; simp)
    rw [hT] at hfit
    obtain rfl : d0 = .array n e := hfit
    obtain ⟨res, r1, r2, r3, r4, r5⟩ := fill_ok (c := c) ps us.toList (L.T t).zero out z.cells hm hr (by omega) z4 z5 ho
    refine .same inv (v := .agg res) ?_ (.agg _ _ r2 r4 r5)
    simp only [Instr.build, Sem.run_bind, z1, Result.andThen_ok, run_underlying hu, run_size ok hk, r1, Sem.run_pure]
  · cases h
end Go.Proofs.Ytejpgmemohchaaa.Vm
