/- Operations that write memory or make some: stores, new variables, new rows. -/
import Derived.Test.YtejpgmemohchaaaVmD
namespace Go.Proofs.Ytejpgmemohchaaa.Vm
open Go

/-- The cells of a value. -/
def cellsD (H : Heap) : D → Option (List D)
  | .agg cs => some cs
  | d => if oneD H d then some [d] else none
theorem cells_ok {c : Cx} {v : Value} {d : D} {cs : List D} (hv : Rep c v d) (h : cellsD c.hp d = some cs) :
    v.cells.size = cs.length ∧ (∀ i, i < v.cells.size → (v.cells.getD i undef).oneCell' = true) ∧ ∀ i x, cs[i]? = some x → Rep c (v.cells.getD i undef) x := by
  have key : oneD c.hp d = true → cs = [d] → v.cells.size = cs.length ∧ (∀ i, i < v.cells.size → (v.cells.getD i undef).oneCell' = true) ∧ ∀ i x, cs[i]? = some x → Rep c (v.cells.getD i undef) x := by
    intro h1 h2
    subst h2
    obtain ⟨e1, e2⟩ := rep_one hv h1
    rw [e2]
    refine ⟨rfl, fun i hi => ?_, fun i x hx => ?_⟩
    · have : i = 0 := by simpa using hi
      subst this
      exact e1
    · cases i with
      | zero => simp at hx; subst hx; exact hv
      | succ i => simp at hx
  cases d with
  | agg xs =>
    simp only [cellsD, Option.some.injEq] at h
    subst h
    cases hv with
    | agg a _ ha h1 hh => exact ⟨ha, h1, hh⟩
  | _ =>
    simp only [cellsD] at h
    split at h
    · rename_i h1
      exact key h1 (Option.some.inj h).symm
    · cases h

theorem setCells_heap (b : Nat) : ∀ (vs : List Value) (o : Nat) (w : World) {cs : Array Value} {e : TypeId} {fz : Nat × Nat}, w.heap[b]? = some (.cells cs e fz) → o + vs.length ≤ cs.size →
    ∃ cs', (w.setCells b o vs).heap[b]? = some (.cells cs' e fz) ∧ cs'.size = cs.size ∧ ∀ k, cs'.getD k undef = if o ≤ k ∧ k < o + vs.length then vs.getD (k - o) undef else cs.getD k undef
  | [], o, w, cs, e, fz, h, _ => ⟨cs, h, rfl, fun k => by rw [if_neg (by simp)]⟩
  | v :: vs, o, w, cs, e, fz, h, hl => by
    have h1 : (w.setCell ⟨b, o, none⟩ v).heap[b]? = some (.cells (cs.setIfInBounds o v) e fz) := by
      simp [World.setCell, Array.getElem?_modify, h]
    simp only [List.length_cons] at hl
    obtain ⟨cs', h2, h3, h4⟩ := setCells_heap b vs (o + 1) _ h1 (by simp; omega)
    refine ⟨cs', by rw [World.setCells]; exact h2, by simpa using h3, fun k => ?_⟩
    rw [h4]
    by_cases hk : k = o
    · subst hk
      rw [if_neg (by omega), if_pos (by simp)]
      simp [Array.getD_eq_getD_getElem?, show k < cs.size by omega]
    · by_cases h5 : o + 1 ≤ k ∧ k < o + 1 + vs.length
      · rw [if_pos h5, if_pos (by simp; omega)]
        obtain ⟨m, rfl⟩ : ∃ m, k = o + 1 + m := ⟨k - (o + 1), by omega⟩
        rw [show o + 1 + m - (o + 1) = m by omega, show o + 1 + m - o = m + 1 by omega]
        simp
      · rw [if_neg h5, if_neg (by simp; omega)]
        simp [Array.getD_eq_getD_getElem?, Array.getElem?_setIfInBounds_ne (Ne.symm hk)]
theorem setCells_other (b : Nat) : ∀ (vs : List Value) (o : Nat) (w : World) (x : Nat), x ≠ b → (w.setCells b o vs).heap[x]? = w.heap[x]?
  | [], _, _, _, _ => rfl
  | v :: vs, o, w, x, h => by
    rw [World.setCells, setCells_other b vs _ _ x h]
    simp [World.setCell, Array.getElem?_modify, Ne.symm h]
theorem setCells_size (b : Nat) : ∀ (vs : List Value) (o : Nat) (w : World), (w.setCells b o vs).heap.size = w.heap.size
  | [], _, _ => rfl
  | v :: vs, o, w => by rw [World.setCells, setCells_size b vs]; simp
theorem setCells_rest (b : Nat) : ∀ (vs : List Value) (o : Nat) (w : World), (w.setCells b o vs).os = w.os ∧ (w.setCells b o vs).tape = w.tape ∧ (w.setCells b o vs).output = w.output
  | [], _, _ => ⟨rfl, rfl, rfl⟩
  | v :: vs, o, w => by rw [World.setCells]; exact setCells_rest b vs _ _

theorem run_store_cells {P : Program} {w : World} {b o : Nat} {cs : Array Value} {e : TypeId} {fz : Nat × Nat} {vs : List Value} (h : w.heap[b]? = some (.cells cs e fz))
    (hl : o + vs.length ≤ cs.size) (hf : ∀ k, o ≤ k → k < cs.size → ¬ (fz.1 ≤ k ∧ k < fz.2)) (h1 : ∀ v ∈ vs, v.oneCell' = true) :
    (storeCells ⟨b, o, none⟩ vs).run P w = .ok () (w.setCells b o vs) := by
  have := run_storeCells_cells (P := P) b o vs 0 w (fun j hj => by
      simp only [Nat.add_zero, World.cell?, h]
      simp; omega) (fun j hj => by
      have := hf (o + j) (by omega) (by omega)
      simp only [Nat.add_zero, World.frozen?, h]
      simpa using this) h1
  simpa using this

/-- The elements of a row with one of them partly set anew. -/
def splice (x : List D) (o : Nat) (vs : List D) : List D := x.take o ++ vs ++ x.drop (o + vs.length)
theorem splice_get {x : List D} {o : Nat} {vs : List D} (h : o + vs.length ≤ x.length) (k : Nat) :
    (splice x o vs)[k]? = if o ≤ k ∧ k < o + vs.length then vs[k - o]? else x[k]? := by
  unfold splice
  have ht : (x.take o).length = o := by simp; omega
  by_cases h1 : k < o
  · rw [if_neg (by omega), List.append_assoc, List.getElem?_append_left (by omega), List.getElem?_take_of_lt h1]
  · by_cases h2 : k < o + vs.length
    · rw [if_pos (by omega), List.append_assoc, List.getElem?_append_right (by omega), ht, List.getElem?_append_left (by omega)]
    · rw [if_neg (by omega), List.getElem?_append_right (by simp; omega), List.getElem?_drop]
      congr 1
      simp
      omega
theorem splice_length {x : List D} {o : Nat} {vs : List D} (h : o + vs.length ≤ x.length) : (splice x o vs).length = x.length := by
  unfold splice
  simp
  omega

def storeD (T : TypeId → TI) (H : Heap) (t : TypeId) (a v : D) : Option Heap := match a with
  | .ref r i o g => match H[r]? with
    | some (.cells g' sz false xs) => if g' = g then match xs[i]?, cellsD H v with
        | some x, some vs => if vs.length = (T t).size ∧ (T t).k.known = true ∧ o + vs.length ≤ sz then some (H.set r (.cells g sz false (xs.set i (splice x o vs)))) else none
        | _, _ => none
      else none
    | _ => none
  | _ => none

/-- A step of the machine that answers nothing. -/
def UnitOk (P : Program) (c : Cx) (s : Sem Unit) (H : Heap) : Prop := ∃ c', s.run P c.w = .ok () c'.w ∧ c'.hp = H ∧ Inv c' ∧ Le c c'

/-- What stands in the block of the small heap when some of its cells are set. -/
theorem set_ok {c : Cx} (inv : Inv c) {r g sz : Nat} {xs ys : List (List D)} {o : Nat} {vals : List Value} (hx : c.hp[r]? = some (.cells g sz false xs)) (hlen : ys.length = xs.length)
    (hl : (c.mu r).2 ≤ o) (hsz : ∀ (i : Nat) (y : List D), ys[i]? = some y → y.length = sz) (h1 : ∀ v ∈ vals, v.oneCell' = true)
    (hb : ∀ cs e fz, c.w.heap[(c.mu r).1]? = some (.cells cs e fz) → o + vals.length ≤ cs.size)
    (hin : ∀ (i : Nat) (y : List D) (p : Nat) (d : D), ys[i]? = some y → y[p]? = some d → (o ≤ (c.mu r).2 + i * sz + p ∧ (c.mu r).2 + i * sz + p < o + vals.length ∧ Rep c (vals.getD ((c.mu r).2 + i * sz + p - o) undef) d) ∨
      (¬ (o ≤ (c.mu r).2 + i * sz + p ∧ (c.mu r).2 + i * sz + p < o + vals.length) ∧ ∃ x, xs[i]? = some x ∧ x[p]? = some d)) :
    ∀ P : Program, UnitOk P c (storeCells ⟨(c.mu r).1, o, none⟩ vals) (c.hp.set r (.cells g sz false ys)) := by
  intro P
  obtain ⟨h0, cs, e, fz, k1, k2, k3, k4, k5, k6, k7⟩ := inv.blk r _ hx
  have hb' := hb cs e fz k1
  have hrun := run_store_cells (P := P) (o := o) (vs := vals) k1 hb' (fun k hk1 hk2 => k3 rfl k (by omega) hk2) h1
  obtain ⟨cs', m1, m2, m3⟩ := setCells_heap (c.mu r).1 vals o c.w k1 hb'
  obtain ⟨r1, r2, r3⟩ := setCells_rest (c.mu r).1 vals o c.w
  have hput := put_ok (c := c) inv (k' := .cells g sz false ys) (m := c.mu r) (w' := c.w.setCells (c.mu r).1 o vals) hx rfl r1 r2 r3 (by rw [setCells_size]; exact Nat.le_refl _)
    (fun b _ hne => setCells_other _ _ _ _ b (fun he => hne rfl (he ▸ rfl))) (fun b _ hb => .inl ⟨rfl, hb⟩) (Nat.le_refl _)
    ⟨fun g' sz' ro' xs' he _ => by
        cases he
        exact ⟨false, xs, rfl, hlen, rfl, by simp [bsize, m1, k1, m2]⟩, fun g' ro' es he => by cases he⟩
    (fun le => by
      refine ⟨h0, cs', e, fz, by simp only [Cx.put, upd_same]; exact m1, by simp only [Cx.put, upd_same]; rw [hlen, m2]; exact k2, ?_, ?_, (fun h => nomatch h), ?_, ?_⟩
      · intro _ k hk1 hk2
        simp only [Cx.put, upd_same] at hk1
        exact k3 rfl k hk1 (by omega)
      · simp only [Cx.put, upd_same]
        intro i y hy
        refine ⟨hsz i y hy, fun p d hd => ?_⟩
        rw [m3]
        rcases hin i y p d hy hd with ⟨a1, a2, a3⟩ | ⟨a1, x, a2, a3⟩
        · rw [if_pos ⟨a1, a2⟩]
          exact a3.mono le
        · rw [if_neg a1]
          exact ((k4 i x a2).2 p d a3).mono le
      · intro _
        simp only [Cx.put, upd_same]
        exact k6 rfl
      · intro k hk
        rw [m3]
        split
        · rename_i hh
          rw [List.getD_eq_getElem?_getD, List.getElem?_eq_getElem (by omega)]
          exact h1 _ (List.getElem_mem _)
        · exact k7 k (by omega))
  exact ⟨_, hrun, rfl, hput.1, hput.2⟩

theorem store_ok {L : Lang} (ok : L.Ok) {c : Cx} (inv : Inv c) {t : TypeId} {u v : Value} {x y : D} {H : Heap} (hu : Rep c u x) (hv : Rep c v y) (h : storeD L.T c.hp t x y = some H) :
    UnitOk L.P c (Instr.storeAt t u v) H := by
  cases x with
  | ref r i o g =>
    simp only [storeD] at h
    cases hx : c.hp[r]? with
    | none => simp [hx] at h
    | some k =>
    cases k with
    | gone g0 => simp [hx] at h
    | map g0 ro es => simp [hx] at h
    | cells g0 sz ro xs =>
    cases ro with
    | true => simp [hx] at h
    | false =>
    simp only [hx] at h
    by_cases hg : g0 = g
    case neg => simp [hg] at h
    subst hg
    simp only [if_true] at h
    cases hi : xs[i]? with
    | none => simp [hi] at h
    | some xi =>
    cases hc : cellsD c.hp y with
    | none => simp [hi, hc] at h
    | some vs =>
    simp only [hi, hc] at h
    by_cases hh : vs.length = (L.T t).size ∧ (L.T t).k.known = true ∧ o + vs.length ≤ sz
    case neg => rw [if_neg hh] at h; cases h
    rw [if_pos hh] at h
    obtain rfl := Option.some.inj h
    obtain ⟨hl, hk, hos⟩ := hh
    obtain ⟨c1, c2, c3⟩ := cells_ok hv hc
    have hblk := inv.blk r _ hx
    obtain ⟨h0, cs, e, fz, k1, k2, k3, k4, _⟩ := hblk
    have hxl : xi.length = sz := (k4 i xi hi).1
    have hil : i < xs.length := (List.getElem?_eq_some_iff.1 hi).1
    have hmul : (i + 1) * sz ≤ xs.length * sz := Nat.mul_le_mul_right _ hil
    rw [Nat.add_mul] at hmul
    have hlen : v.cells.toList.length = vs.length := by simp [c1]
    have hset : ∀ j, (xs.set i (splice xi o vs))[j]? = if j = i then some (splice xi o vs) else xs[j]? := by
      intro j
      rw [List.getElem?_set]
      by_cases hj : j = i
      · subst hj; simp [hil]
      · simp [hj, Ne.symm hj]
    have hgetD : ∀ k, v.cells.toList.getD k undef = v.cells.getD k undef := fun k => by simp [List.getD_eq_getElem?_getD, Array.getD_eq_getD_getElem?]
    have key := set_ok inv (ys := xs.set i (splice xi o vs)) (o := (c.mu r).2 + i * sz + o) (vals := v.cells.toList) hx (by simp) (by omega)
      (fun j yy hy => by
        rw [hset] at hy
        split at hy
        · obtain rfl := Option.some.inj hy
          rw [splice_length (by omega), hxl]
        · exact (k4 j yy hy).1)
      (fun w hw => by
        obtain ⟨j, hj, rfl⟩ := List.getElem_of_mem hw
        have := c2 j (by simpa using hj)
        rw [Array.getD_eq_getD_getElem?] at this
        simp at hj
        simpa [hj] using this)
      (fun cs' e' fz' hq => by
        rw [k1] at hq
        cases hq
        omega)
      (fun j yy p d hy hd => by
        rw [hset] at hy
        split at hy
        · rename_i hji
          subst hji
          obtain rfl := Option.some.inj hy
          rw [splice_get (by omega)] at hd
          split at hd
          · rename_i hp
            refine .inl ⟨by omega, by omega, ?_⟩
            rw [hgetD, show (c.mu r).2 + j * sz + p - ((c.mu r).2 + j * sz + o) = p - o by omega]
            exact c3 _ _ hd
          · rename_i hp
            exact .inr ⟨by omega, xi, hi, hd⟩
        · rename_i hji
          refine .inr ⟨fun ⟨q1, q2⟩ => ?_, yy, hy, hd⟩
          have hp : p < sz := by rw [← (k4 j yy hy).1]; exact (List.getElem?_eq_some_iff.1 hd).1
          have hmj : (i + 1) * sz ≤ j * sz ∨ (j + 1) * sz ≤ i * sz := by
            rcases Nat.lt_or_ge i j with hlt | hge
            · exact .inl (Nat.mul_le_mul_right _ hlt)
            · exact .inr (Nat.mul_le_mul_right _ (by omega))
          rw [Nat.add_mul, Nat.add_mul] at hmj
          omega) L.P
    obtain ⟨c', q1, q2, q3, q4⟩ := key
    cases hu with
    | ref _ _ _ _ _ hr hgg hv' =>
    obtain rfl := hv' sz false xs hx
    refine ⟨c', ?_, q2, q3, q4⟩
    have hsz : v.cells.size = (L.T t).size := by rw [c1, hl]
    simp only [Instr.storeAt, Instr.sureAddr, storeVar, Sem.run_bind, Sem.run_pure, Result.andThen_ok, run_size ok hk, hsz]
    simpa using q1
  | _ => simp [storeD] at h
end Go.Proofs.Ytejpgmemohchaaa.Vm
