/- Operations on memory: loads, addresses, fields, indexes. -/
import Derived.Test.YtejpgmemohchaaaVmC
namespace Go.Proofs.Ytejpgmemohchaaa.Vm
open Go

def K.known : K → Bool
  | .other => false
  | _ => true
def K.isAg : K → Bool
  | .agg _ | .arr _ _ => true
  | _ => false
theorem known_ne {k : K} (h : k.known = true) : k ≠ .other := by intro e; subst e; cases h
theorem fits_ag {k : K} {d : TypeDesc} (h : k.known = true) (hf : k.fits d) : Vm.isAg d = k.isAg := by
  cases k <;> simp only [K.fits] at hf
  case agg fs => obtain ⟨x, rfl, _⟩ := hf; rfl
  case iface => obtain ⟨x, rfl⟩ := hf; rfl
  case func => obtain ⟨a, b, q, rfl⟩ := hf; rfl
  case other => cases h
  all_goals (subst hf; rfl)
section
variable {L : Lang} (ok : L.Ok) {t : TypeId} (hk : (L.T t).k.known = true) (w : World)
include ok hk
theorem run_ag : (isAgg t).run L.P w = .ok (L.T t).k.isAg w := by
  obtain ⟨d, hu, hf⟩ := ti_under (ok.ty t) (known_ne hk)
  have := fits_ag hk hf
  unfold isAgg
  rw [← this]
  cases d <;> simp [run_underlying hu, Vm.isAg]
theorem run_size : (sizeOf t).run L.P w = .ok (L.T t).size w := by
  obtain ⟨i, z, d, h1, h2, _⟩ := ti_some (ok.ty t) (known_ne hk)
  simp [sizeOf, typeInfo, h1, h2]
theorem run_info : ∃ i, (typeInfo t).run L.P w = .ok i w ∧ L.P.info? t = some i ∧ i.size = (L.T t).size ∧ i.bytes = (L.T t).bytes := by
  obtain ⟨i, z, d, h1, h2, h3, _⟩ := ti_some (ok.ty t) (known_ne hk)
  exact ⟨i, by simp [typeInfo, h1], h1, h2, h3⟩
theorem run_zero : ∃ z, (zeroValue t).run L.P w = .ok z w ∧ (∃ i, L.P.info? t = some i ∧ i.zero = some z) ∧ z.cells.size = (L.T t).zero.length ∧ (L.T t).zero.length = (L.T t).size ∧
    ∀ j x, (L.T t).zero[j]? = some x → zm (z.cells.getD j undef) x = true := by
  obtain ⟨i, z, d, h1, h2, _, h4, h5, h6, h7, _⟩ := ti_some (ok.ty t) (known_ne hk)
  exact ⟨z, by simp [zeroValue, typeInfo, h1, h4], ⟨i, h1, h4⟩, h5, h6, h7⟩
end
theorem zm_one {v : Value} {d : D} (h : zm v d = true) : v.oneCell' = true := by
  unfold zm at h
  split at h <;> first | rfl | cases h

theorem getD_lt {α : Type} {a : Array α} {i : Nat} {x : α} (h : i < a.size) : a[i]? = some (a.getD i x) := by simp [Array.getD_eq_getD_getElem?, h]
theorem add_lit (b o i : Nat) : (⟨b, o, none⟩ : Addr).add i = ⟨b, o + i, none⟩ := by unfold Addr.add; split <;> simp_all

/-- What of a row of cells a variable of type t at place o holds. -/
def partD (ti : TI) (cs : List D) (o : Nat) : Option D := match ti.k with
  | .other => none
  | .agg _ | .arr _ _ => if o + ti.size ≤ cs.length then some (.agg ((cs.drop o).take ti.size)) else none
  | _ => cs[o]?
theorem partD_ag {ti : TI} {cs : List D} {o : Nat} {d : D} (h : partD ti cs o = some d) :
    ti.k.known = true ∧ ((ti.k.isAg = true ∧ o + ti.size ≤ cs.length ∧ d = .agg ((cs.drop o).take ti.size)) ∨ (ti.k.isAg = false ∧ cs[o]? = some d)) := by
  unfold partD at h
  split at h
  · cases h
  · rename_i hk
    split at h
    · obtain rfl := Option.some.inj h
      exact ⟨by rw [hk]; rfl, .inl ⟨by rw [hk]; rfl, by assumption, rfl⟩⟩
    · cases h
  · rename_i hk
    split at h
    · obtain rfl := Option.some.inj h
      exact ⟨by rw [hk]; rfl, .inl ⟨by rw [hk]; rfl, by assumption, rfl⟩⟩
    · cases h
  · rename_i h1 h2 h3
    refine ⟨?_, .inr ⟨?_, h⟩⟩
    · cases hk : ti.k <;> simp_all [K.known]
    · cases hk : ti.k <;> simp_all [K.isAg]

theorem agg_rep {c : Cx} {n : Nat} {f : Nat → Value} {xs : List D} (hl : xs.length = n) (h1 : ∀ j, j < n → (f j).oneCell' = true) (h : ∀ j d, xs[j]? = some d → Rep c (f j) d) :
    Rep c (.agg ((List.range n).map f).toArray) (.agg xs) := by
  refine .agg _ _ (by simp [hl]) (fun i hi => ?_) (fun i d hd => ?_)
  · simp at hi
    simpa [Array.getD_eq_getD_getElem?, hi] using h1 i hi
  · have hi : i < n := by rw [← hl]; exact (List.getElem?_eq_some_iff.1 hd).1
    simpa [Array.getD_eq_getD_getElem?, hi] using h i d hd

theorem loadVar_same {L : Lang} (ok : L.Ok) {c : Cx} {t : TypeId} {b off o : Nat} {cs : List D} {f : Nat → Value} {d : D}
    (hc : ∀ j d, cs[j]? = some d → c.w.cell? ⟨b, off + j, none⟩ = some (f j)) (h1 : ∀ j, j < cs.length → (f j).oneCell' = true)
    (h : ∀ j d, cs[j]? = some d → Rep c (f j) d) (hp : partD (L.T t) cs o = some d) : ∃ v, (loadVar t ⟨b, off + o, none⟩).run L.P c.w = .ok v c.w ∧ Rep c v d := by
  obtain ⟨hk, ⟨ha, hl, rfl⟩ | ⟨ha, hd⟩⟩ := partD_ag hp
  · have hrun := run_loadCells (P := L.P) c.w ⟨b, off + o, none⟩ (L.T t).size (fun j => f (o + j)) (fun j hj => by
      rw [add_lit, Nat.add_assoc]
      exact hc (o + j) _ (List.getElem?_eq_getElem (by omega)))
    refine ⟨.agg ((List.range (L.T t).size).map fun j => f (o + j)).toArray, ?_, ?_⟩
    · unfold loadVar
      simp only [Sem.run_bind, run_ag ok hk, ha, Result.andThen_ok, if_true, run_size ok hk, hrun, Sem.run_pure]
    · refine agg_rep (by simp; omega) (fun j hj => h1 _ (by omega)) (fun j d hd => ?_)
      rw [List.getElem?_take] at hd
      split at hd
      · rw [List.getElem?_drop] at hd
        exact h _ _ hd
      · cases hd
  · refine ⟨f o, ?_, h _ _ hd⟩
    unfold loadVar
    simp only [Sem.run_bind, run_ag ok hk, ha, Result.andThen_ok, Bool.false_eq_true, if_false, run_load, hc _ _ hd]
theorem loadVar_ok {L : Lang} (ok : L.Ok) {c : Cx} (inv : Inv c) {t : TypeId} {b off o : Nat} {cs : List D} {f : Nat → Value} {d : D}
    (hc : ∀ j d, cs[j]? = some d → c.w.cell? ⟨b, off + j, none⟩ = some (f j)) (h1 : ∀ j, j < cs.length → (f j).oneCell' = true)
    (h : ∀ j d, cs[j]? = some d → Rep c (f j) d) (hp : partD (L.T t) cs o = some d) : ValOk L.P c (loadVar t ⟨b, off + o, none⟩) d c.hp := by
  obtain ⟨v, h1, h2⟩ := loadVar_same ok hc h1 h hp
  exact .same inv h1 h2

/-- The cells that a pointer leads to: of its element, from its place on. -/
def refCells (H : Heap) : D → Option (List D × Nat)
  | .ref r i o g => match H[r]? with
    | some (.cells g' _ _ xs) => if g' = g then (xs[i]?).map fun x => (x, o) else none
    | _ => none
  | .box cs => some (cs, 0)
  | _ => none

theorem cells_at {c : Cx} {r : Nat} {sz : Nat} {ro : Bool} {xs : List (List D)} {i : Nat} {x : List D} (h : CellsOk c r sz ro xs) (hx : xs[i]? = some x) :
    ∃ f : Nat → Value, (∀ j d, x[j]? = some d → c.w.cell? ⟨(c.mu r).1, (c.mu r).2 + i * sz + j, none⟩ = some (f j)) ∧ (∀ j, j < x.length → (f j).oneCell' = true) ∧ (∀ j d, x[j]? = some d → Rep c (f j) d) ∧ x.length = sz := by
  obtain ⟨h0, cs, e, fz, h1, h2, _, h4, _, _, h7⟩ := h
  obtain ⟨hl, hr⟩ := h4 i x hx
  have hi : i < xs.length := (List.getElem?_eq_some_iff.1 hx).1
  have hb : ∀ j, j < x.length → (c.mu r).2 + i * sz + j < cs.size := fun j hj => by
    have : (i + 1) * sz ≤ xs.length * sz := Nat.mul_le_mul_right _ hi
    rw [Nat.add_mul] at this
    omega
  refine ⟨fun j => cs.getD ((c.mu r).2 + i * sz + j) undef, fun j d hd => ?_, fun j hj => h7 _ (hb j hj), fun j d hd => hr j d hd, hl⟩
  have hj : j < x.length := (List.getElem?_eq_some_iff.1 hd).1
  unfold World.cell?
  simp only [h1]
  exact getD_lt (hb j hj)

theorem refCells_ok {c : Cx} (inv : Inv c) {v : Value} {d : D} {cs : List D} {o : Nat} (hv : Rep c v d) (h : refCells c.hp d = some (cs, o)) :
    ∃ (b off : Nat) (f : Nat → Value), v = .pointer (some ⟨b, off + o, none⟩) ∧ (∀ j d, cs[j]? = some d → c.w.cell? ⟨b, off + j, none⟩ = some (f j)) ∧ (∀ j, j < cs.length → (f j).oneCell' = true) ∧
      (∀ j d, cs[j]? = some d → Rep c (f j) d) := by
  cases d with
  | ref r i p g =>
    simp only [refCells] at h
    cases hx : c.hp[r]? with
    | none => simp [hx] at h
    | some k =>
    cases k with
    | gone g0 => simp [hx] at h
    | map g0 ro es => simp [hx] at h
    | cells g0 sz ro xs =>
    simp only [hx] at h
    by_cases hg : g0 = g
    case neg => simp [hg] at h
    subst hg
    simp only [if_true] at h
    obtain ⟨x, hi, he⟩ := Option.map_eq_some_iff.1 h
    obtain ⟨rfl, rfl⟩ := Prod.mk.inj he
    obtain ⟨f, f1, f2, f3, _⟩ := cells_at (inv.blk _ _ hx) hi
    cases hv
    rename_i hr hgg hv
    exact ⟨_, _, f, hv sz ro xs hx, f1, f2, f3⟩
  | box cs' =>
    simp only [refCells, Option.some.injEq, Prod.mk.injEq] at h
    obtain ⟨rfl, rfl⟩ := h
    cases hv with
    | box b off _ f hi hc h1 hh =>
    exact ⟨b, off, f, rfl, hc, h1, hh⟩
  | _ => simp [refCells] at h

def loadD (T : TypeId → TI) (H : Heap) (t : TypeId) (d : D) : Option D := match refCells H d with
  | some (cs, o) => partD (T t) cs o
  | none => none
theorem load_ok {L : Lang} (ok : L.Ok) {c : Cx} (inv : Inv c) {t : TypeId} {v : Value} {x d : D} (hv : Rep c v x) (h : loadD L.T c.hp t x = some d) : ValOk L.P c (Instr.loadAt t v) d c.hp := by
  unfold loadD at h
  split at h
  · rename_i cs o hx
    obtain ⟨b, off, f, rfl, h1, h2, h3⟩ := refCells_ok inv hv hx
    refine (loadVar_ok ok inv h1 h2 h3 h).congr ?_
    simp [Instr.loadAt, Instr.sureAddr]
  · cases h

/-- A field's address. -/
def fieldAtD (T : TypeId → TI) (H : Heap) (s : TypeId) (d : D) (fld : Nat) : Option D := match (T s).k with
  | .agg fs => match fs[fld]? with
    | some (off, ft) => if (T ft).k.known = true ∧ (T ft).size ≠ 0 then match d with
        | .ref r i o g => if alive H r g then some (.ref r i (o + off) g) else none
        | .box cs => some (.box (cs.drop off))
        | _ => none
      else none
    | none => none
  | _ => none
theorem box_drop {c : Cx} {b off o : Nat} {cs : List D} (h : Rep c (.pointer (some ⟨b, off, none⟩)) (.box cs)) : Rep c (.pointer (some ⟨b, off + o, none⟩)) (.box (cs.drop o)) := by
  cases h with
  | box _ _ _ f hi hc h1 hh =>
  refine .box b (off + o) (cs.drop o) (fun j => f (o + j)) hi (fun j d hd => ?_) (fun j hj => ?_) (fun j d hd => ?_)
  · rw [List.getElem?_drop] at hd
    rw [Nat.add_assoc]
    exact hc _ _ hd
  · simp at hj
    exact h1 _ (by omega)
  · rw [List.getElem?_drop] at hd
    exact hh _ _ hd
theorem fieldAt_ok {L : Lang} (ok : L.Ok) {c : Cx} (inv : Inv c) {s : TypeId} {v : Value} {x d : D} {fld : Nat} (hv : Rep c v x) (h : fieldAtD L.T c.hp s x fld = some d) :
    ValOk L.P c (Instr.fieldAt s v fld) d c.hp := by
  unfold fieldAtD at h
  split at h
  case h_2 => cases h
  rename_i fs hT
  split at h
  case h_2 => cases h
  rename_i off ft hf
  by_cases hk : (L.T ft).k.known = true ∧ (L.T ft).size ≠ 0
  case neg => rw [if_neg hk] at h; cases h
  rw [if_pos hk] at h
  obtain ⟨d0, hu, hfit⟩ := ti_under (ok.ty s) (by rw [hT]; simp)
  rw [hT] at hfit
  obtain ⟨fields, rfl, hfs, _⟩ := hfit
  obtain ⟨F, hF, hFo⟩ : ∃ F, fields[fld]? = some F ∧ F.offset = off ∧ F.type = ft := by
    rw [← hfs] at hf
    simp only [List.getElem?_map, Array.getElem?_toList] at hf
    obtain ⟨F, h1, h2⟩ := Option.map_eq_some_iff.1 hf
    exact ⟨F, h1, (Prod.mk.inj h2).1, (Prod.mk.inj h2).2⟩
  obtain ⟨rfl, rfl⟩ := hFo
  have place : ∀ a : Addr, (fieldPlace a F).run L.P c.w = .ok (a.add F.offset) c.w := fun a => by
    simp [fieldPlace, run_size ok hk.1, hk.2]
  cases x with
  | ref r i o g =>
    simp only at h
    split at h
    case isFalse => cases h
    rename_i ha
    obtain rfl := Option.some.inj h
    obtain ⟨sz, ro, xs, hx⟩ := alive_some ha
    cases hv
    rename_i hr hg hv
    obtain rfl := hv sz ro xs hx
    refine .same inv (v := .pointer (some ⟨(c.mu r).1, (c.mu r).2 + i * sz + o + F.offset, none⟩)) ?_ (.ref _ _ _ _ _ hr hg fun sz' ro' xs' hx' => ?_)
    · simp [Instr.fieldAt, run_underlying hu, hF, Instr.sureAddr, place, add_lit]
    · rw [hx] at hx'
      cases hx'
      simp only [Nat.add_assoc]
  | box cs =>
    simp only [Option.some.injEq] at h
    subst h
    have hv' := hv
    cases hv
    refine .same inv (v := .pointer (some ⟨_, _ + F.offset, none⟩)) ?_ (box_drop hv')
    simp [Instr.fieldAt, run_underlying hu, hF, Instr.sureAddr, place, add_lit]
  | _ => simp at h

/-- A field of a value. -/
def fieldD (T : TypeId → TI) (s : TypeId) (d : D) (fld : Nat) : Option D := match (T s).k, d with
  | .agg fs, .agg cs => match fs[fld]? with
    | some (off, ft) => partD (T ft) cs off
    | none => none
  | _, _ => none
theorem part_ok {L : Lang} (ok : L.Ok) {c : Cx} (inv : Inv c) {t : TypeId} {a : Array Value} {cs : List D} {o : Nat} {d : D} (hv : Rep c (.agg a) (.agg cs)) (h : partD (L.T t) cs o = some d) :
    ValOk L.P c (part t a o) d c.hp := by
  cases hv with
  | agg _ _ ha h1 hh =>
  obtain ⟨hk, ⟨hg, hl, rfl⟩ | ⟨hg, hd⟩⟩ := partD_ag h
  · refine .same inv (v := .agg (a.extract o (o + (L.T t).size))) ?_ ?_
    · unfold part
      simp only [Sem.run_bind, run_ag ok hk, hg, Result.andThen_ok, if_true, run_size ok hk, Sem.run_pure]
    · refine .agg _ _ (by simp; omega) (fun i hi => ?_) (fun i d hd => ?_)
      · simp at hi
        have h3 := h1 (o + i) (by omega)
        have hlt' : o + i < a.size := by omega
        simpa [Array.getD_eq_getD_getElem?, Array.getElem?_extract, hlt', show i < min (o + (L.T t).size) a.size - o by omega] using h3
      · rw [List.getElem?_take] at hd
        split at hd
        · rename_i hi
          rw [List.getElem?_drop] at hd
          have h3 := hh _ _ hd
          have hlt : o + i < cs.length := (List.getElem?_eq_some_iff.1 hd).1
          have hlt' : o + i < a.size := by omega
          simpa [Array.getD_eq_getD_getElem?, Array.getElem?_extract, hlt', show i < min (o + (L.T t).size) a.size - o by omega] using h3
        · cases hd
  · have hlt : o < a.size := by rw [ha]; exact (List.getElem?_eq_some_iff.1 hd).1
    refine .same inv (v := a.getD o undef) ?_ (hh _ _ hd)
    unfold part
    simp only [Sem.run_bind, run_ag ok hk, hg, Result.andThen_ok, Bool.false_eq_true, if_false, getD_lt (x := undef) hlt, Sem.run_pure]
theorem field_ok {L : Lang} (ok : L.Ok) {c : Cx} (inv : Inv c) {s : TypeId} {v : Value} {x d : D} {fld : Nat} (hv : Rep c v x) (h : fieldD L.T s x fld = some d) :
    ValOk L.P c (Instr.field s v fld) d c.hp := by
  unfold fieldD at h
  split at h
  case h_2 => cases h
  rename_i fs cs hT
  split at h
  case h_2 => cases h
  rename_i off ft hf
  obtain ⟨d0, hu, hfit⟩ := ti_under (ok.ty s) (by rw [hT]; simp)
  rw [hT] at hfit
  obtain ⟨fields, rfl, hfs, _⟩ := hfit
  obtain ⟨F, hF, hFo⟩ : ∃ F, fields[fld]? = some F ∧ F.offset = off ∧ F.type = ft := by
    rw [← hfs] at hf
    simp only [List.getElem?_map, Array.getElem?_toList] at hf
    obtain ⟨F, h1, h2⟩ := Option.map_eq_some_iff.1 hf
    exact ⟨F, h1, (Prod.mk.inj h2).1, (Prod.mk.inj h2).2⟩
  obtain ⟨rfl, rfl⟩ := hFo
  obtain ⟨a, rfl⟩ : ∃ a, v = .agg a := by cases hv; exact ⟨_, rfl⟩
  refine (part_ok ok inv hv h).congr ?_
  simp [Instr.field, run_underlying hu, hF, asAgg]

/-- An element's address. -/
def indexAtD (T : TypeId → TI) (H : Heap) (t : TypeId) (d ix : D) : Option D := match ix with
  | .int _ j => match (T t).k, d with
    | .slice e, .slice r i n g => match H[r]? with
      | some (.cells g' sz _ _) => if g' = g ∧ sz = (T e).size ∧ (T e).k.known = true ∧ 0 ≤ j ∧ j < n then some (.ref r (i + j.toNat) 0 g) else none
      | _ => none
    | .slice e, .isl sz xs => if sz = (T e).size ∧ (T e).k.known = true ∧ 0 ≤ j ∧ j < xs.length then some (.box (xs.getD j.toNat [])) else none
    | .arr n e, .ref r i o g => if alive H r g ∧ (T e).k.known = true ∧ 0 ≤ j ∧ j < n then some (.ref r i (o + j.toNat * (T e).size) g) else none
    | .arr n e, .box cs => if (T e).k.known = true ∧ 0 ≤ j ∧ j < n then some (.box (cs.drop (j.toNat * (T e).size))) else none
    | _, _ => none
  | _ => none
theorem indexAt_ok {L : Lang} (ok : L.Ok) {c : Cx} (inv : Inv c) {t : TypeId} {v u : Value} {x ix d : D} (hv : Rep c v x) (hi : Rep c u ix) (h : indexAtD L.T c.hp t x ix = some d) :
    ValOk L.P c (Instr.indexAt t v u) d c.hp := by
  unfold indexAtD at h
  split at h
  case h_2 => cases h
  rename_i k j
  cases hi
  split at h
  · rename_i e r i n g hT
    obtain ⟨d0, hu, hfit⟩ := ti_under (ok.ty t) (by rw [hT]; simp)
    rw [hT] at hfit
    obtain rfl : d0 = .slice e := hfit
    split at h
    case h_2 => cases h
    rename_i g' sz ro xs hx
    split at h
    case isFalse => cases h
    rename_i hh
    obtain ⟨rfl, hsz, hk, h0, hn⟩ := hh
    obtain rfl := Option.some.inj h
    cases hv
    rename_i hr hg hv
    obtain ⟨a, cap, rfl, h1, h2, h3, h4, h5, h6⟩ := hv sz ro xs hx
    have ha : a = ⟨(c.mu r).1, (c.mu r).2 + i * sz, none⟩ := h4.resolve_right (by omega)
    subst ha
    refine .same inv (v := .pointer (some ⟨(c.mu r).1, (c.mu r).2 + i * sz + j.toNat * sz, none⟩)) ?_ (.ref _ _ _ _ _ hr hg fun sz' ro' xs' hx' => ?_)
    · simp [Instr.indexAt, asIntOf, run_underlying hu, h0, hn, run_size ok hk, add_lit, hsz]
    · rw [hx] at hx'
      cases hx'
      rw [Nat.add_mul]
      simp only [Nat.add_assoc, Nat.add_zero]
  · rename_i e sz xs hT
    obtain ⟨d0, hu, hfit⟩ := ti_under (ok.ty t) (by rw [hT]; simp)
    rw [hT] at hfit
    obtain rfl : d0 = .slice e := hfit
    split at h
    case isFalse => cases h
    rename_i hh
    obtain ⟨hsz, hk, h0, hn⟩ := hh
    obtain rfl := Option.some.inj h
    cases hv with
    | islnil => simp at hn; omega
    | isl0 => simp at hn; omega
    | isl b off n cap _ _ f hl hcap him hs hc h1 hh =>
    have hlt : j.toNat < xs.length := by omega
    have hx : xs[j.toNat]? = some (xs.getD j.toNat []) := by simp [List.getD_eq_getElem?_getD, hlt]
    refine .same inv (v := .pointer (some ⟨b, off + j.toNat * sz, none⟩)) ?_ (.box b _ _ (fun o => f (j.toNat * sz + o)) him (fun o d hd => hc _ _ _ _ hx hd) (fun o ho => ?_) (fun o d hd => hh _ _ _ _ hx hd))
    · simp [Instr.indexAt, asIntOf, run_underlying hu, h0, hl, hn, run_size ok hk, add_lit, hsz]
    · rw [hs _ _ hx] at ho
      apply h1
      have : (j.toNat + 1) * sz ≤ n * sz := Nat.mul_le_mul_right _ (by omega)
      rw [Nat.add_mul] at this
      omega
  · rename_i n e r i o g hT
    obtain ⟨d0, hu, hfit⟩ := ti_under (ok.ty t) (by rw [hT]; simp)
    rw [hT] at hfit
    obtain rfl : d0 = .array n e := hfit
    split at h
    case isFalse => cases h
    rename_i hh
    obtain ⟨ha, hk, h0, hn⟩ := hh
    obtain rfl := Option.some.inj h
    obtain ⟨sz, ro, xs, hx⟩ := alive_some ha
    cases hv
    rename_i hr hg hv
    obtain rfl := hv sz ro xs hx
    refine .same inv (v := .pointer (some ⟨(c.mu r).1, (c.mu r).2 + i * sz + o + j.toNat * (L.T e).size, none⟩)) ?_ (.ref _ _ _ _ _ hr hg fun sz' ro' xs' hx' => ?_)
    · simp [Instr.indexAt, asIntOf, run_underlying hu, h0, hn, run_size ok hk, add_lit, Instr.sureAddr]
    · rw [hx] at hx'
      cases hx'
      simp only [Nat.add_assoc]
  · rename_i n e cs hT
    obtain ⟨d0, hu, hfit⟩ := ti_under (ok.ty t) (by rw [hT]; simp)
    rw [hT] at hfit
    obtain rfl : d0 = .array n e := hfit
    split at h
    case isFalse => cases h
    rename_i hh
    obtain ⟨hk, h0, hn⟩ := hh
    obtain rfl := Option.some.inj h
    have hv' := hv
    cases hv
    refine .same inv (v := .pointer (some ⟨_, _ + j.toNat * (L.T e).size, none⟩)) ?_ (box_drop hv')
    simp [Instr.indexAt, asIntOf, run_underlying hu, h0, hn, run_size ok hk, add_lit, Instr.sureAddr]
  · cases h

/-- An element of a text, or of an array by value. -/
def indexD (T : TypeId → TI) (t : TypeId) (d ix : D) : Option D := match ix with
  | .int _ j => match (T t).k, d with
    | .str, .str l => if 0 ≤ j ∧ j < l.length then some (.int .u8 (l.getD j.toNat 0).toNat) else none
    | .arr n e, .agg cs => if 0 ≤ j ∧ j < n then partD (T e) cs (j.toNat * (T e).size) else none
    | _, _ => none
  | _ => none
theorem index_ok {L : Lang} (ok : L.Ok) {c : Cx} (inv : Inv c) {t : TypeId} {v u : Value} {x ix d : D} (hv : Rep c v x) (hi : Rep c u ix) (h : indexD L.T t x ix = some d) :
    ValOk L.P c (Instr.index t v u) d c.hp := by
  unfold indexD at h
  split at h
  case h_2 => cases h
  rename_i k j
  cases hi
  split at h
  · rename_i l hT
    obtain ⟨d0, hu, hfit⟩ := ti_under (ok.ty t) (by rw [hT]; simp)
    rw [hT] at hfit
    obtain rfl : d0 = .string := hfit
    split at h
    case isFalse => cases h
    rename_i hh
    obtain rfl := Option.some.inj h
    cases hv
    rename_i s hs
    subst hs
    have hlt : j.toNat < s.data.toList.length := by omega
    have hlt' : j.toNat < s.size := by simpa using hlt
    have hg : s.data.toList.getD j.toNat 0 = s[j.toNat] := by
      have h2 : j.toNat < s.data.size := hlt'
      simp only [List.getD_eq_getElem?_getD, Array.getElem?_toList]
      rw [Array.getElem?_eq_getElem h2]
      rfl
    rw [hg]
    refine .same inv ?_ (.int _ _)
    simp only [Instr.index, asIntOf, Sem.run_bind, Sem.run_pure, Result.andThen_ok, run_underlying hu, hh.1, if_true]
    rw [show s[j.toNat]? = some s[j.toNat] from by simp [hlt']]
    rfl
  · rename_i n e cs hT
    obtain ⟨d0, hu, hfit⟩ := ti_under (ok.ty t) (by rw [hT]; simp)
    rw [hT] at hfit
    obtain rfl : d0 = .array n e := hfit
    split at h
    case isFalse => cases h
    rename_i hh
    obtain ⟨a, rfl⟩ : ∃ a, v = .agg a := by cases hv; exact ⟨_, rfl⟩
    refine (part_ok ok inv hv h).congr ?_
    simp [Instr.index, asIntOf, run_underlying hu, hh, run_size ok (partD_ag h).1]
  · cases h
end Go.Proofs.Ytejpgmemohchaaa.Vm
