/- Lengths, interfaces, tuples; and every operation that is no call of a function. -/
import Derived.Test.YtejpgmemohchaaaVmJ
set_option linter.unusedSimpArgs false
namespace Go.Proofs.Ytejpgmemohchaaa.Vm
open Go

def lenD (T : TypeId → TI) (H : Heap) (t : TypeId) (x : D) : Option D := match (T t).k, x with
  | .str, .str l => some (.int .i64 l.length)
  | .slice _, .slice r _ n g => if alive H r g = true then some (.int .i64 n) else none
  | .slice _, .isl _ xs => some (.int .i64 xs.length)
  | .slice _, .nilsl => some (.int .i64 0)
  | .slice _, .esl => some (.int .i64 0)
  | _, _ => none
theorem len_ok {L : Lang} (ok : L.Ok) {c : Cx} (inv : Inv c) {t ty : TypeId} {v : Value} {x d : D} (hv : Rep c v x) (h : lenD L.T c.hp t x = some d) : ValOk L.P c (Builtin.len_ #[t] ty #[v]) d c.hp := by
  have hslice : ∀ e, (L.T t).k = .slice e → L.P.underlying t = some (.slice e) := fun e hT => by
    obtain ⟨d0, hu, hf⟩ := ti_under (ok.ty t) (by rw [hT]; simp)
    rw [hT] at hf
    rw [hu, show d0 = .slice e from hf]
  unfold lenD at h
  split at h
  · rename_i l hT
    obtain rfl := Option.some.inj h
    obtain ⟨d0, hu, hf⟩ := ti_under (ok.ty t) (by rw [hT]; simp)
    rw [hT] at hf
    obtain rfl : d0 = .string := hf
    cases hv with
    | str s _ hs =>
    subst hs
    refine .same inv (v := .int .i64 s.size) ?_ (by simpa using Rep.int .i64 _)
    simp [Builtin.len_, run_underlying hu, goInt]
  · rename_i e r i n g hT
    split at h
    case isFalse => cases h
    rename_i ha
    obtain rfl := Option.some.inj h
    obtain ⟨sz, ro, xs, hx⟩ := alive_some ha
    cases hv with
    | slice _ _ _ _ _ hr hgg hv =>
    obtain ⟨a, cap, rfl, _⟩ := hv _ _ _ hx
    exact .same inv (v := .int .i64 n) (by simp [Builtin.len_, run_underlying (hslice e hT), goInt]) (.int _ _)
  · rename_i e sz xs hT
    obtain rfl := Option.some.inj h
    cases hv with
    | islnil => exact .same inv (v := .int .i64 0) (by simp [Builtin.len_, run_underlying (hslice e hT), goInt]) (.int _ _)
    | isl0 => exact .same inv (v := .int .i64 0) (by simp [Builtin.len_, run_underlying (hslice e hT), goInt]) (.int _ _)
    | isl b off n cap _ _ f hn => subst hn; exact .same inv (v := .int .i64 xs.length) (by simp [Builtin.len_, run_underlying (hslice e hT), goInt]) (.int _ _)
  · rename_i e hT
    obtain rfl := Option.some.inj h
    cases hv
    exact .same inv (v := .int .i64 0) (by simp [Builtin.len_, run_underlying (hslice e hT), goInt]) (.int _ _)
  · rename_i e hT
    obtain rfl := Option.some.inj h
    cases hv
    exact .same inv (v := .int .i64 0) (by simp [Builtin.len_, run_underlying (hslice e hT), goInt]) (.int _ _)
  · cases h

def bestD (mx : Bool) : D → List D → Option D
  | .int k x, [] => some (.int k x)
  | .int k x, .int _ y :: r => bestD mx (.int k (if mx then (if y > x then y else x) else (if y < x then y else x))) r
  | _, _ => none
theorem max_ok {P : Program} {c : Cx} : ∀ (ds : List D) (vs : List Value) (v : Value) (x d : D), Rep c v x → ds.length = vs.length → (∀ (i : Nat) (w : Value) (e : D), vs[i]? = some w → ds[i]? = some e → Rep c w e) → bestD true x ds = some d →
    ∃ u, (vs.foldlM Builtin.max2 v).run P c.w = .ok u c.w ∧ Rep c u d
  | [], vs, v, x, d, hv, hl, _, h => by
    obtain rfl : vs = [] := by cases vs <;> simp at hl ⊢
    cases x <;> simp only [bestD] at h <;> first | cases h | skip
    exact ⟨v, rfl, hv⟩
  | e :: ds, vs, v, x, d, hv, hl, hr, h => by
    cases vs with
    | nil => simp at hl
    | cons w vs =>
    have hw := hr 0 w e rfl rfl
    cases x <;> cases e <;> simp only [bestD] at h <;> first | (cases h; done) | skip
    rename_i k n k2 m
    cases hv
    cases hw
    obtain ⟨u, h1, h2⟩ := max_ok (P := P) ds vs (.int k (if m > n then m else n)) _ d (.int _ _) (by simpa using hl) (fun i w e hw he => hr (i + 1) w e (by simpa using hw) (by simpa using he)) h
    exact ⟨u, by simp only [List.foldlM_cons, Builtin.max2, Sem.run_bind, Sem.run_pure, Result.andThen_ok]; exact h1, h2⟩
theorem min_ok {P : Program} {c : Cx} : ∀ (ds : List D) (vs : List Value) (v : Value) (x d : D), Rep c v x → ds.length = vs.length → (∀ (i : Nat) (w : Value) (e : D), vs[i]? = some w → ds[i]? = some e → Rep c w e) → bestD false x ds = some d →
    ∃ u, (vs.foldlM Builtin.min2 v).run P c.w = .ok u c.w ∧ Rep c u d
  | [], vs, v, x, d, hv, hl, _, h => by
    obtain rfl : vs = [] := by cases vs <;> simp at hl ⊢
    cases x <;> simp only [bestD] at h <;> first | cases h | skip
    exact ⟨v, rfl, hv⟩
  | e :: ds, vs, v, x, d, hv, hl, hr, h => by
    cases vs with
    | nil => simp at hl
    | cons w vs =>
    have hw := hr 0 w e rfl rfl
    cases x <;> cases e <;> simp only [bestD] at h <;> first | (cases h; done) | skip
    rename_i k n k2 m
    cases hv
    cases hw
    obtain ⟨u, h1, h2⟩ := min_ok (P := P) ds vs (.int k (if m < n then m else n)) _ d (.int _ _) (by simpa using hl) (fun i w e hw he => hr (i + 1) w e (by simpa using hw) (by simpa using he)) h
    exact ⟨u, by simp only [List.foldlM_cons, Builtin.min2, Sem.run_bind, Sem.run_pure, Result.andThen_ok]; exact h1, h2⟩

def clearD (T : TypeId → TI) (H : Heap) (t : TypeId) (x : D) : Option Heap := match (T t).k, x with
  | .slice e, .slice r i n g => match H[r]? with
    | some (.cells g' sz false xs) => if g' = g ∧ sz = (T e).size ∧ (T e).k.known = true then some (H.set r (.cells g sz false (xs.take i ++ List.replicate n (T e).zero ++ xs.drop (i + n)))) else none
    | _ => none
  | .slice _, .nilsl => some H
  | .slice _, .esl => some H
  | _, _ => none
theorem clear_ok {L : Lang} (ok : L.Ok) {c : Cx} (inv : Inv c) {t ty : TypeId} {v : Value} {x : D} {H : Heap} (hv : Rep c v x) (h : clearD L.T c.hp t x = some H) : ValOk L.P c (Builtin.clear_ #[t] ty #[v]) (.tuple []) H := by
  have hslice : ∀ e, (L.T t).k = .slice e → L.P.underlying t = some (.slice e) := fun e hT => by
    obtain ⟨d0, hu, hf⟩ := ti_under (ok.ty t) (by rw [hT]; simp)
    rw [hT] at hf
    rw [hu, show d0 = .slice e from hf]
  have htup : ∀ c' : Cx, Rep c' (.tuple #[]) (.tuple []) := fun c' => .tuple _ _ rfl (fun i d hd => by simp at hd)
  unfold clearD at h
  split at h
  · rename_i e r i n g hT
    cases hx : c.hp[r]? with
    | none => simp [hx] at h
    | some k =>
    cases k with
    | gone g0 => simp [hx] at h
    | map g0 ro es => simp [hx] at h
    | cells g0 sz ro xs =>
    cases ro with
    | true => simp [hx] at h
    | false =>
    simp only [hx] at h
    split at h
    case isFalse => cases h
    rename_i hg
    obtain ⟨rfl, rfl, hk⟩ := hg
    obtain rfl := Option.some.inj h
    cases hv with
    | slice _ _ _ _ _ hr hgg hv =>
    obtain ⟨a, cap, rfl, q1, q2, q3, q4, q5, q6⟩ := hv _ _ _ hx
    obtain ⟨h0, cs, e0, fz, k1, k2, k3, k4, k5, k6, k7⟩ := inv.blk r _ hx
    obtain ⟨z, z1, z2, z3⟩ := zeros_hold ok c hk h0
    obtain ⟨y1, y2, y3⟩ := z3 n n (Nat.le_refl _)
    have hzc : Builtin.zeroCells z.cells n = (Array.range (n * (L.T e).size)).map (z.cells[· % z.cells.size]!) := by simp [Builtin.zeroCells, z2]
    by_cases hn : n = 0
    · subst hn
      have he : xs.take i ++ List.replicate 0 (L.T e).zero ++ xs.drop (i + 0) = xs := by simp
      rw [he]
      have hset : c.hp.set r (.cells g0 (L.T e).size false xs) = c.hp := by
        apply List.ext_getElem?
        intro j
        rw [List.getElem?_set]
        split
        · rename_i hj; subst hj; simp [hr] at hx ⊢; exact hx.symm
        · rfl
      rw [hset]
      exact .same inv (v := .tuple #[]) (by simp [Builtin.clear_, run_underlying (hslice e hT)]) (htup c)
    · obtain rfl := q4.resolve_right (by omega)
      have hmul : (i + n) * (L.T e).size ≤ xs.length * (L.T e).size := Nat.mul_le_mul_right _ q2
      rw [Nat.add_mul] at hmul
      have hzl : (Builtin.zeroCells z.cells n).toList.length = n * (L.T e).size := by rw [hzc]; simp
      have hget : ∀ j, (xs.take i ++ List.replicate n (L.T e).zero ++ xs.drop (i + n))[j]? = if i ≤ j ∧ j < i + n then some (L.T e).zero else xs[j]? := by
        intro j
        have ht : (xs.take i).length = i := by simp; omega
        by_cases h1 : j < i
        · rw [if_neg (by omega), List.append_assoc, List.getElem?_append_left (by omega), List.getElem?_take_of_lt h1]
        · by_cases h2 : j < i + n
          · rw [if_pos (by omega), List.append_assoc, List.getElem?_append_right (by omega), ht, List.getElem?_append_left (by simp; omega), List.getElem?_replicate, if_pos (by omega)]
          · rw [if_neg (by omega), List.getElem?_append_right (by simp; omega), List.getElem?_drop]
            congr 1
            simp
            omega
      have hzlen : (L.T e).zero.length = (L.T e).size := (y1 0 (L.T e).zero (by rw [List.getElem?_replicate, if_pos (by omega)])).1
      obtain ⟨c', w1, w2, w3, w4⟩ := set_ok inv (ys := xs.take i ++ List.replicate n (L.T e).zero ++ xs.drop (i + n)) (o := (c.mu r).2 + i * (L.T e).size) (vals := (Builtin.zeroCells z.cells n).toList) hx (by simp; omega) (by omega)
        (fun j y hj => by
          rw [hget] at hj
          split at hj
          · obtain rfl := Option.some.inj hj
            exact hzlen
          · exact (k4 _ y hj).1)
        (fun w hw => by
          obtain ⟨j, hj, rfl⟩ := List.getElem_of_mem hw
          have hj' : j < (Builtin.zeroCells z.cells n).size := by simpa using hj
          have := y2 j (by rw [← hzc]; exact hj')
          rw [← hzc] at this
          simpa [Array.getD_eq_getD_getElem?, hj'] using this)
        (fun cs' e' fz' hq => by
          rw [k1] at hq
          cases hq
          rw [hzl]
          omega)
        (fun j y p d hj hd => by
          rw [hget] at hj
          rw [hzl]
          split at hj
          · rename_i hjj
            obtain rfl := Option.some.inj hj
            have hp : p < (L.T e).size := by rw [← hzlen]; exact (List.getElem?_eq_some_iff.1 hd).1
            obtain ⟨m, rfl⟩ : ∃ m, j = i + m := ⟨j - i, by omega⟩
            have hm : (m + 1) * (L.T e).size ≤ n * (L.T e).size := Nat.mul_le_mul_right _ (by omega)
            rw [Nat.add_mul] at hm
            refine .inl ⟨by rw [Nat.add_mul]; omega, by rw [Nat.add_mul]; omega, ?_⟩
            rw [show (c.mu r).2 + (i + m) * (L.T e).size + p - ((c.mu r).2 + i * (L.T e).size) = m * (L.T e).size + p by rw [Nat.add_mul]; omega]
            have := (y1 m (L.T e).zero (by rw [List.getElem?_replicate, if_pos (by omega)])).2 p d hd
            rw [← hzc] at this
            simpa [List.getD_eq_getElem?_getD, Array.getD_eq_getD_getElem?] using this
          · rename_i hjj
            refine .inr ⟨fun ⟨s1, s2⟩ => ?_, y, hj, hd⟩
            have hp : p < (L.T e).size := by rw [← (k4 _ y hj).1]; exact (List.getElem?_eq_some_iff.1 hd).1
            have hmj : (j + 1) * (L.T e).size ≤ i * (L.T e).size ∨ (i + n) * (L.T e).size ≤ j * (L.T e).size := by
              rcases Nat.lt_or_ge j i with hlt | hge
              · exact .inl (Nat.mul_le_mul_right _ hlt)
              · exact .inr (Nat.mul_le_mul_right _ (by omega))
            rw [Nat.add_mul, Nat.add_mul] at hmj
            omega) L.P
      refine ⟨.tuple #[], c', ?_, w2, w3, w4, htup c'⟩
      obtain ⟨m, rfl⟩ : ∃ m, n = m + 1 := ⟨n - 1, by omega⟩
      simp [Builtin.clear_, run_underlying (hslice e hT), z1, w1]
  · rename_i e hT
    obtain rfl := Option.some.inj h
    cases hv
    exact .same inv (v := .tuple #[]) (by simp [Builtin.clear_, run_underlying (hslice e hT)]) (htup c)
  · rename_i e hT
    obtain rfl := Option.some.inj h
    cases hv with
    | esl a => exact .same inv (v := .tuple #[]) (by cases a <;> simp [Builtin.clear_, run_underlying (hslice e hT)]) (htup c)
  · cases h

/-! ### interfaces and tuples -/
def notIface : K → Bool
  | .other | .iface => false
  | _ => true
def ifaceD (T : TypeId → TI) (t : TypeId) (x : D) : Option D := if notIface (T t).k = true then some (.iface t x) else none
theorem notIface_ne {L : Lang} (ok : L.Ok) {t : TypeId} (h : notIface (L.T t).k = true) : ∃ d, L.P.underlying t = some d ∧ ∀ ms, d ≠ .interface ms := by
  obtain ⟨d, hu, hf⟩ := ti_under (ok.ty t) (by intro e; rw [e] at h; cases h)
  refine ⟨d, hu, fun ms e => ?_⟩
  subst e
  cases hK : (L.T t).k <;> rw [hK] at hf h <;> simp only [K.fits] at hf <;> first | (cases h; done) | (cases hf; done) | (obtain ⟨_, h1, _⟩ := hf; cases h1; done) | (obtain ⟨_, _, _, h1⟩ := hf; cases h1; done)
theorem iface_ok {L : Lang} (ok : L.Ok) {c : Cx} (inv : Inv c) {t : TypeId} {v : Value} {x d : D} (hv : Rep c v x) (h : ifaceD L.T t x = some d) : ValOk L.P c (Instr.makeInterface t v) d c.hp := by
  unfold ifaceD at h
  split at h
  case isFalse => cases h
  rename_i hk
  obtain rfl := Option.some.inj h
  obtain ⟨d, hu, hne⟩ := notIface_ne ok hk
  refine .same inv (v := .iface t v) ?_ (.iface _ _ _ hv)
  cases d <;> first | exact absurd rfl (hne _) | simp [Instr.makeInterface, run_underlying hu]
def zeroD (ti : TI) : Option D := if ti.k.isAg = true then some (.agg ti.zero) else ti.zero[0]?
theorem zeroD_ok {L : Lang} (ok : L.Ok) (c : Cx) {t : TypeId} (hk : (L.T t).k.known = true) {d : D} (h : zeroD (L.T t) = some d) : ∃ z, (zeroValue t).run L.P c.w = .ok z c.w ∧ Rep c z d := by
  obtain ⟨i, z, ds, h1, h2, _, h4, h5, h6, h7, h8, h9, h10, _⟩ := ti_some (ok.ty t) (known_ne hk)
  refine ⟨z, by simp [zeroValue, typeInfo, h1, h4], ?_⟩
  have hag := fits_ag hk h9
  unfold zeroD at h
  split at h
  · rename_i ha
    obtain rfl := Option.some.inj h
    obtain ⟨a, rfl⟩ := h10.1 (by rw [hag]; exact ha)
    refine .agg _ _ h5 (fun j hj => ?_) (fun j x hx => zm_rep (h7 j x hx))
    exact zm_one (h7 j _ (List.getElem?_eq_getElem (by simp only [Value.cells] at h5; omega)))
  · rename_i ha
    have hna : ¬ ∃ a, z = .agg a := fun hq => ha (by rw [← hag]; exact h10.2 hq)
    have hc : z.cells = #[z] := by
      cases z <;> first | rfl | exact absurd ⟨_, rfl⟩ hna
    have := zm_rep (c := c) (h7 0 d h)
    rw [hc] at this
    exact this
def assertD (T : TypeId → TI) (x : D) (t : TypeId) (cok : Bool) : Option D := if notIface (T t).k = true then
    match x with
    | .iface u d => if u = t then some (if cok then .tuple [d, .bool true] else d) else if cok then (zeroD (T t)).map fun z => .tuple [z, .bool false] else none
    | .niliface => if cok then (zeroD (T t)).map fun z => .tuple [z, .bool false] else none
    | _ => none
  else none
theorem rep_two {c : Cx} {u v : Value} {x y : D} (hu : Rep c u x) (hv : Rep c v y) : Rep c (.tuple #[u, v]) (.tuple [x, y]) := by
  refine .tuple _ _ rfl fun i d hd => ?_
  cases i with
  | zero => simp at hd; subst hd; exact hu
  | succ i =>
    cases i with
    | zero => simp at hd; subst hd; exact hv
    | succ i => simp at hd
theorem assert_ok {L : Lang} (ok : L.Ok) {c : Cx} (inv : Inv c) {t xt : TypeId} {v : Value} {x d : D} {cok : Bool} (hv : Rep c v x) (h : assertD L.T x t cok = some d) : ValOk L.P c (Instr.typeAssert v xt t cok) d c.hp := by
  unfold assertD at h
  split at h
  case isFalse => cases h
  rename_i hk
  obtain ⟨ds, hu, hne⟩ := notIface_ne ok hk
  have hkn : (L.T t).k.known = true := by cases hK : (L.T t).k <;> rw [hK] at hk <;> first | rfl | cases hk
  cases x with
  | iface u e =>
    simp only at h
    cases hv with
    | iface _ v _ hv =>
    by_cases hut : u = t
    · subst hut
      rw [if_pos rfl] at h
      obtain rfl := Option.some.inj h
      cases cok
      · refine .same inv (v := v) ?_ hv
        cases ds <;> first | exact absurd rfl (hne _) | simp [Instr.typeAssert, run_underlying hu]
      · refine .same inv (v := .tuple #[v, .bool true]) ?_ (rep_two hv (.bool true))
        cases ds <;> first | exact absurd rfl (hne _) | simp [Instr.typeAssert, run_underlying hu]
    · rw [if_neg hut] at h
      cases cok
      · cases h
      · obtain ⟨z, hz, rfl⟩ := Option.map_eq_some_iff.1 h
        obtain ⟨zv, r1, r2⟩ := zeroD_ok ok c hkn hz
        refine .same inv (v := .tuple #[zv, .bool false]) ?_ (rep_two r2 (.bool false))
        cases ds <;> first | exact absurd rfl (hne _) | simp [Instr.typeAssert, run_underlying hu, hut, r1]
  | niliface =>
    simp only at h
    cases hv
    cases cok
    · cases h
    · obtain ⟨z, hz, rfl⟩ := Option.map_eq_some_iff.1 h
      obtain ⟨zv, r1, r2⟩ := zeroD_ok ok c hkn hz
      refine .same inv (v := .tuple #[zv, .bool false]) ?_ (rep_two r2 (.bool false))
      cases ds <;> first | exact absurd rfl (hne _) | simp [Instr.typeAssert, run_underlying hu, r1]
  | _ => simp at h
def extractD (x : D) (i : Nat) : Option D := match x with
  | .tuple ds => ds[i]?
  | _ => none
theorem extract_ok {P : Program} {c : Cx} (inv : Inv c) {v : Value} {x d : D} {i : Nat} (hv : Rep c v x) (h : extractD x i = some d) : ValOk P c (Instr.extract v i) d c.hp := by
  cases x with
  | tuple ds =>
    simp only [extractD] at h
    cases hv with
    | tuple a _ ha hh =>
    have hi : i < a.size := by rw [ha]; exact (List.getElem?_eq_some_iff.1 h).1
    exact .same inv (by simp only [Instr.extract, getD_lt (x := undef) hi, Sem.run_pure]) (hh _ _ h)
  | _ => simp [extractD] at h
def nilD (H : Heap) (x : D) : Option D := match x with
  | .ref r _ _ g => if alive H r g = true then some x else none
  | .box _ => some x
  | .func (.func _) _ _ => some x
  | _ => none
end Go.Proofs.Ytejpgmemohchaaa.Vm
