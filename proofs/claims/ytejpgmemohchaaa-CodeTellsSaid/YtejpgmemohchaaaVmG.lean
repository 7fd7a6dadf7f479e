/- Slices: made, written out, cut, grown; texts and bytes. -/
import Derived.Test.YtejpgmemohchaaaVmF
set_option linter.unusedSimpArgs false
namespace Go.Proofs.Ytejpgmemohchaaa.Vm
open Go

/-! ### rows written out -/
def rowsD (H : Heap) (sz : Nat) : List (List D) → List (Nat × D) → Option (List (List D))
  | xs, [] => some xs
  | xs, (i, v) :: r => match cellsD H v with
    | some vs => if vs.length = sz ∧ i < xs.length then rowsD H sz (xs.set i vs) r else none
    | none => none
theorem fillRows_ok {c : Cx} {sz : Nat} : ∀ (ps : List (Nat × D)) (us : List (Nat × Value)) (xs out : List (List D)) (cells : Array Value),
    us.map (·.1) = ps.map (·.1) → (∀ (k : Nat) (u : Nat × Value) (p : Nat × D), us[k]? = some u → ps[k]? = some p → Rep c u.2 p.2) → cells.size = xs.length * sz → Holds c cells sz xs →
    rowsD c.hp sz xs ps = some out → ∃ res, Instr.fill (fun i => some (i * sz, sz)) cells us = some res ∧ res.size = xs.length * sz ∧ Holds c res sz out ∧ out.length = xs.length
  | [], us, xs, out, cells, hm, _, h1, h2, h => by
    obtain rfl : us = [] := by simpa using hm
    simp only [rowsD, Option.some.injEq] at h
    subst h
    exact ⟨cells, rfl, h1, h2, rfl⟩
  | (i, p) :: ps, us, xs, out, cells, hm, hr, h1, h2, h => by
    cases us with
    | nil => simp at hm
    | cons u us =>
    obtain ⟨j, u⟩ := u
    simp only [List.map_cons, List.cons.injEq] at hm
    obtain ⟨rfl, hm⟩ := hm
    simp only [rowsD] at h
    cases hc : cellsD c.hp p with
    | none => simp [hc] at h
    | some vs =>
    simp only [hc] at h
    by_cases hh : vs.length = sz ∧ j < xs.length
    case neg => rw [if_neg hh] at h; cases h
    rw [if_pos hh] at h
    obtain ⟨hl, hj⟩ := hh
    have hu : Rep c u p := hr 0 (j, u) (j, p) rfl rfl
    obtain ⟨c1, c2, c3⟩ := cells_ok hu hc
    obtain ⟨out', e1, e2, e3⟩ := foldl_set u.cells (j * sz) cells
    have hmul : (j + 1) * sz ≤ xs.length * sz := Nat.mul_le_mul_right _ hj
    rw [Nat.add_mul] at hmul
    obtain ⟨g1, g2, g3⟩ := h2
    have ih := fillRows_ok ps us (xs.set j vs) out out' hm (fun k u p hk hq => hr (k + 1) u p (by simpa using hk) (by simpa using hq)) (by rw [e2, h1]; simp)
      ⟨fun i x hx => by
        rw [List.getElem?_set] at hx
        by_cases hij : j = i
        · subst hij
          simp [hj] at hx
          subst hx
          refine ⟨hl, fun o d hd => ?_⟩
          have ho : o < vs.length := (List.getElem?_eq_some_iff.1 hd).1
          rw [e3 _ (by omega), if_pos (by omega), show j * sz + o - j * sz = o by omega]
          exact c3 _ _ hd
        · rw [if_neg hij] at hx
          refine ⟨(g1 i x hx).1, fun o d hd => ?_⟩
          have ho : o < sz := by rw [← (g1 i x hx).1]; exact (List.getElem?_eq_some_iff.1 hd).1
          have hi : i < xs.length := (List.getElem?_eq_some_iff.1 hx).1
          have hmi : (i + 1) * sz ≤ xs.length * sz := Nat.mul_le_mul_right _ hi
          have hmj : (i + 1) * sz ≤ j * sz ∨ (j + 1) * sz ≤ i * sz := by
            rcases Nat.lt_or_ge i j with hlt | hge
            · exact .inl (Nat.mul_le_mul_right _ hlt)
            · exact .inr (Nat.mul_le_mul_right _ (by omega))
          rw [Nat.add_mul] at hmi
          rw [Nat.add_mul, Nat.add_mul] at hmj
          rw [e3 _ (by omega), if_neg (by omega)]
          exact (g1 i x hx).2 o d hd,
       fun k hk => by
        rw [e3 k (by omega)]
        split
        · exact c2 _ (by omega)
        · exact g2 k (by omega),
       by simp [e2, h1]⟩ h
    obtain ⟨res, f1, f2, f3, f4⟩ := ih
    refine ⟨res, ?_, by simpa using f2, f3, by simpa using f4⟩
    simp only [Instr.fill]
    rw [if_neg (by simp only [Bool.or_eq_true, decide_eq_true_eq]; omega), e1]
    exact f1
theorem zeros_hold {L : Lang} (ok : L.Ok) (c : Cx) {t : TypeId} (hk : (L.T t).k.known = true) (h0 : 0 < (L.T t).size) : ∃ z, (∀ w, (zeroValue t).run L.P w = .ok z w) ∧ z.cells.size = (L.T t).size ∧
    ∀ n m, m ≤ n → Holds c ((Array.range (n * (L.T t).size)).map (z.cells[· % z.cells.size]!)) (L.T t).size (List.replicate m (L.T t).zero) := by
  obtain ⟨z, z1, z2, z3, z4, z5⟩ := zero_holds ok c hk
  refine ⟨z, z1, z2, fun n m hm => ⟨fun i x hx => ?_, fun k hk => ?_, ?_⟩⟩
  · obtain ⟨hi, rfl⟩ : i < m ∧ x = (L.T t).zero := by
      rw [List.getElem?_replicate] at hx
      split at hx
      · exact ⟨by assumption, (Option.some.inj hx).symm⟩
      · cases hx
    refine ⟨z3, fun o d hd => ?_⟩
    have ho : o < (L.T t).size := by rw [← z3]; exact (List.getElem?_eq_some_iff.1 hd).1
    have hmi : (i + 1) * (L.T t).size ≤ n * (L.T t).size := Nat.mul_le_mul_right _ (by omega)
    rw [Nat.add_mul] at hmi
    have hmod : (i * (L.T t).size + o) % (L.T t).size = o := by rw [Nat.add_comm, Nat.add_mul_mod_self_right]; exact Nat.mod_eq_of_lt ho
    have hbang : z.cells[o]! = z.cells.getD o undef := by
      rw [getElem!_pos z.cells o (by omega)]
      simp [Array.getD_eq_getD_getElem?, show o < z.cells.size by omega]
    have := z5 o d hd
    rw [← hbang] at this
    simpa [Array.getD_eq_getD_getElem?, show i * (L.T t).size + o < n * (L.T t).size by omega, z2, hmod] using this
  · simp at hk
    have hlt : k % (L.T t).size < z.cells.size := by rw [z2]; exact Nat.mod_lt _ h0
    have hbang : z.cells[k % (L.T t).size]! = z.cells.getD (k % (L.T t).size) undef := by
      rw [getElem!_pos z.cells _ hlt]
      simp [Array.getD_eq_getD_getElem?, hlt]
    have := z4 _ hlt
    rw [← hbang] at this
    simpa [Array.getD_eq_getD_getElem?, hk, z2] using this
  · simp
    exact Nat.mul_le_mul_right _ hm

def buildSliceD (T : TypeId → TI) (H : Heap) (t : TypeId) (len : Nat) (ps : List (Nat × D)) : Option (D × Heap) := match (T t).k with
  | .slice e => if (T e).k.known = true ∧ 0 < (T e).size ∧ len * (T e).size ≤ 16777216 then
      (rowsD H (T e).size (List.replicate len (T e).zero) ps).map fun xs => (.slice H.length 0 len 0, H ++ [.cells 0 (T e).size false xs])
    else none
  | _ => none
theorem slice_newG (gn : Nat) {c : Cx} {m : Nat × Nat} {w : World} {sz n cap : Nat} {xs : List (List D)} (hn : xs.length = n) (hcap : n ≤ cap) (hb : m.2 + cap * sz ≤ bsize w m.1) (hmax : cap ≤ maxLen) :
    Rep (c.push (.cells gn sz false xs) m w) (.slice (some ⟨m.1, m.2, none⟩) n cap) (.slice c.hp.length 0 n gn) := by
  refine .slice _ _ _ _ _ (by simp [Cx.push]) (by simp [Cx.push, ng, Blk.next]) fun sz' ro' xs' hx => ?_
  simp only [Cx.push, List.getElem?_append_right (Nat.le_refl _), Nat.sub_self, List.getElem?_cons_zero, Option.some.injEq, Blk.cells.injEq] at hx
  obtain ⟨_, rfl, _, rfl⟩ := hx
  exact ⟨_, cap, rfl, hcap, by omega, by omega, .inl (by simp [Cx.push, upd_same]), by simp only [Cx.push, upd_same, Nat.zero_add]; exact hb, hmax⟩
theorem slice_new {c : Cx} {m : Nat × Nat} {w : World} {sz n cap : Nat} {xs : List (List D)} (hn : xs.length = n) (hcap : n ≤ cap) (hb : m.2 + cap * sz ≤ bsize w m.1) (hmax : cap ≤ maxLen) :
    Rep (c.push (.cells 0 sz false xs) m w) (.slice (some ⟨m.1, m.2, none⟩) n cap) (.slice c.hp.length 0 n 0) := slice_newG 0 hn hcap hb hmax
theorem bsize_alloc {w : World} {arr : Array Value} {e : TypeId} {w' : World} {fz : Nat × Nat} (h : w'.heap = w.heap.push (.cells arr e fz)) : bsize w' w.heap.size = arr.size := by
  simp [bsize, h]
theorem buildSlice_ok {L : Lang} (ok : L.Ok) {c : Cx} (inv : Inv c) {t : TypeId} {len : Nat} {us : Array (Nat × Value)} {ps : List (Nat × D)} {d : D} {H : Heap} (hm : us.toList.map (·.1) = ps.map (·.1))
    (hr : ∀ (k : Nat) (u : Nat × Value) (p : Nat × D), us.toList[k]? = some u → ps[k]? = some p → Rep c u.2 p.2) (h : buildSliceD L.T c.hp t len ps = some (d, H)) : ValOk L.P c (Instr.buildSlice t len us) d H := by
  unfold buildSliceD at h
  split at h
  case h_2 => cases h
  rename_i e hT
  obtain ⟨d0, hu, hfit⟩ := ti_under (ok.ty t) (by rw [hT]; simp)
  rw [hT] at hfit
  obtain rfl : d0 = .slice e := hfit
  split at h
  case isFalse => cases h
  rename_i hh
  obtain ⟨hk, h0, hlim⟩ := hh
  obtain ⟨xs, hx, he⟩ := Option.map_eq_some_iff.1 h
  obtain ⟨rfl, rfl⟩ := Prod.mk.inj he
  obtain ⟨z, z1, z2, z3⟩ := zeros_hold ok c hk h0
  have h2 : ¬ (len * (L.T e).size > 2 ^ 24) := by omega
  have hmax : len ≤ maxLen := by
    have : len * 1 ≤ len * (L.T e).size := Nat.mul_le_mul_left _ h0
    simp only [maxLen]
    omega
  obtain ⟨res, r1, r2, r3, r4⟩ := fillRows_ok ps us.toList (List.replicate len (L.T e).zero) xs _ hm hr (by simp) (z3 len len (Nat.le_refl _)) hx
  obtain ⟨i1, l1⟩ := new_ok inv (w' := c.w.alloc (.cells res e)) (e := e) (fz := (0, 0)) rfl rfl rfl rfl (fun o _ ⟨_, h⟩ => by simp at h) h0 r3
  simp only [List.length_replicate] at r2 r4
  refine ⟨.slice (some ⟨c.w.heap.size, 0, none⟩) len len, _, ?_, rfl, i1, l1, slice_new r4 (Nat.le_refl _) ?_ hmax⟩
  · simp only [Instr.buildSlice, Sem.run_bind, run_underlying hu, Result.andThen_ok, run_size ok hk, if_neg h2, Sem.run_pure, Sem.run_ite]
    by_cases hl0 : len * (L.T e).size = 0
    · have hl : len = 0 := by rcases Nat.mul_eq_zero.1 hl0 with h | h <;> omega
      subst hl
      simp only [Nat.zero_mul] at r1
      simp only [Nat.zero_mul, if_true, Result.andThen_ok]
      rw [show ((Array.range 0).map ((#[] : Array Value)[· % (#[] : Array Value).size]!)) = ((Array.range 0).map (z.cells[· % z.cells.size]!)) from by simp, r1]
      simp [run_newRow]
      rfl
    · simp only [hl0, if_false, z1, Result.andThen_ok, Sem.run_bind, Sem.run_pure, r1, run_newRow]
      rfl
  · rw [bsize_alloc (w := c.w) (arr := res) (e := e) (fz := (0, 0)) rfl]
    omega

def makeSliceD (T : TypeId → TI) (H : Heap) (t : TypeId) (len cap : D) : Option (D × Heap) := match (T t).k, len, cap with
  | .slice e, .int _ l, .int _ m => if (T e).k.known = true ∧ 0 < (T e).size ∧ 0 ≤ l ∧ l ≤ m ∧ m ≤ 140737488355328 ∧ (T e).bytes * m ≤ 140737488355328 then
      some (.slice H.length 0 l.toNat 0, H ++ [.cells 0 (T e).size false (List.replicate l.toNat (T e).zero)])
    else none
  | _, _, _ => none
theorem wrap64_id {n : Int} (h0 : 0 ≤ n) (h1 : n ≤ 140737488355328) : IntKind.i64.wrap n = n := by
  have e1 : (2 : Int) ^ IntKind.i64.bits = 18446744073709551616 := by simp [IntKind.bits]
  have e2 : (2 : Int) ^ (IntKind.i64.bits - 1) = 9223372036854775808 := by simp [IntKind.bits]
  have hm : n % 18446744073709551616 = n := by omega
  unfold IntKind.wrap
  simp only [e1, e2, hm]
  rw [if_neg]
  simp
  omega
theorem makeSlice_ok {L : Lang} (ok : L.Ok) {c : Cx} (inv : Inv c) {t : TypeId} {u v : Value} {x y d : D} {H : Heap} (hu0 : Rep c u x) (hv0 : Rep c v y) (h : makeSliceD L.T c.hp t x y = some (d, H)) :
    ValOk L.P c (Instr.makeSlice t u v) d H := by
  unfold makeSliceD at h
  split at h
  case h_2 => cases h
  rename_i e _ l _ m hT
  obtain ⟨d0, hu, hfit⟩ := ti_under (ok.ty t) (by rw [hT]; simp)
  rw [hT] at hfit
  obtain rfl : d0 = .slice e := hfit
  split at h
  case isFalse => cases h
  rename_i hh
  obtain ⟨hk, h0, hl0, hlm, hm1, hm2⟩ := hh
  obtain ⟨rfl, rfl⟩ := Prod.mk.inj (Option.some.inj h)
  cases hu0
  cases hv0
  obtain ⟨i, hi, _, hi2, hi3⟩ := run_info ok hk c.w
  obtain ⟨z, z1, z2, z3⟩ := zeros_hold ok c hk h0
  obtain ⟨i1, l1⟩ := new_ok inv (w' := c.w.alloc (.cells ((Array.range (m.toNat * (L.T e).size)).map (z.cells[· % z.cells.size]!)) e)) (e := e) (fz := (0, 0)) rfl rfl rfl rfl (fun o _ ⟨_, h⟩ => by simp at h) h0 (z3 m.toNat l.toNat (by omega))
  refine ⟨.slice (some ⟨c.w.heap.size, 0, none⟩) l.toNat m.toNat, _, ?_, rfl, i1, l1, slice_new (by simp) (by omega) ?_ (by simp only [maxLen]; omega)⟩
  · have hw1 := wrap64_id (n := l) hl0 (by omega)
    have hw2 := wrap64_id (n := m) (by omega) hm1
    have c1 : ¬ ((i.bytes : Int) * m > 2 ^ 48) := by rw [hi3]; omega
    simp only [Instr.makeSlice, Sem.run_bind, run_underlying hu, Result.andThen_ok, asInt, asIntOf, Sem.run_pure, hi, hw1, hw2, Sem.run_ite, run_size ok hk]
    rw [if_neg (by simp only [Bool.or_eq_true, decide_eq_true_eq]; omega)]
    simp only [Sem.run_bind, run_askRoom, Result.andThen_ok, run_size ok hk]
    by_cases hz : m.toNat * (L.T e).size = 0
    · have hmz : m.toNat = 0 := by rcases Nat.mul_eq_zero.1 hz with h | h <;> omega
      simp only [hmz, Nat.zero_mul, if_true, Sem.run_pure, Result.andThen_ok, run_newRow]
      have he : ∀ f g : Nat → Value, (Array.range 0).map f = (Array.range 0).map g := fun f g => by simp
      rw [he _ (z.cells[· % z.cells.size]!)]
      rfl
    · simp only [hz, if_false, z1, Result.andThen_ok, Sem.run_bind, Sem.run_pure, run_newRow]
      rfl
  · rw [bsize_alloc (w := c.w) (arr := (Array.range (m.toNat * (L.T e).size)).map (z.cells[· % z.cells.size]!)) (e := e) (fz := (0, 0)) rfl]
    simp
end Go.Proofs.Ytejpgmemohchaaa.Vm
