/- bytealg.Compare, the model's own, on plain values. -/
import Derived.Test.YtejpgmemohchaaaVmY
import Derived.Lib.BytesEntry
set_option linter.unusedSimpArgs false
namespace Go.Proofs.Ytejpgmemohchaaa.Vm
open Go

def u8Of : List D → Int
  | [.int .u8 m] => m
  | _ => 0
theorem load_bytes {P : Program} {w : World} {a : Addr} {n : Nat} {ys : List (List D)} {l : List UInt8} (hl : bytesD ys = some l) (hn : n = ys.length)
    (h : ∀ (i : Nat) (y : List D), ys[i]? = some y → ∀ m, y = [D.int IntKind.u8 m] → w.cell? (a.add i) = some (.int .u8 m)) : ∃ s, (Extern.Bytes.loadBytes a n .empty).run P w = .ok s w ∧ s.data.toList = l := by
  subst hn
  obtain ⟨b1, b2⟩ := bytesD_get hl
  have hx : ∃ xs : List Int, xs.length = ys.length ∧ ∀ (i : Nat) (y : List D), ys[i]? = some y → ∃ m, xs[i]? = some m ∧ y = [D.int IntKind.u8 m] := by
    refine ⟨ys.map u8Of, by simp, fun i y hy => ?_⟩
    obtain ⟨m, e1, e2⟩ := b2 i y hy
    subst e1
    exact ⟨m, by simp [hy, u8Of], rfl⟩
  obtain ⟨xs, x1, x2⟩ := hx
  have hb : Lib.bytesOf xs = l := by
    apply List.ext_getElem?
    intro i
    unfold Lib.bytesOf
    by_cases hi : i < ys.length
    · obtain ⟨m, e1, e2⟩ := b2 i _ (List.getElem?_eq_getElem hi)
      obtain ⟨m', e3, e4⟩ := x2 i _ (List.getElem?_eq_getElem hi)
      rw [e1] at e4
      simp only [List.cons.injEq, D.int.injEq, true_and, and_true] at e4
      subst e4
      rw [List.getElem?_map, e3, e2]
      rfl
    · rw [List.getElem?_eq_none (by simp; omega), List.getElem?_eq_none (by omega)]
  refine ⟨⟨ByteArray.empty.data ++ (Lib.bytesOf xs).toArray⟩, ?_, ?_⟩
  · rw [← x1]
    refine Lib.run_loadBytesX w xs a .empty (fun j x hj => ?_)
    have hj' : j < ys.length := by rw [← x1]; exact (List.getElem?_eq_some_iff.1 hj).1
    obtain ⟨m, e3, e4⟩ := x2 j _ (List.getElem?_eq_getElem hj')
    rw [hj] at e3
    obtain rfl := Option.some.inj e3
    exact h j _ (List.getElem?_eq_getElem hj') _ e4
  · simp [hb]
theorem bytes_run {c : Cx} (inv : Inv c) {P : Program} {v : Value} {x : D} {ys : List (List D)} {l : List UInt8} (hv : Rep c v x) (hy : elemsS c.hp 1 x = some ys) (hl : bytesD ys = some l) :
    ∃ s, (Extern.Bytes.bytesOf v).run P c.w = .ok s c.w ∧ s.data.toList = l := by
  cases x with
  | slice r i n g =>
    simp only [elemsS, elemsD] at hy
    cases hx : c.hp[r]? with
    | none => simp [hx] at hy
    | some k =>
    cases k with
    | gone g0 => simp [hx] at hy
    | map g0 ro es => simp [hx] at hy
    | cells g0 sz0 ro xs =>
    simp only [hx] at hy
    by_cases hg : g0 = g ∧ sz0 = 1
    case neg => rw [if_neg hg] at hy; cases hy
    rw [if_pos hg] at hy
    obtain ⟨rfl, rfl⟩ := hg
    obtain rfl := Option.some.inj hy
    cases hv with
    | slice _ _ _ _ _ hr hgg hv =>
    obtain ⟨a, cap, rfl, q1, q2, q3, q4, q5, q6⟩ := hv _ _ _ hx
    obtain ⟨_, cs, e, fz, k1, k2, _, k4, _, _, k7⟩ := inv.blk r _ hx
    have hlen : ((xs.drop i).take n).length = n := by simp; omega
    simp only [Extern.Bytes.bytesOf]
    refine load_bytes hl hlen.symm (fun j y hj m hm => ?_)
    have hn : j < n := by rw [← hlen]; exact (List.getElem?_eq_some_iff.1 hj).1
    have ha : a = ⟨(c.mu r).1, (c.mu r).2 + i * 1, none⟩ := q4.resolve_right (by omega)
    subst ha
    rw [List.getElem?_take, if_pos hn, List.getElem?_drop] at hj
    have := (k4 _ y hj).2 0 (.int .u8 m) (by rw [hm]; rfl)
    rw [add_lit]
    unfold World.cell?
    simp only [k1]
    have hb : (c.mu r).2 + i * 1 + j < cs.size := by omega
    have hg := getD_lt (x := undef) hb
    rw [if_neg (by decide)]
    change cs[(c.mu r).2 + i * 1 + j]? = _
    rw [hg]
    rw [show (c.mu r).2 + (i + j) * 1 + 0 = (c.mu r).2 + i * 1 + j by omega] at this
    generalize cs.getD ((c.mu r).2 + i * 1 + j) undef = q at this ⊢
    cases this
    rfl
  | isl sz xs =>
    simp only [elemsS, elemsD] at hy
    split at hy
    case isFalse => cases hy
    rename_i he
    subst he
    obtain rfl := Option.some.inj hy
    cases hv with
    | islnil =>
      simp only [bytesD, Option.some.injEq] at hl
      subst hl
      exact ⟨_, rfl, rfl⟩
    | isl0 _ a cap =>
      simp only [bytesD, Option.some.injEq] at hl
      subst hl
      exact ⟨_, rfl, rfl⟩
    | isl b off n cap _ _ f hn hcap him hs hc h1 hh =>
      simp only [Extern.Bytes.bytesOf]
      refine load_bytes hl hn (fun j y hj m hm => ?_)
      have h0 := hc j y 0 (.int .u8 m) hj (by rw [hm]; rfl)
      have h2 := hh j y 0 (.int .u8 m) hj (by rw [hm]; rfl)
      rw [add_lit]
      rw [show off + j * 1 + 0 = off + j by omega] at h0
      rw [h0]
      generalize f (j * 1 + 0) = q at h2 ⊢
      cases h2
      rfl
  | nilsl =>
    obtain rfl := Option.some.inj hy
    simp only [bytesD, Option.some.injEq] at hl
    subst hl
    cases hv
    exact ⟨_, rfl, rfl⟩
  | esl =>
    obtain rfl := Option.some.inj hy
    simp only [bytesD, Option.some.injEq] at hl
    subst hl
    cases hv with
    | esl a => cases a <;> exact ⟨_, rfl, rfl⟩
  | _ => simp [elemsS, elemsD] at hy

/-- The entry: which of two stands ahead. -/
theorem cmp_ext {L : Lang} {g : FuncId} {fn : Func} (hf : L.P.funcs[g]? = some fn) (hname : (fn.name == "runtime.NumGoroutine") = false) (hb : fn.body.isNone = true) (hn : Extern.findNext fn = none) (he : Extern.find fn = some Extern.BytealgCompare.compare)
    {H : Heap} {x y : D} {xs ys : List (List D)} {a b : List UInt8} (hx : elemsS H 1 x = some xs) (ha : bytesD xs = some a) (hy : elemsS H 1 y = some ys) (hb' : bytesD ys = some b) :
    ExtV L g [x, y] H (.int .i64 (Lib.compareBytes a b)) := by
  intro c vs inv hH _ hsz hv
  subst hH
  have h0 := hv 0 x rfl
  have h1 := hv 1 y rfl
  simp only [List.length_cons, List.length_nil] at hsz
  obtain ⟨v0, v1, rfl⟩ : ∃ v0 v1, vs = #[v0, v1] := by
    obtain ⟨l⟩ := vs
    match l, hsz with
    | [v0, v1], _ => exact ⟨v0, v1, rfl⟩
  obtain ⟨s, s1, s2⟩ := bytes_run (P := L.P) inv h0 hx ha
  obtain ⟨t, t1, t2⟩ := bytes_run (P := L.P) inv h1 hy hb'
  refine ⟨.int .i64 (Lib.compareBytes a b), ?_, .int _ _⟩
  rw [run_callFunc_extern hf hname hb hn he]
  have : (Extern.BytealgCompare.compare #[v0, v1]).run L.P c.w = .ok (.int .i64 (Lib.compareBytes a b)) c.w := by
    change Sem.run L.P (do pure (goInt (Extern.BytealgCompare.cmp (← Extern.Bytes.bytesOf v0) (← Extern.Bytes.bytesOf v1)))) c.w = _
    simp only [Array.getD_eq_getD_getElem?] at s1 t1
    have s1' : (Extern.Bytes.bytesOf v0).run L.P c.w = .ok s c.w := s1
    have t1' : (Extern.Bytes.bytesOf v1).run L.P c.w = .ok t c.w := t1
    simp only [Sem.run_bind, s1', t1', Sem.run_pure, Result.andThen]
    rw [Lib.cmp_eq, s2, t2]
    rfl
  rw [this]
  rfl
end Go.Proofs.Ytejpgmemohchaaa.Vm
