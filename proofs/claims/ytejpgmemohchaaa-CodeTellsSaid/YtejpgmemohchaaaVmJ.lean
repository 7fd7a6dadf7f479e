/- Texts and bytes, lengths, interfaces, tuples, function values. -/
import Derived.Test.YtejpgmemohchaaaVmI
set_option linter.unusedSimpArgs false
namespace Go.Proofs.Ytejpgmemohchaaa.Vm
open Go

/-- The bytes that a row of bytes holds. -/
def bytesD : List (List D) → Option (List UInt8)
  | [] => some []
  | [.int .u8 n] :: r => (bytesD r).map (UInt8.ofNat n.toNat :: ·)
  | _ => none
@[simp] theorem bytesD_map (l : List UInt8) : bytesD (l.map encB) = some l := by
  induction l with
  | nil => rfl
  | cons b l ih => simp [bytesD, ih]

def isU8 : K → Bool
  | .int .u8 => true
  | _ => false
theorem isU8_eq {k : K} (h : isU8 k = true) : k = .int .u8 := by
  unfold isU8 at h
  split at h
  · rfl
  · cases h
def elemsS (H : Heap) (sz : Nat) : D → Option (List (List D))
  | .str _ => none
  | d => elemsD H sz d
def convD (T : TypeId → TI) (H : Heap) (src dst : TypeId) (x : D) : Option (D × Heap) := match (T src).k, (T dst).k, x with
  | .int _, .int k, .int _ n => some (.int k (k.wrap n), H)
  | .str, .str, .str l => some (.str l, H)
  | .str, .slice e, .str l => if isU8 (T e).k = true ∧ (T e).size = 1 ∧ l.length ≤ 140737488355328 then
      some (.slice H.length 0 l.length 0, H ++ [.cells 0 1 false (l.map encB)]) else none
  | .slice e, .str, x => if isU8 (T e).k = true then match elemsS H 1 x with
      | some ys => (bytesD ys).map fun l => (.str l, H)
      | none => none
    else none
  | _, _, _ => none

theorem freeze_push (w : World) (arr : Array Value) (e : TypeId) : ((w.alloc (.cells arr e)).freeze ⟨w.heap.size, arr.size, none⟩ 1).heap = w.heap.push (.cells arr e (arr.size, arr.size + 1)) := by
  simp only [World.freeze, World.alloc]
  rw [if_neg (by decide)]
  apply Array.ext_getElem?
  intro i
  simp only [Array.getElem?_modify, Array.getElem?_push]
  by_cases hi : i = w.heap.size
  · subst hi; simp
  · simp [hi, Ne.symm hi]
theorem bytes_loop {P : Program} (w : World) : ∀ (l : List Value) (bs : List UInt8) (s : ByteArray), (∀ i, i < l.length → ∃ n, l[i]? = some (.int .u8 n) ∧ bs[i]? = some (UInt8.ofNat n.toNat)) → l.length = bs.length →
    (forIn (m := Sem) l s fun c s => do
      let .int .u8 n := c | stuck "bytesToString: byte expected"
      pure (ForInStep.yield (s.push (UInt8.ofNat n.toNat)))).run P w = .ok ⟨(s.data.toList ++ bs).toArray⟩ w
  | [], bs, s, _, hl => by
    obtain rfl : bs = [] := by cases bs <;> simp at hl ⊢
    simp
  | v :: l, bs, s, h, hl => by
    cases bs with
    | nil => simp at hl
    | cons b bs =>
    obtain ⟨n, h1, h2⟩ := h 0 (by simp)
    simp only [List.getElem?_cons_zero, Option.some.injEq] at h1 h2
    subst h1
    subst h2
    have ih := bytes_loop (P := P) w l bs (s.push (UInt8.ofNat n.toNat)) (fun i hi => by simpa using h (i + 1) (by simp; omega)) (by simpa using hl)
    simp only [List.forIn_cons, Sem.run_bind, Sem.run_pure, Result.andThen_ok, ih]
    congr 2
    simp [ByteArray.push]
theorem bytesD_get : ∀ {ys : List (List D)} {l : List UInt8}, bytesD ys = some l → ys.length = l.length ∧ ∀ (i : Nat) (y : List D), ys[i]? = some y → ∃ n, y = [.int .u8 n] ∧ l[i]? = some (UInt8.ofNat n.toNat)
  | [], l, h => by
    simp only [bytesD, Option.some.injEq] at h
    subst h
    exact ⟨rfl, fun i y hy => by simp at hy⟩
  | y :: ys, l, h => by
    unfold bytesD at h
    split at h
    · rename_i he; cases he
    · rename_i n r he
      cases he
      obtain ⟨l', h1, rfl⟩ := Option.map_eq_some_iff.1 h
      obtain ⟨i1, i2⟩ := bytesD_get h1
      refine ⟨by simp [i1], fun i y hy => ?_⟩
      cases i with
      | zero => simp at hy; subst hy; exact ⟨n, rfl, by simp⟩
      | succ i => simpa using i2 i y (by simpa using hy)
    · cases h
theorem ti_int {P : Program} {t : TypeId} {ti : TI} (h : TiOk P t ti) {k : IntKind} (hk : ti.k = .int k) : P.underlying t = some (.int k) := by
  obtain ⟨d, hu, hf⟩ := ti_under h (by rw [hk]; simp)
  rw [hk] at hf
  rw [hu, show d = .int k from hf]

theorem conv_ok {L : Lang} (ok : L.Ok) {c : Cx} (inv : Inv c) {src dst : TypeId} {v : Value} {x d : D} {H : Heap} (hv : Rep c v x) (h : convD L.T c.hp src dst x = some (d, H)) : ValOk L.P c (convert src dst v) d H := by
  unfold convD at h
  split at h
  · rename_i k1 k2 k3 n hs hd
    obtain ⟨rfl, rfl⟩ := Prod.mk.inj (Option.some.inj h)
    cases hv
    exact .same inv (by simp [convert, run_underlying (ti_int (ok.ty src) hs), run_underlying (ti_int (ok.ty dst) hd), Conv.intToInt]) (.int _ _)
  · rename_i l hs hd
    obtain ⟨rfl, rfl⟩ := Prod.mk.inj (Option.some.inj h)
    obtain ⟨d1, hu1, hf1⟩ := ti_under (ok.ty src) (by rw [hs]; simp)
    rw [hs] at hf1
    obtain rfl : d1 = .string := hf1
    obtain ⟨d2, hu2, hf2⟩ := ti_under (ok.ty dst) (by rw [hd]; simp)
    rw [hd] at hf2
    obtain rfl : d2 = .string := hf2
    have hv' := hv
    cases hv
    exact .same inv (by simp [convert, run_underlying hu1, run_underlying hu2]) hv'
  · rename_i e l hs hd
    obtain ⟨d1, hu1, hf1⟩ := ti_under (ok.ty src) (by rw [hs]; simp)
    rw [hs] at hf1
    obtain rfl : d1 = .string := hf1
    obtain ⟨d2, hu2, hf2⟩ := ti_under (ok.ty dst) (by rw [hd]; simp)
    rw [hd] at hf2
    obtain rfl : d2 = .slice e := hf2
    split at h
    case isFalse => cases h
    rename_i hh
    obtain ⟨he0, h1, hl⟩ := hh
    have he := isU8_eq he0
    obtain ⟨rfl, rfl⟩ := Prod.mk.inj (Option.some.inj h)
    cases hv with
    | str s _ hs' =>
    subst hs'
    have hlen : s.data.toList.length = s.size := by simp
    rw [hlen] at hl ⊢
    have hmax : s.size ≤ maxLen := by simp only [maxLen]; omega
    have hge : s.size ≤ grownCap c.w s.size 0 e := grownCap_ge c.w s.size 0 e
    let arr : Array Value := s.data.map (fun b => Value.int .u8 b.toNat) ++ Array.replicate (grownCap c.w s.size 0 e - s.size) (.int .u8 0)
    have hasz : arr.size = grownCap c.w s.size 0 e := by
      simp only [arr, Array.size_append, Array.size_map, Array.size_replicate]
      have : s.data.size = s.size := rfl
      omega
    have hh : Holds c arr 1 (s.data.toList.map encB) := by
      have hstr : elemsD c.hp 1 (.str s.data.toList) = some (s.data.toList.map encB) := by simp [elemsD]
      obtain ⟨_, news, n1, n2, n3⟩ := elems_ok (P := L.P) inv (by omega) (Rep.str s _ rfl) hstr
      have hn := n3 c.w rfl
      have hex : s.extract 0 s.size = s := ByteArray.extract_zero_size
      simp only [List.length_map, hlen, Builtin.firstCells, hex, Sem.run_pure, Result.ok.injEq, and_true] at hn
      have key := holds_append (c := c) (a := #[]) (xs := []) (b := news) (z := Array.replicate (grownCap c.w s.size 0 e - s.size) (.int .u8 0)) ⟨fun i x hx => by simp at hx, fun k hk => by simp at hk, by simp⟩ (by simp) n2
        (fun k hk => by simp at hk; simp [Array.getD_eq_getD_getElem?, hk, Value.oneCell'])
      rw [← hn] at key
      simpa [arr] using key
    have hfr : ((c.w.drew.alloc (.cells arr e)).freeze ⟨c.w.heap.size, arr.size, none⟩ 1).heap = c.w.heap.push (.cells arr e (arr.size, arr.size + 1)) := freeze_push c.w.drew arr e
    obtain ⟨i1, l1⟩ := new_ok inv (w' := (c.w.drew.alloc (.cells arr e)).freeze ⟨c.w.heap.size, arr.size, none⟩ 1) (e := e) (fz := (arr.size, arr.size + 1)) (by unfold World.freeze; split <;> rfl) (by unfold World.freeze; split <;> rfl) (by unfold World.freeze; split <;> rfl)
      hfr (fun o ho ⟨h1, _⟩ => by simp at h1; omega) (by omega) hh
    refine ⟨.slice (some ⟨c.w.heap.size, 0, none⟩) s.size (grownCap c.w s.size 0 e), _, ?_, rfl, i1, l1, slice_new (by simp) hge ?_ (grownCap_le_maxLen c.w s.size 0 e hmax)⟩
    · have hsh : ((c.w.drew.alloc (.cells arr e)).shape? c.w.heap.size) = some (e, arr.size) := by
        have : (c.w.drew.alloc (.cells arr e)).heap[c.w.heap.size]? = some (.cells arr e) := by
          show (c.w.heap.push (Obj.cells arr e))[c.w.heap.size]? = _
          simp
        unfold World.shape?
        rw [this]
      simp only [convert, Sem.run_bind, run_underlying hu1, run_underlying hu2, Result.andThen_ok, run_underlying (ti_int (ok.ty e) he), Conv.stringToBytes, run_choose, Question.forced, Bool.false_eq_true, if_false, run_newRow]
      change ((markStringish ⟨c.w.heap.size, 0, none⟩).run L.P (c.w.drew.alloc (.cells arr e))).andThen _ = _
      simp only [markStringish, Sem.run_bind, run_shape, hsh, Result.andThen_ok, run_freeze, Sem.run_pure]
      rfl
    · rw [bsize_alloc (w := c.w) (arr := arr) (e := e) (fz := (arr.size, arr.size + 1)) hfr, hasz]
      simp
  · rename_i x _ _ _ e hs hd
    obtain ⟨d1, hu1, hf1⟩ := ti_under (ok.ty src) (by rw [hs]; simp)
    rw [hs] at hf1
    obtain rfl : d1 = .slice e := hf1
    obtain ⟨d2, hu2, hf2⟩ := ti_under (ok.ty dst) (by rw [hd]; simp)
    rw [hd] at hf2
    obtain rfl : d2 = .string := hf2
    split at h
    case isFalse => cases h
    rename_i he0
    have he := isU8_eq he0
    cases hy : elemsS c.hp 1 x with
    | none => rw [hy] at h; cases h
    | some ys =>
    rw [hy] at h
    obtain ⟨l, hl, heq⟩ := Option.map_eq_some_iff.1 h
    obtain ⟨rfl, rfl⟩ := Prod.mk.inj heq
    have hns : ∀ s, x ≠ .str s := fun s e => by subst e; simp [elemsS] at hy
    have hy' : elemsD c.hp 1 x = some ys := by
      cases x <;> first | exact hy | exact absurd rfl (hns _)
    obtain ⟨b1, b2⟩ := bytesD_get hl
    obtain ⟨n0, news, n1, n2, n3⟩ := elems_ok (P := L.P) inv (by omega) hv hy'
    have hue := ti_int (ok.ty e) he
    have hnews : ∀ i, i < news.toList.length → ∃ n, news.toList[i]? = some (.int .u8 n) ∧ l[i]? = some (UInt8.ofNat n.toNat) := fun i hi => by
      simp only [Array.length_toList, n1, Nat.mul_one] at hi
      obtain ⟨n, e1, e2⟩ := b2 i _ (List.getElem?_eq_getElem hi)
      have hr := (n2.1 i _ (List.getElem?_eq_getElem hi)).2 0 (.int .u8 n) (by rw [e1]; rfl)
      simp only [Nat.mul_one, Nat.add_zero] at hr
      generalize hg : news.getD i undef = q at hr
      cases hr
      refine ⟨n, ?_, e2⟩
      rw [Array.getElem?_toList, getD_lt (x := undef) (by omega), hg]
    have hnl : news.toList.length = l.length := by rw [Array.length_toList, n1, Nat.mul_one, b1]
    have hloop := bytes_loop (P := L.P) c.w news.toList l .empty hnews hnl
    have hshape : (∃ cap, v = .slice none ys.length cap ∧ ys = []) ∨ ∃ a cap, v = .slice (some a) ys.length cap := by
      have hl0 := n0 c.w
      have : ∃ base len cap, v = .slice base len cap ∧ (base = none → len = 0) := by
        cases x with
        | slice r i n g =>
          simp only [elemsD] at hy'
          cases hx : c.hp[r]? with
          | none => simp [hx] at hy'
          | some k =>
          cases k with
          | gone g0 => simp [hx] at hy'
          | map g0 ro es => simp [hx] at hy'
          | cells g0 sz0 ro xs =>
          simp only [hx] at hy'
          split at hy'
          · rename_i hg
            obtain ⟨rfl, rfl⟩ := hg
            cases hv with
            | slice _ _ _ _ _ hr hgg hv =>
            obtain ⟨a, cap, rfl, _⟩ := hv _ _ _ hx
            exact ⟨_, _, _, rfl, fun h => by cases h⟩
          · cases hy'
        | isl sz xs =>
          cases hv with
          | islnil => exact ⟨_, _, _, rfl, fun _ => rfl⟩
          | isl0 => exact ⟨_, _, _, rfl, fun h => by cases h⟩
          | isl b off n cap _ _ f hn => exact ⟨_, _, _, rfl, fun h => by cases h⟩
        | nilsl => cases hv; exact ⟨_, _, _, rfl, fun _ => rfl⟩
        | esl => cases hv; exact ⟨_, _, _, rfl, fun _ => rfl⟩
        | str s => exact absurd rfl (hns s)
        | _ => simp [elemsD] at hy'
      obtain ⟨base, len, cap, rfl, hb⟩ := this
      simp only [Builtin.lenOf, Sem.run_pure, Result.ok.injEq, and_true] at hl0
      subst hl0
      cases base with
      | none => exact .inl ⟨cap, rfl, List.eq_nil_of_length_eq_zero (hb rfl)⟩
      | some a => exact .inr ⟨a, cap, rfl⟩
    rcases hshape with ⟨cap, rfl, rfl⟩ | ⟨a, cap, rfl⟩
    · have : l = [] := by cases l <;> simp at b1 ⊢
      subst this
      refine .same inv (v := .string .empty) ?_ (.str _ _ rfl)
      simp [convert, run_underlying hu1, run_underlying hu2, run_underlying hue, Conv.bytesToString]
    · have hn := n3 c.w rfl
      simp only [Builtin.firstCells, Nat.mul_one] at hn
      refine .same inv (v := .string ⟨(([] : List UInt8) ++ l).toArray⟩) ?_ (.str _ _ (by simp))
      simp only [convert, Sem.run_bind, run_underlying hu1, run_underlying hu2, run_underlying hue, Result.andThen_ok, Conv.bytesToString, hn]
      rw [← Array.forIn_toList]
      erw [hloop]
      rfl
  · cases h
end Go.Proofs.Ytejpgmemohchaaa.Vm
