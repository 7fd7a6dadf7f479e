/- Slices: grown, cut; texts and bytes. -/
import Derived.Test.YtejpgmemohchaaaVmG
set_option linter.unusedSimpArgs false
namespace Go.Proofs.Ytejpgmemohchaaa.Vm
open Go

/-- What a slice, or a text, holds, as elements of sz cells. -/
def elemsD (H : Heap) (sz : Nat) : D → Option (List (List D))
  | .slice r i n g => match H[r]? with
    | some (.cells g' sz' _ xs) => if g' = g ∧ sz' = sz then some ((xs.drop i).take n) else none
    | _ => none
  | .isl sz' xs => if sz' = sz then some xs else none
  | .nilsl => some []
  | .esl => some []
  | .str l => if sz = 1 then some (l.map encB) else none
  | _ => none

theorem range_holds {c : Cx} {sz n : Nat} {ys : List (List D)} {f : Nat → Value} (hl : ys.length = n) (hsz : ∀ (i : Nat) (x : List D), ys[i]? = some x → x.length = sz)
    (h1 : ∀ k, k < n * sz → (f k).oneCell' = true) (h : ∀ (i : Nat) (x : List D) (o : Nat) (d : D), ys[i]? = some x → x[o]? = some d → Rep c (f (i * sz + o)) d) :
    Holds c ((List.range (n * sz)).map f).toArray sz ys := by
  refine ⟨fun i x hx => ⟨hsz i x hx, fun o d hd => ?_⟩, fun k hk => ?_, by simp [hl]⟩
  · have ho : o < sz := by rw [← hsz i x hx]; exact (List.getElem?_eq_some_iff.1 hd).1
    have hi : i < n := by rw [← hl]; exact (List.getElem?_eq_some_iff.1 hx).1
    have hm : (i + 1) * sz ≤ n * sz := Nat.mul_le_mul_right _ hi
    rw [Nat.add_mul] at hm
    simpa [Array.getD_eq_getD_getElem?, show i * sz + o < n * sz by omega] using h i x o d hx hd
  · simp at hk
    simpa [Array.getD_eq_getD_getElem?, hk] using h1 k hk

theorem elems_ok {c : Cx} (inv : Inv c) {P : Program} {v : Value} {x : D} {sz : Nat} {ys : List (List D)} (h0 : 0 < sz) (hv : Rep c v x) (h : elemsD c.hp sz x = some ys) :
    (∀ w, (Builtin.lenOf v).run P w = .ok ys.length w) ∧ ∃ news : Array Value, news.size = ys.length * sz ∧ Holds c news sz ys ∧
      ∀ w, w.heap = c.w.heap → (Builtin.firstCells sz ys.length v).run P w = .ok news w := by
  cases x with
  | slice r i n g =>
    simp only [elemsD] at h
    cases hx : c.hp[r]? with
    | none => simp [hx] at h
    | some k =>
    cases k with
    | gone g0 => simp [hx] at h
    | map g0 ro es => simp [hx] at h
    | cells g0 sz0 ro xs =>
    simp only [hx] at h
    by_cases hg : g0 = g ∧ sz0 = sz
    case neg => rw [if_neg hg] at h; cases h
    rw [if_pos hg] at h
    obtain ⟨rfl, rfl⟩ := hg
    obtain rfl := Option.some.inj h
    cases hv with
    | slice _ _ _ _ _ hr hgg hv =>
    obtain ⟨a, cap, rfl, q1, q2, q3, q4, q5, q6⟩ := hv _ _ _ hx
    have hlen : ((xs.drop i).take n).length = n := by simp; omega
    obtain ⟨_, cs, e, fz, k1, k2, _, k4, _, _, k7⟩ := inv.blk r _ hx
    have hlim : (c.mu r).2 + (i + n) * sz0 ≤ cs.size := by
      have := Nat.mul_le_mul_right sz0 q2
      omega
    rw [Nat.add_mul] at hlim
    refine ⟨fun w => by simp [Builtin.lenOf, hlen], ((List.range (n * sz0)).map fun k => cs.getD ((c.mu r).2 + i * sz0 + k) undef).toArray, by simp [hlen], ?_, fun w hw => ?_⟩
    · refine range_holds hlen (fun j x hj => ?_) (fun k hk => k7 _ (by omega)) (fun j x o d hj ho => ?_)
      · rw [List.getElem?_take] at hj
        split at hj
        · rw [List.getElem?_drop] at hj
          exact (k4 _ x hj).1
        · cases hj
      · rw [List.getElem?_take] at hj
        split at hj
        · rw [List.getElem?_drop] at hj
          have := (k4 _ x hj).2 o d ho
          rwa [Nat.add_mul, show (c.mu r).2 + (i * sz0 + j * sz0) + o = (c.mu r).2 + i * sz0 + (j * sz0 + o) by omega] at this
        · cases hj
    · rw [hlen]
      simp only [Builtin.firstCells]
      by_cases hn : n = 0
      · subst hn
        simp only [Nat.zero_mul]
        exact run_loadCells w a 0 _ (fun j hj => by omega)
      · have ha : a = ⟨(c.mu r).1, (c.mu r).2 + i * sz0, none⟩ := q4.resolve_right (by omega)
        subst ha
        refine run_loadCells w _ (n * sz0) _ (fun j hj => ?_)
        rw [add_lit]
        unfold World.cell?
        simp only [hw, k1]
        exact getD_lt (by omega)
  | isl sz0 xs =>
    simp only [elemsD] at h
    split at h
    case isFalse => cases h
    rename_i he
    subst he
    obtain rfl := Option.some.inj h
    cases hv with
    | islnil => exact ⟨fun w => by simp [Builtin.lenOf], #[], by simp, ⟨fun i x hx => by simp at hx, fun k hk => by simp at hk, by simp⟩, fun w _ => by simp [Builtin.firstCells]⟩
    | isl0 _ a cap =>
      refine ⟨fun w => by simp [Builtin.lenOf], #[], by simp, ⟨fun i x hx => by simp at hx, fun k hk => by simp at hk, by simp⟩, fun w _ => ?_⟩
      simpa [Builtin.firstCells] using run_loadCells (P := P) w a 0 (fun _ => undef) (fun j hj => by omega)
    | isl b off n cap _ _ f hl hcap him hs hc h1 hh =>
    subst hl
    refine ⟨fun w => by simp [Builtin.lenOf], ((List.range (xs.length * sz0)).map f).toArray, by simp, range_holds rfl hs h1 hh, fun w hw => ?_⟩
    simp only [Builtin.firstCells]
    refine run_loadCells w _ _ f (fun j hj => ?_)
    have hi : j / sz0 < xs.length := Nat.div_lt_of_lt_mul (by rw [Nat.mul_comm]; exact hj)
    have hx : xs[j / sz0]? = some xs[j / sz0] := List.getElem?_eq_getElem hi
    have ho : j % sz0 < xs[j / sz0].length := by rw [hs _ _ hx]; exact Nat.mod_lt _ h0
    have := hc _ _ _ _ hx (List.getElem?_eq_getElem ho)
    have hj' : j / sz0 * sz0 + j % sz0 = j := by rw [Nat.mul_comm]; exact Nat.div_add_mod j sz0
    rw [Nat.add_assoc, hj'] at this
    rw [add_lit, ← this]
    unfold World.cell?
    rw [hw]
  | nilsl =>
    obtain rfl := Option.some.inj h
    cases hv
    exact ⟨fun w => by simp [Builtin.lenOf], #[], by simp, ⟨fun i x hx => by simp at hx, fun k hk => by simp at hk, by simp⟩, fun w _ => by simp [Builtin.firstCells]⟩
  | esl =>
    obtain rfl := Option.some.inj h
    cases hv with
    | esl a =>
    refine ⟨fun w => by simp [Builtin.lenOf], #[], by simp, ⟨fun i x hx => by simp at hx, fun k hk => by simp at hk, by simp⟩, fun w _ => ?_⟩
    cases a with
    | none => simp [Builtin.firstCells]
    | some a => simpa [Builtin.firstCells] using run_loadCells (P := P) w a 0 (fun _ => undef) (fun j hj => by omega)
  | str l =>
    simp only [elemsD] at h
    split at h
    case isFalse => cases h
    rename_i he
    subst he
    obtain rfl := Option.some.inj h
    cases hv with
    | str s _ hs =>
    subst hs
    have hl : s.data.toList.length = s.size := by simp
    refine ⟨fun w => by simp [Builtin.lenOf], s.data.map fun b => .int .u8 b.toNat, by simp, ⟨fun i x hx => ?_, fun k hk => ?_, by simp⟩, fun w _ => ?_⟩
    · rw [List.getElem?_map] at hx
      obtain ⟨b, hb, rfl⟩ := Option.map_eq_some_iff.1 hx
      refine ⟨rfl, fun o d hd => ?_⟩
      cases o with
      | succ o => simp at hd
      | zero =>
        simp at hd
        subst hd
        have hi : i < s.data.size := by
          have := (List.getElem?_eq_some_iff.1 hb).1
          simpa using this
        have hbb : s.data[i] = b := by
          have := hb
          rw [Array.getElem?_toList, Array.getElem?_eq_getElem hi] at this
          exact Option.some.inj this
        have he : (s.data.map fun b => Value.int .u8 b.toNat).getD i undef = .int .u8 b.toNat := by
          rw [Array.getD_eq_getD_getElem?, Array.getElem?_map, Array.getElem?_eq_getElem hi, hbb]
          rfl
        simp only [Nat.mul_one, Nat.add_zero, he]
        exact .int _ _
    · simp at hk
      simp [Array.getD_eq_getD_getElem?, hk, Value.oneCell']
    · have : s.extract 0 s.size = s := ByteArray.extract_zero_size
      simp [Builtin.firstCells, this]
  | _ => simp [elemsD] at h

/-! ### append -/
section
variable {L : Lang} (ok : L.Ok) {ts tx e : TypeId} (hts : (L.T ts).k = .slice e) (htx : (∃ e', (L.T tx).k = .slice e') ∨ (L.T tx).k = .str) (hk : (L.T e).k.known = true) (ty : TypeId)
include ok hts htx hk
omit hts hk in
theorem appended_kind : ∃ dx, L.P.underlying tx = some dx ∧ ((∃ e', dx = .slice e') ∨ dx = .string) := by
  rcases htx with ⟨e', h⟩ | h
  · obtain ⟨dx, hux, hfx⟩ := ti_under (ok.ty tx) (by rw [h]; simp)
    rw [h] at hfx
    exact ⟨dx, hux, .inl ⟨e', hfx⟩⟩
  · obtain ⟨dx, hux, hfx⟩ := ti_under (ok.ty tx) (by rw [h]; simp)
    rw [h] at hfx
    exact ⟨dx, hux, .inr hfx⟩
theorem run_append_in {w : World} {x : Value} {news : Array Value} {n : Nat} (hlen : (Builtin.lenOf x).run L.P w = .ok n w) (hnew : (Builtin.firstCells (L.T e).size n x).run L.P w = .ok news w)
    (base : Option Addr) (sLen sCap : Nat) (hroom : sLen + n ≤ sCap) :
    (Builtin.append_ #[ts, tx] ty #[.slice base sLen sCap, x]).run L.P w = ((match base with
      | some a => storeCells (a.add (sLen * (L.T e).size)) news.toList
      | none => pure ()).run L.P w).andThen fun _ w' => .ok (.slice base (sLen + n) sCap) w' := by
  obtain ⟨d0, hu, hfit⟩ := ti_under (ok.ty ts) (by rw [hts]; simp)
  rw [hts] at hfit
  obtain rfl : d0 = .slice e := hfit
  obtain ⟨dx, hux, hdx⟩ := appended_kind ok htx
  have hs := run_size ok hk
  rcases hdx with ⟨e', rfl⟩ | rfl
  · cases base <;> simp [Builtin.append_, run_underlying hu, run_underlying hux, hs, hlen, hnew, hroom]
  · cases base <;> simp [Builtin.append_, run_underlying hu, run_underlying hux, hs, hlen, hnew, hroom]
theorem run_append_out {w : World} {x : Value} {olds news : Array Value} {n : Nat} (hlen : (Builtin.lenOf x).run L.P w = .ok n w)
    (hnew : ∀ w1, w1.heap = w.heap → (Builtin.firstCells (L.T e).size n x).run L.P w1 = .ok news w1)
    (base : Option Addr) (sLen sCap : Nat) (hold : ∀ w1, w1.heap = w.heap → (Builtin.firstCells (L.T e).size sLen (.slice base sLen sCap)).run L.P w1 = .ok olds w1) (hroom : sCap < sLen + n)
    (hlim : (sLen + n) * (L.T e).bytes ≤ 140737488355328) (hmax : sLen + n ≤ maxLen) :
    ∃ z, (∀ w, (zeroValue e).run L.P w = .ok z w) ∧ (Builtin.append_ #[ts, tx] ty #[.slice base sLen sCap, x]).run L.P w =
      .ok (.slice (some ⟨w.heap.size, 0, none⟩) (sLen + n) (grownCap w (sLen + n) sCap e))
        (w.drew.alloc (.cells (olds ++ news ++ Builtin.zeroCells z.cells (grownCap w (sLen + n) sCap e - (sLen + n))) e)) := by
  obtain ⟨d0, hu, hfit⟩ := ti_under (ok.ty ts) (by rw [hts]; simp)
  rw [hts] at hfit
  obtain rfl : d0 = .slice e := hfit
  obtain ⟨dx, hux, hdx⟩ := appended_kind ok htx
  obtain ⟨i, hi, hi1, hi2, hi3⟩ := run_info ok hk w
  obtain ⟨z, _, ⟨i', hi', hz'⟩, _⟩ := run_zero ok hk w
  rw [hi1] at hi'
  obtain rfl := Option.some.inj hi'
  refine ⟨z, fun w => by simp [zeroValue, typeInfo, hi1, hz'], ?_⟩
  have g1 : ¬ (sLen + n ≤ sCap) := by omega
  have g2 : ¬ (9223372036854775807 < ((sLen : Int) + (n : Int))) := by simp only [maxLen] at hmax; omega
  have g3 : ¬ (281474976710656 < Builtin.nextslicecap (sLen + n) sCap * i.bytes) := by
    have := growslice_fits (need := sLen + n) (old := sCap) (bytes := i.bytes) hroom (by rw [hi3]; exact hlim)
    omega
  have ho := hold w.drew rfl
  have hn := hnew w.drew rfl
  have hs := run_size ok hk
  have hzr : ∀ w, (zeroValue e).run L.P w = .ok z w := fun w => by simp [zeroValue, typeInfo, hi1, hz']
  have hin : ∀ w, (typeInfo e).run L.P w = .ok i w := fun w => by simp [typeInfo, hi1]
  rcases hdx with ⟨e', rfl⟩ | rfl
  · simp [Builtin.append_, run_underlying hu, run_underlying hux, hs, hlen, g1, g2, g3, hin, hzr, ho, hn, Question.forced, newRow, grownCap]
  · simp [Builtin.append_, run_underlying hu, run_underlying hux, hs, hlen, g1, g2, g3, hin, hzr, ho, hn, Question.forced, newRow, grownCap]
end

theorem holds_append {c : Cx} {a b z : Array Value} {sz : Nat} {xs ys : List (List D)} (h1 : Holds c a sz xs) (ha : a.size = xs.length * sz) (h2 : Holds c b sz ys) (hz : ∀ k, k < z.size → (z.getD k undef).oneCell' = true) :
    Holds c (a ++ b ++ z) sz (xs ++ ys) := by
  obtain ⟨p1, p2, p3⟩ := h1
  obtain ⟨q1, q2, q3⟩ := h2
  have hget : ∀ k, (a ++ b ++ z).getD k undef = if k < a.size then a.getD k undef else if k < a.size + b.size then b.getD (k - a.size) undef else z.getD (k - (a.size + b.size)) undef := by
    intro k
    simp only [Array.getD_eq_getD_getElem?]
    by_cases h1 : k < a.size
    · rw [if_pos h1, Array.append_assoc, Array.getElem?_append_left h1]
    · rw [if_neg h1]
      by_cases h2 : k < a.size + b.size
      · rw [if_pos h2, Array.getElem?_append_left (by simp; omega), Array.getElem?_append_right (by omega)]
      · rw [if_neg h2, Array.getElem?_append_right (by simp; omega)]
        simp
  refine ⟨fun i x hx => ?_, fun k hk => ?_, ?_⟩
  · by_cases hi : i < xs.length
    · rw [List.getElem?_append_left hi] at hx
      refine ⟨(p1 i x hx).1, fun o d hd => ?_⟩
      have ho : o < sz := by rw [← (p1 i x hx).1]; exact (List.getElem?_eq_some_iff.1 hd).1
      have hm : (i + 1) * sz ≤ xs.length * sz := Nat.mul_le_mul_right _ hi
      rw [Nat.add_mul] at hm
      rw [hget, if_pos (by omega)]
      exact (p1 i x hx).2 o d hd
    · rw [List.getElem?_append_right (by omega)] at hx
      refine ⟨(q1 _ x hx).1, fun o d hd => ?_⟩
      have ho : o < sz := by rw [← (q1 _ x hx).1]; exact (List.getElem?_eq_some_iff.1 hd).1
      have hi2 : i - xs.length < ys.length := (List.getElem?_eq_some_iff.1 hx).1
      have hm : (i - xs.length + 1) * sz ≤ ys.length * sz := Nat.mul_le_mul_right _ hi2
      have hs : i * sz = xs.length * sz + (i - xs.length) * sz := by rw [← Nat.add_mul]; congr 1; omega
      rw [Nat.add_mul] at hm
      rw [hget, if_neg (by omega), if_pos (by omega), show i * sz + o - a.size = (i - xs.length) * sz + o by omega]
      exact (q1 _ x hx).2 o d hd
  · rw [hget]
    by_cases h1 : k < a.size
    · rw [if_pos h1]
      exact p2 _ h1
    · rw [if_neg h1]
      by_cases h2 : k < a.size + b.size
      · rw [if_pos h2]
        exact q2 _ (by omega)
      · rw [if_neg h2]
        simp only [Array.size_append] at hk
        exact hz _ (by omega)
  · simp only [List.length_append, Array.size_append, Nat.add_mul]
    omega
theorem zeroCells_one {z : Value} (h : ∀ k, k < z.cells.size → (z.cells.getD k undef).oneCell' = true) (n : Nat) :
    ∀ k, k < (Builtin.zeroCells z.cells n).size → ((Builtin.zeroCells z.cells n).getD k undef).oneCell' = true := by
  intro k hk
  simp [Builtin.zeroCells] at hk
  have hpos : 0 < z.cells.size := by
    rcases Nat.eq_zero_or_pos z.cells.size with h0 | h0
    · rw [h0] at hk; simp at hk
    · exact h0
  have hlt : k % z.cells.size < z.cells.size := Nat.mod_lt _ hpos
  have hbang : z.cells[k % z.cells.size]! = z.cells.getD (k % z.cells.size) undef := by
    rw [getElem!_pos z.cells _ hlt]
    simp [Array.getD_eq_getD_getElem?, hlt]
  have := h _ hlt
  rw [← hbang] at this
  simpa [Builtin.zeroCells, Array.getD_eq_getD_getElem?, hk] using this

def appendable : K → Bool
  | .slice _ | .str => true
  | _ => false
def appendD (T : TypeId → TI) (H : Heap) (ts tx : TypeId) (s x : D) : Option (D × Heap) := match (T ts).k with
  | .slice e => if appendable (T tx).k = true ∧ (T e).k.known = true ∧ 0 < (T e).size then
      match elemsD H (T e).size x with
      | none => none
      | some ys => match s with
        | .nilsl => if ys.length = 0 then some (.nilsl, H) else if ys.length * (T e).bytes ≤ 140737488355328 ∧ ys.length ≤ 140737488355328 then some (.slice H.length 0 ys.length ys.length, H ++ [.cells ys.length (T e).size false ys]) else none
        | .esl => if ys.length = 0 then some (.esl, H) else if ys.length * (T e).bytes ≤ 140737488355328 ∧ ys.length ≤ 140737488355328 then some (.slice H.length 0 ys.length ys.length, H ++ [.cells ys.length (T e).size false ys]) else none
        | .slice r i n g => match H[r]? with
          | some (.cells g' sz false xs) => if g' = g ∧ sz = (T e).size then
              if ys.length = 0 then some (.slice r i n g, H)
              else if i + n ≠ xs.length ∧ i + n + ys.length ≤ xs.length then some (.slice r i (n + ys.length) g, H.set r (.cells g sz false (xs.take (i + n) ++ ys ++ xs.drop (i + n + ys.length))))
              else if (n + ys.length) * (T e).bytes ≤ 140737488355328 ∧ n + ys.length ≤ 140737488355328 then some (.slice r 0 (n + ys.length) (g + ys.length), H.set r (.cells (g + ys.length) sz false ((xs.drop i).take n ++ ys)))
              else none
            else none
          | _ => none
        | _ => none
    else none
  | _ => none

theorem append_new {L : Lang} (ok : L.Ok) {c : Cx} (inv : Inv c) {ts tx e : TypeId} (hts : (L.T ts).k = .slice e) (htx : (∃ e', (L.T tx).k = .slice e') ∨ (L.T tx).k = .str) (hk : (L.T e).k.known = true) (h0 : 0 < (L.T e).size) (ty : TypeId)
    {v : Value} {x : D} {ys : List (List D)} (hv : Rep c v x) (hy : elemsD c.hp (L.T e).size x = some ys) (base : Option Addr) (hne : ys.length ≠ 0)
    (hlim : ys.length * (L.T e).bytes ≤ 140737488355328) (hmax : ys.length ≤ 140737488355328) :
    ValOk L.P c (Builtin.append_ #[ts, tx] ty #[.slice base 0 0, v]) (.slice c.hp.length 0 ys.length ys.length) (c.hp ++ [.cells ys.length (L.T e).size false ys]) := by
  obtain ⟨hlen, news, n1, n2, n3⟩ := elems_ok (P := L.P) inv h0 hv hy
  obtain ⟨z, z1, z2, z3, z4, _⟩ := zero_holds ok c hk
  have hm : ys.length ≤ maxLen := by simp only [maxLen]; omega
  obtain ⟨z', hz', hrun⟩ := run_append_out ok hts htx hk ty (w := c.w) (x := v) (olds := #[]) (news := news) (n := ys.length) (hlen _) n3 base 0 0
    (fun w1 _ => by
      cases base with
      | none => simp [Builtin.firstCells]
      | some a => simpa [Builtin.firstCells] using run_loadCells (P := L.P) w1 a 0 (fun _ => undef) (fun j hj => by omega)) (by omega) (by simpa using hlim) (by simpa using hm)
  obtain rfl : z = z' := by
    have := (z1 c.w).symm.trans (hz' c.w)
    simpa using this
  simp only [Nat.zero_add, Array.empty_append] at hrun
  have hh : Holds c (news ++ Builtin.zeroCells z.cells (grownCap c.w ys.length 0 e - ys.length)) (L.T e).size ys := by
    have := holds_append (c := c) (a := #[]) (xs := []) ⟨fun i x hx => by simp at hx, fun k hk => by simp at hk, by simp⟩ (by simp) n2 (zeroCells_one z4 (grownCap c.w ys.length 0 e - ys.length))
    simpa using this
  have hge : ys.length ≤ grownCap c.w ys.length 0 e := grownCap_ge c.w ys.length 0 e
  obtain ⟨i1, l1⟩ := new_okG ys.length inv (w' := c.w.drew.alloc (.cells (news ++ Builtin.zeroCells z.cells (grownCap c.w ys.length 0 e - ys.length)) e)) (e := e) (fz := (0, 0)) rfl rfl rfl rfl (fun o _ ⟨_, h⟩ => by simp at h) h0 hh
  refine ⟨_, _, hrun, rfl, i1, l1, slice_newG ys.length rfl hge ?_ (grownCap_le_maxLen c.w ys.length 0 e hm)⟩
  rw [show c.w.heap.size = (c.w.drew).heap.size from rfl, bsize_alloc (w := c.w.drew) (arr := news ++ Builtin.zeroCells z.cells (grownCap c.w ys.length 0 e - ys.length)) (e := e) (fz := (0, 0)) rfl]
  simp only [Array.size_append, n1, size_zeroCells, z2, Nat.zero_add, ← Nat.add_mul]
  exact Nat.mul_le_mul_right _ (by omega)

theorem slice_put {c : Cx} {r g : Nat} {m : Nat × Nat} {w : World} {sz n cap : Nat} {xs : List (List D)} {a : Addr} (hr : r < c.hp.length) (hn : xs.length = n) (hcap : n ≤ cap) (ha : a = ⟨m.1, m.2, none⟩ ∨ cap = 0)
    (hb : m.2 + cap * sz ≤ bsize w m.1) (hmax : cap ≤ maxLen) : Rep (c.put r (.cells g sz false xs) m w) (.slice (some a) n cap) (.slice r 0 n g) := by
  refine .slice _ _ _ _ _ (by simpa [Cx.put] using hr) (by simp [Cx.put, ng, Blk.next, hr]) fun sz' ro' xs' hx => ?_
  simp only [Cx.put, List.getElem?_set, if_true, hr, Option.some.injEq, Blk.cells.injEq] at hx
  obtain ⟨_, rfl, _, rfl⟩ := hx
  exact ⟨a, cap, rfl, hcap, by omega, by omega, by simpa [Cx.put, upd_same] using ha, by simp only [Cx.put, upd_same, Nat.zero_add]; exact hb, hmax⟩

theorem append_ok {L : Lang} (ok : L.Ok) {c : Cx} (inv : Inv c) {ts tx : TypeId} (ty : TypeId) {u v : Value} {s x d : D} {H : Heap} (hu : Rep c u s) (hv : Rep c v x) (h : appendD L.T c.hp ts tx s x = some (d, H)) :
    ValOk L.P c (Builtin.append_ #[ts, tx] ty #[u, v]) d H := by
  unfold appendD at h
  split at h
  case h_2 => cases h
  rename_i e hts
  by_cases hc : appendable (L.T tx).k = true ∧ (L.T e).k.known = true ∧ 0 < (L.T e).size
  case neg => rw [if_neg hc] at h; cases h
  rw [if_pos hc] at h
  obtain ⟨hap, hk, h0⟩ := hc
  have htx : (∃ e', (L.T tx).k = .slice e') ∨ (L.T tx).k = .str := by
    unfold appendable at hap
    split at hap
    · rename_i e' he; exact .inl ⟨e', he⟩
    · rename_i he; exact .inr he
    · cases hap
  cases hy : elemsD c.hp (L.T e).size x with
  | none => simp [hy] at h
  | some ys =>
  simp only [hy] at h
  obtain ⟨hlen, news, n1, n2, n3⟩ := elems_ok (P := L.P) inv h0 hv hy
  cases s with
  | nilsl =>
    simp only at h
    cases hu
    by_cases hz : ys.length = 0
    · rw [if_pos hz] at h
      obtain ⟨rfl, rfl⟩ := Prod.mk.inj (Option.some.inj h)
      have hrun := run_append_in ok hts htx hk ty (w := c.w) (x := v) (news := news) (n := ys.length) (hlen _) (n3 _ rfl) none 0 0 (by omega)
      refine .same inv (v := .slice none 0 0) ?_ .nilsl
      rw [hrun]
      simp [hz]
    · rw [if_neg hz] at h
      split at h
      case isFalse => cases h
      rename_i hl
      obtain ⟨rfl, rfl⟩ := Prod.mk.inj (Option.some.inj h)
      exact append_new ok inv hts htx hk h0 ty hv hy none hz hl.1 hl.2
  | esl =>
    simp only at h
    cases hu with
    | esl base =>
    by_cases hz : ys.length = 0
    · rw [if_pos hz] at h
      obtain ⟨rfl, rfl⟩ := Prod.mk.inj (Option.some.inj h)
      have hrun := run_append_in ok hts htx hk ty (w := c.w) (x := v) (news := news) (n := ys.length) (hlen _) (n3 _ rfl) base 0 0 (by omega)
      refine .same inv (v := .slice base 0 0) ?_ (.esl base)
      rw [hrun]
      have hnews : news = #[] := by
        have : news.size = 0 := by rw [n1, hz]; simp
        exact Array.size_eq_zero_iff.1 this
      cases base <;> simp [hz, hnews, storeCells]
    · rw [if_neg hz] at h
      split at h
      case isFalse => cases h
      rename_i hl
      obtain ⟨rfl, rfl⟩ := Prod.mk.inj (Option.some.inj h)
      exact append_new ok inv hts htx hk h0 ty hv hy base hz hl.1 hl.2
  | slice r i n g =>
    simp only at h
    cases hx : c.hp[r]? with
    | none => simp [hx] at h
    | some k =>
    cases k with
    | gone g0 => simp [hx] at h
    | map g0 ro es => simp [hx] at h
    | cells g0 sz ro xs =>
    cases ro with
    | true => simp [hx] at h
    | false =>
    simp only [hx] at h
    by_cases hg : g0 = g ∧ sz = (L.T e).size
    case neg => rw [if_neg hg] at h; cases h
    rw [if_pos hg] at h
    obtain ⟨rfl, rfl⟩ := hg
    have hr : r < c.hp.length := (List.getElem?_eq_some_iff.1 hx).1
    have holdE : elemsD c.hp (L.T e).size (.slice r i n g0) = some ((xs.drop i).take n) := by simp [elemsD, hx]
    obtain ⟨_, olds, o1, o2, o3⟩ := elems_ok (P := L.P) inv h0 hu holdE
    have hu0 := hu
    cases hu with
    | slice _ _ _ _ _ _ hgg hu =>
    obtain ⟨a, cap, rfl, q1, q2, q3, q4, q5, q6⟩ := hu _ _ _ hx
    have hl0 : ((xs.drop i).take n).length = n := by simp; omega
    rw [hl0] at o1 o3
    obtain ⟨_, cs, e0, fz, k1, k2, k3, k4, k5, k6, k7⟩ := inv.blk r _ hx
    have hbs : bsize c.w (c.mu r).1 = cs.size := by simp [bsize, k1]
    rw [hbs] at q5
    have hone : ∀ w ∈ news.toList, w.oneCell' = true := fun w hw => by
      obtain ⟨j, hj, rfl⟩ := List.getElem_of_mem hw
      simp at hj
      have := n2.2.1 j hj
      simpa [Array.getD_eq_getD_getElem?, hj] using this
    by_cases hz : ys.length = 0
    · rw [if_pos hz] at h
      obtain ⟨rfl, rfl⟩ := Prod.mk.inj (Option.some.inj h)
      have hrun := run_append_in ok hts htx hk ty (w := c.w) (x := v) (news := news) (n := ys.length) (hlen _) (n3 _ rfl) (some a) n cap (by omega)
      have hnews : news = #[] := by
        have : news.size = 0 := by rw [n1, hz]; simp
        exact Array.size_eq_zero_iff.1 this
      refine .same inv (v := .slice (some a) n cap) ?_ hu0
      rw [hrun]
      simp [hz, hnews, storeCells]
    rw [if_neg hz] at h
    by_cases hin : i + n ≠ xs.length ∧ i + n + ys.length ≤ xs.length
    · rw [if_pos hin] at h
      obtain ⟨rfl, rfl⟩ := Prod.mk.inj (Option.some.inj h)
      have hroom : n + ys.length ≤ cap := by omega
      have hrun := run_append_in ok hts htx hk ty (w := c.w) (x := v) (news := news) (n := ys.length) (hlen _) (n3 _ rfl) (some a) n cap hroom
      have hcap : cap ≠ 0 := by omega
      obtain rfl := q4.resolve_right hcap
      have hmul : (i + n + ys.length) * (L.T e).size ≤ xs.length * (L.T e).size := Nat.mul_le_mul_right _ hin.2
      rw [Nat.add_mul, Nat.add_mul] at hmul
      have hget : ∀ j, (xs.take (i + n) ++ ys ++ xs.drop (i + n + ys.length))[j]? = if i + n ≤ j ∧ j < i + n + ys.length then ys[j - (i + n)]? else xs[j]? := by
        intro j
        have ht : (xs.take (i + n)).length = i + n := by simp; omega
        by_cases h1 : j < i + n
        · rw [if_neg (by omega), List.append_assoc, List.getElem?_append_left (by omega), List.getElem?_take_of_lt h1]
        · by_cases h2 : j < i + n + ys.length
          · rw [if_pos (by omega), List.append_assoc, List.getElem?_append_right (by omega), ht, List.getElem?_append_left (by omega)]
          · rw [if_neg (by omega), List.getElem?_append_right (by simp; omega), List.getElem?_drop]
            congr 1
            simp
            omega
      have hylen : (xs.take (i + n) ++ ys ++ xs.drop (i + n + ys.length)).length = xs.length := by simp; omega
      obtain ⟨c', q1', q2', q3', q4'⟩ := set_ok inv (ys := xs.take (i + n) ++ ys ++ xs.drop (i + n + ys.length)) (o := (c.mu r).2 + i * (L.T e).size + n * (L.T e).size) (vals := news.toList) hx hylen (by omega)
        (fun j y hj => by
          rw [hget] at hj
          split at hj
          · exact (n2.1 _ y hj).1
          · exact (k4 _ y hj).1) hone
        (fun cs' e' fz' hq => by
          rw [k1] at hq
          cases hq
          simp only [Array.length_toList, n1]
          omega)
        (fun j y p d hj hd => by
          rw [hget] at hj
          simp only [Array.length_toList, n1]
          split at hj
          · rename_i hjj
            have hp : p < (L.T e).size := by rw [← (n2.1 _ y hj).1]; exact (List.getElem?_eq_some_iff.1 hd).1
            obtain ⟨m, rfl⟩ : ∃ m, j = i + n + m := ⟨j - (i + n), by omega⟩
            have hm : (m + 1) * (L.T e).size ≤ ys.length * (L.T e).size := Nat.mul_le_mul_right _ (by omega)
            rw [Nat.add_mul] at hm
            refine .inl ⟨by rw [Nat.add_mul, Nat.add_mul]; omega, by rw [Nat.add_mul, Nat.add_mul]; omega, ?_⟩
            rw [show i + n + m - (i + n) = m by omega] at hj
            have := (n2.1 _ y hj).2 p d hd
            rw [show (c.mu r).2 + (i + n + m) * (L.T e).size + p - ((c.mu r).2 + i * (L.T e).size + n * (L.T e).size) = m * (L.T e).size + p by rw [Nat.add_mul, Nat.add_mul]; omega]
            simpa [List.getD_eq_getElem?_getD, Array.getD_eq_getD_getElem?] using this
          · rename_i hjj
            refine .inr ⟨fun ⟨s1, s2⟩ => ?_, y, hj, hd⟩
            have hp : p < (L.T e).size := by rw [← (k4 _ y hj).1]; exact (List.getElem?_eq_some_iff.1 hd).1
            have hmj : (j + 1) * (L.T e).size ≤ (i + n) * (L.T e).size ∨ (i + n + ys.length) * (L.T e).size ≤ j * (L.T e).size := by
              rcases Nat.lt_or_ge j (i + n) with hlt | hge
              · exact .inl (Nat.mul_le_mul_right _ hlt)
              · exact .inr (Nat.mul_le_mul_right _ (by omega))
            rw [Nat.add_mul, Nat.add_mul, Nat.add_mul, Nat.add_mul] at hmj
            omega) L.P
      refine ⟨.slice (some ⟨(c.mu r).1, (c.mu r).2 + i * (L.T e).size, none⟩) (n + ys.length) cap, c', ?_, q2', q3', q4', ?_⟩
      · rw [hrun]
        simp only [add_lit, q1', Result.andThen_ok]
      · refine .slice _ _ _ _ _ (Nat.lt_of_lt_of_le hr q4'.len) (Nat.lt_of_lt_of_le hgg (q4'.ngen r hr)) fun sz' ro' xs' hx' => ?_
        obtain ⟨ro0, xs0, w1, w2, w3, w4⟩ := q4'.refs r g0 sz' ro' xs' hr hgg hx'
        rw [hx] at w1
        cases w1
        rw [w3, w4, w2, hbs]
        exact ⟨_, cap, rfl, hroom, by omega, by omega, .inl rfl, q5, q6⟩
    · rw [if_neg hin] at h
      split at h
      case isFalse => cases h
      rename_i hl
      obtain ⟨rfl, rfl⟩ := Prod.mk.inj (Option.some.inj h)
      have hcl : ((xs.drop i).take n ++ ys).length = n + ys.length := by rw [List.length_append, hl0]
      by_cases hroom : n + ys.length ≤ cap
      · have hrun := run_append_in ok hts htx hk ty (w := c.w) (x := v) (news := news) (n := ys.length) (hlen _) (n3 _ rfl) (some a) n cap hroom
        have hmulc : (i + (n + ys.length)) * (L.T e).size ≤ (i + cap) * (L.T e).size := Nat.mul_le_mul_right _ (by omega)
        have hmulc' : (n + ys.length) * (L.T e).size = n * (L.T e).size + ys.length * (L.T e).size := Nat.add_mul ..
        rw [Nat.add_mul, hmulc'] at hmulc
        have hfit : (c.mu r).2 + i * (L.T e).size + n * (L.T e).size + news.toList.length ≤ cs.size := by
          simp only [Array.length_toList, n1]
          omega
        have hstore := run_store_cells (P := L.P) (o := (c.mu r).2 + i * (L.T e).size + n * (L.T e).size) (vs := news.toList) k1 hfit (fun k hk1 hk2 => k3 rfl k (by omega) hk2) hone
        obtain ⟨cs', m1, m2, m3⟩ := setCells_heap (c.mu r).1 news.toList ((c.mu r).2 + i * (L.T e).size + n * (L.T e).size) c.w k1 hfit
        obtain ⟨r1, r2, r3⟩ := setCells_rest (c.mu r).1 news.toList ((c.mu r).2 + i * (L.T e).size + n * (L.T e).size) c.w
        have hput := put_ok (c := c) inv (r := r) (k' := .cells (g0 + ys.length) (L.T e).size false ((xs.drop i).take n ++ ys)) (m := ((c.mu r).1, (c.mu r).2 + i * (L.T e).size))
          (w' := c.w.setCells (c.mu r).1 ((c.mu r).2 + i * (L.T e).size + n * (L.T e).size) news.toList) hx rfl r1 r2 r3 (by rw [setCells_size]; exact Nat.le_refl _)
          (fun b _ hne => setCells_other _ _ _ _ b (fun he => hne rfl (he ▸ rfl))) (fun b _ hb => .inl ⟨rfl, hb⟩) (by simp only [Blk.next]; omega)
          ⟨fun g' sz' ro' xs' he hg' => by cases he; simp only [Blk.next] at hg'; omega, fun g' ro' es he => by cases he⟩
          (fun le => by
            refine ⟨h0, cs', e0, fz, by simp only [Cx.put, upd_same]; exact m1, ?_, ?_, ?_, (fun h => nomatch h), ?_, ?_⟩
            · simp only [Cx.put, upd_same, hcl, m2]
              omega
            · intro _ k hk1 hk2
              simp only [Cx.put, upd_same] at hk1
              exact k3 rfl k (by omega) (by omega)
            · simp only [Cx.put, upd_same]
              intro j y hj
              by_cases hjn : j < n
              · rw [List.getElem?_append_left (by omega), List.getElem?_take_of_lt hjn, List.getElem?_drop] at hj
                refine ⟨(k4 _ y hj).1, fun p d hd => ?_⟩
                have hp : p < (L.T e).size := by rw [← (k4 _ y hj).1]; exact (List.getElem?_eq_some_iff.1 hd).1
                have hm : (j + 1) * (L.T e).size ≤ n * (L.T e).size := Nat.mul_le_mul_right _ hjn
                rw [Nat.add_mul] at hm
                rw [m3, if_neg (by omega)]
                have := ((k4 _ y hj).2 p d hd).mono le
                rwa [Nat.add_mul, ← Nat.add_assoc] at this
              · rw [List.getElem?_append_right (by omega), hl0] at hj
                refine ⟨(n2.1 _ y hj).1, fun p d hd => ?_⟩
                have hp : p < (L.T e).size := by rw [← (n2.1 _ y hj).1]; exact (List.getElem?_eq_some_iff.1 hd).1
                have hjl : j - n < ys.length := (List.getElem?_eq_some_iff.1 hj).1
                obtain ⟨m, rfl⟩ : ∃ m, j = n + m := ⟨j - n, by omega⟩
                rw [show n + m - n = m by omega] at hj hjl
                have hm : (m + 1) * (L.T e).size ≤ ys.length * (L.T e).size := Nat.mul_le_mul_right _ hjl
                have hm2 : (n + m) * (L.T e).size = n * (L.T e).size + m * (L.T e).size := Nat.add_mul ..
                rw [Nat.add_mul] at hm
                rw [m3, if_pos (by simp only [Array.length_toList, n1]; omega), show (c.mu r).2 + i * (L.T e).size + (n + m) * (L.T e).size + p - ((c.mu r).2 + i * (L.T e).size + n * (L.T e).size) = m * (L.T e).size + p by omega]
                have hgd : news.toList.getD (m * (L.T e).size + p) undef = news.getD (m * (L.T e).size + p) undef := by simp [List.getD_eq_getElem?_getD, Array.getD_eq_getD_getElem?]
                rw [hgd]
                exact ((n2.1 _ y hj).2 p d hd).mono le
            · intro _
              simp only [Cx.put, upd_same]
              exact k6 rfl
            · intro k hk
              rw [m3]
              split
              · rename_i hh
                rw [List.getD_eq_getElem?_getD, List.getElem?_eq_getElem (by omega)]
                exact hone _ (List.getElem_mem _)
              · exact k7 k (by omega))
        refine ⟨.slice (some a) (n + ys.length) cap, _, ?_, rfl, hput.1, hput.2, slice_put hr hcl hroom ?_ ?_ q6⟩
        · rw [hrun]
          rcases q4 with rfl | hcap0
          · simp only [add_lit, hstore, Result.andThen_ok]
            rfl
          · have hnews : news = #[] := by
              have : news.size = 0 := by rw [n1, show ys.length = 0 by omega]; simp
              exact Array.size_eq_zero_iff.1 this
            subst hnews
            simp only [storeCells, Sem.run_pure, Result.andThen_ok]
            rfl
        · exact q4
        · simp only [bsize, m1]
          rw [Nat.add_mul] at q5
          omega
      · have hmax : n + ys.length ≤ maxLen := by simp only [maxLen]; omega
        obtain ⟨z, z1, z2, z3, z4, _⟩ := zero_holds ok c hk
        obtain ⟨z', hz', hrun⟩ := run_append_out ok hts htx hk ty (w := c.w) (x := v) (olds := olds) (news := news) (n := ys.length) (hlen _) n3 (some a) n cap o3 (by omega) hl.1 hmax
        obtain rfl : z = z' := by
          have := (z1 c.w).symm.trans (hz' c.w)
          simpa using this
        have hh := holds_append o2 (by rw [o1, hl0]) n2 (zeroCells_one z4 (grownCap c.w (n + ys.length) cap e - (n + ys.length)))
        have hge : n + ys.length ≤ grownCap c.w (n + ys.length) cap e := grownCap_ge c.w (n + ys.length) cap e
        obtain ⟨i1, l1⟩ := renew_ok (k := ys.length) (hk := by omega) inv (w' := c.w.drew.alloc (.cells (olds ++ news ++ Builtin.zeroCells z.cells (grownCap c.w (n + ys.length) cap e - (n + ys.length))) e)) (e := e) (fz := (0, 0)) hx rfl rfl rfl rfl (fun o _ ⟨_, h⟩ => by simp at h) h0 hh
        refine ⟨_, _, hrun, rfl, i1, l1, slice_put hr hcl hge (.inl rfl) ?_ (grownCap_le_maxLen c.w (n + ys.length) cap e hmax)⟩
        rw [show c.w.heap.size = (c.w.drew).heap.size from rfl, bsize_alloc (w := c.w.drew) (arr := olds ++ news ++ Builtin.zeroCells z.cells (grownCap c.w (n + ys.length) cap e - (n + ys.length))) (e := e) (fz := (0, 0)) rfl]
        simp only [Array.size_append, o1, n1, size_zeroCells, z2, Nat.zero_add, ← Nat.add_mul]
        exact Nat.mul_le_mul_right _ (by omega)
  | _ => simp at h
end Go.Proofs.Ytejpgmemohchaaa.Vm
