/- What comes in, as plain values. -/
import Derived.Test.YtejpgmemohchaaaVmR
import Derived.ProofKit
import Derived.WalkKit
import Derived.SizedLaws
import Derived.ChangeArms
namespace Go.Proofs.Ytejpgmemohchaaa.Vm
open Go

def c0 (W : World) : Cx := { im := fun b => b < W.heap.size, mu := fun _ => (0, 0), hp := [], w := W }
theorem c0_inv (W : World) : Inv (c0 W) := ⟨fun _ h => h, fun r k h => by simp [c0] at h, fun r r' k k' b h => by simp [c0] at h⟩

section
variable {H : Type} {enc : TypeId × Value → H} {P : Program} {W : World}
/-- What is read at a type, cell by cell. -/
def Opens (enc : TypeId × Value → H) (P : Program) (W : World) (t : TypeId) (R : List D → Prop) : Prop :=
  ∀ (fuel : Nat) (cs : List Value) (x : DataW H × List MemPlace), DataW.trod enc P W 0 (fun _ => true) true fuel t cs = some x →
    ∃ ds, R ds ∧ ds.length = cs.length ∧ (∀ (i : Nat) (d : D), ds[i]? = some d → Rep (c0 W) (cs.getD i undef) d) ∧ ∀ i, i < cs.length → (cs.getD i undef).oneCell' = true

theorem opens_bool {t : TypeId} (ht : P.underlying t = some .bool) : Opens enc P W t fun ds => ∃ b, ds = [.bool b] := by
  intro fuel cs x h
  obtain ⟨b, rfl, rfl⟩ := DataW.trod_bool ht h
  refine ⟨[.bool b], ⟨b, rfl⟩, rfl, fun i d hd => ?_, fun i hi => ?_⟩
  · cases i with
    | zero => obtain rfl : D.bool b = d := by simpa using hd
              exact .bool b
    | succ i => simp at hd
  · obtain rfl : i = 0 := by simpa using hi
    rfl
theorem opens_int {t : TypeId} {k : IntKind} (ht : P.underlying t = some (.int k)) : Opens enc P W t fun ds => ∃ n, ds = [.int k n] ∧ (Lit.int k n).wf = true := by
  intro fuel cs x h
  obtain ⟨n, rfl, rfl, hw⟩ := DataW.trod_int ht h
  refine ⟨[.int k n], ⟨n, rfl, hw⟩, rfl, fun i d hd => ?_, fun i hi => ?_⟩
  · cases i with
    | zero => obtain rfl : D.int k n = d := by simpa using hd
              exact .int k n
    | succ i => simp at hd
  · obtain rfl : i = 0 := by simpa using hi
    rfl
theorem opens_str {t : TypeId} (ht : P.underlying t = some .string) : Opens enc P W t fun ds => ∃ l, ds = [.str l] ∧ l.length ≤ maxLen := by
  intro fuel cs x h
  obtain ⟨s, rfl, rfl, hs⟩ := DataW.trod_string ht h
  refine ⟨[.str s.data.toList], ⟨_, rfl, by simpa using hs⟩, rfl, fun i d hd => ?_, fun i hi => ?_⟩
  · cases i with
    | zero => obtain rfl : D.str s.data.toList = d := by simpa using hd
              exact .str s _ rfl
    | succ i => simp at hd
  · obtain rfl : i = 0 := by simpa using hi
    rfl
theorem opens_slice {t e : TypeId} {R : List D → Prop} (ht : P.underlying t = some (.slice e)) (he : Opens enc P W e R) (h0 : 0 < P.cellsOf e) : Opens enc P W t fun ds => ∃ xs, ds = [.isl (P.cellsOf e) xs] ∧ (∀ x, x ∈ xs → R x) ∧ xs.length ≤ maxLen := by
  intro fuel cs x h
  have fin : ∀ (v : Value) (xs : List (List D)), cs = [v] → v.oneCell' = true → Rep (c0 W) v (.isl (P.cellsOf e) xs) → (∀ x, x ∈ xs → R x) → xs.length ≤ maxLen →
      ∃ ds, (∃ xs, ds = [D.isl (P.cellsOf e) xs] ∧ (∀ x, x ∈ xs → R x) ∧ xs.length ≤ maxLen) ∧ ds.length = cs.length ∧ (∀ (i : Nat) (d : D), ds[i]? = some d → Rep (c0 W) (cs.getD i undef) d) ∧ ∀ i, i < cs.length → (cs.getD i undef).oneCell' = true := by
    rintro v xs rfl h1 h2 h3 h4
    refine ⟨[.isl (P.cellsOf e) xs], ⟨xs, rfl, h3, h4⟩, rfl, fun i d hd => ?_, fun i hi => ?_⟩
    · cases i with
      | zero => obtain rfl : D.isl (P.cellsOf e) xs = d := by simpa using hd
                exact h2
      | succ i => simp at hd
    · obtain rfl : i = 0 := by simpa using hi
      exact h1
  rcases DataW.trod_slice ht h with ⟨rfl, _⟩ | ⟨a, len, cap, elems, rest, n, _, rfl, _, _, hl, hm, hlen, hel, _, _⟩
  · exact fin _ [] rfl rfl (.islnil _) (by simp) (by simp)
  · have each : ∀ i, ∃ ds : List D, i < len → ∃ cs, W.cells? 0 (a.add (i * P.cellsOf e)) (P.cellsOf e) = some cs ∧ R ds ∧ ds.length = cs.length ∧ (∀ (i : Nat) (d : D), ds[i]? = some d → Rep (c0 W) (cs.getD i undef) d) ∧ ∀ i, i < cs.length → (cs.getD i undef).oneCell' = true := by
      intro i
      by_cases hi : i < len
      · have h1 := hel i hi
        rw [List.getElem?_eq_getElem (by omega)] at h1
        obtain ⟨cs, h2, h3⟩ := Option.bind_eq_some_iff.1 h1
        obtain ⟨ds, h4⟩ := he _ _ _ h3
        exact ⟨ds, fun _ => ⟨cs, h2, h4⟩⟩
      · exact ⟨[], fun h => absurd h hi⟩
    obtain ⟨g, hg⟩ := Classical.skolem.1 each
    have hmem : ∀ x, x ∈ (List.range len).map g → R x := fun x hx => by
      obtain ⟨i, hi, rfl⟩ := List.mem_map.1 hx
      exact (hg i (List.mem_range.1 hi)).elim fun _ h => h.2.1
    refine fin _ ((List.range len).map g) rfl rfl ?_ hmem (by simp; omega)
    cases len with
    | zero => exact .isl0 _ _ _
    | succ len =>
      obtain ⟨cs0, h1, _⟩ := hg 0 (Nat.succ_pos _)
      obtain ⟨_, hl0, hc0⟩ := World.cells?_some h1
      have hspot : a.spot = none ∧ a.block < W.heap.size := by
        have h2 := hc0 0 h0
        rw [List.getElem?_eq_getElem (by omega)] at h2
        have e1 : (a.add (0 * P.cellsOf e)).add 0 = a := by simp [Addr.add]
        rw [e1] at h2
        unfold World.cell? at h2
        split at h2
        · rename_i c e fz hb
          split at h2
          · cases h2
          · rename_i hs
            refine ⟨by simpa using hs, (Array.getElem?_eq_some_iff.1 hb).1⟩
        · cases h2
      obtain ⟨b, off, spot⟩ := a
      obtain ⟨hs, hb⟩ := hspot
      simp only at hs hb
      subst hs
      have cellat : ∀ (i : Nat) (x : List D) (o : Nat) (d : D), ((List.range (len + 1)).map g)[i]? = some x → x[o]? = some d → ∃ v, W.cell? ⟨b, off + i * P.cellsOf e + o, none⟩ = some v ∧ Rep (c0 W) v d ∧ v.oneCell' = true ∧ x.length = P.cellsOf e := by
        intro i x o d hx ho
        rw [List.getElem?_map] at hx
        obtain ⟨j, hj, rfl⟩ := Option.map_eq_some_iff.1 hx
        have hi : i < len + 1 := by
          have := (List.getElem?_eq_some_iff.1 hj).1
          simpa using this
        obtain rfl : i = j := by
          rw [List.getElem?_range hi] at hj
          exact Option.some.inj hj
        obtain ⟨cs, h1, h2, h3, h4, h5⟩ := hg i hi
        obtain ⟨_, k1, k2⟩ := World.cells?_some h1
        have ho' : o < cs.length := h3 ▸ (List.getElem?_eq_some_iff.1 ho).1
        have k3 := k2 o (by omega)
        rw [add_lit, add_lit, List.getElem?_eq_getElem ho'] at k3
        have hgd : cs.getD o undef = cs[o] := by simp [List.getD_eq_getElem?_getD, ho']
        exact ⟨cs[o], k3, hgd ▸ h4 o d ho, hgd ▸ h5 o ho', by omega⟩
      have hrow : ∀ (i : Nat) (x : List D), ((List.range (len + 1)).map g)[i]? = some x → x.length = P.cellsOf e := fun i x hx => by
        rw [List.getElem?_map] at hx
        obtain ⟨j, hj, rfl⟩ := Option.map_eq_some_iff.1 hx
        have hi : i < len + 1 := by
          have := (List.getElem?_eq_some_iff.1 hj).1
          simpa using this
        obtain rfl : i = j := by
          rw [List.getElem?_range hi] at hj
          exact Option.some.inj hj
        obtain ⟨cs, h1, h2, h3, _⟩ := hg i hi
        obtain ⟨_, k1, _⟩ := World.cells?_some h1
        omega
      refine .isl b off (len + 1) cap (P.cellsOf e) _ (fun k => (W.cell? ⟨b, off + k, none⟩).getD undef) (by simp) hl hb hrow (fun i x o d hx ho => ?_) (fun k hk => ?_) (fun i x o d hx ho => ?_)
      · obtain ⟨v, h1, _⟩ := cellat i x o d hx ho
        simp only [← Nat.add_assoc, h1, c0]
        rfl
      · have hi : k / P.cellsOf e < len + 1 := Nat.div_lt_of_lt_mul (by rw [Nat.mul_comm]; exact hk)
        have hx : ((List.range (len + 1)).map g)[k / P.cellsOf e]? = some (g (k / P.cellsOf e)) := by rw [List.getElem?_map, List.getElem?_range hi]; rfl
        have ho : k % P.cellsOf e < (g (k / P.cellsOf e)).length := by rw [hrow _ _ hx]; exact Nat.mod_lt _ h0
        obtain ⟨v, h1, _, h3, _⟩ := cellat _ _ _ _ hx (List.getElem?_eq_getElem ho)
        have e1 : off + k / P.cellsOf e * P.cellsOf e + k % P.cellsOf e = off + k := by rw [Nat.add_assoc, Nat.div_add_mod']
        rw [e1] at h1
        simp only [h1, Option.getD_some, h3]
      · obtain ⟨v, h1, h2, _⟩ := cellat i x o d hx ho
        simp only [← Nat.add_assoc, h1, Option.getD_some]
        exact h2

/-- A struct whose fields have one cell each. -/
theorem opens_flat {t : TypeId} {fs : Array Field} {Rs : Nat → List D → Prop} (ht : P.underlying t = some (.struct fs)) (hc : P.cellsOf t = fs.size) (ho : ∀ (i : Nat) (f : Field), fs[i]? = some f → f.offset = i ∧ P.cellsOf f.type = 1)
    (hR : ∀ (i : Nat) (f : Field), fs[i]? = some f → Opens enc P W f.type (Rs i)) : Opens enc P W t fun ds => ds.length = fs.size ∧ ∀ (i : Nat) (d : D), ds[i]? = some d → Rs i [d] := by
  intro fuel cs x h
  obtain ⟨xs, n, _, _, h1, h2, h3⟩ := DataW.trod_struct ht h
  have hl : cs.length = fs.size := h1.trans hc
  have each : ∀ i, ∃ d : D, i < fs.size → Rs i [d] ∧ Rep (c0 W) (cs.getD i undef) d ∧ (cs.getD i undef).oneCell' = true := by
    intro i
    by_cases hi : i < fs.size
    · have hf : fs[i]? = some fs[i] := Array.getElem?_eq_getElem hi
      obtain ⟨o1, o2⟩ := ho i _ hf
      have h4 := h3 i _ hf
      rw [o1, o2, List.getElem?_eq_getElem (by omega)] at h4
      obtain ⟨ds, r1, r2, r3, r4⟩ := hR i _ hf _ _ _ h4
      have hcs : (cs.drop i).take 1 = [cs.getD i undef] := by
        have hi' : i < cs.length := by omega
        rw [List.drop_eq_getElem_cons hi', List.take_succ_cons, List.take_zero, List.getD_eq_getElem?_getD, List.getElem?_eq_getElem hi']
        rfl
      rw [hcs] at r2 r3 r4
      match ds, r2 with
      | [d], _ => exact ⟨d, fun _ => ⟨r1, by simpa using r3 0 d rfl, by simpa using r4 0 (by simp)⟩⟩
    · exact ⟨.undef, fun h => absurd h hi⟩
  obtain ⟨g, hg⟩ := Classical.skolem.1 each
  have hget : ∀ (i : Nat) (d : D), ((List.range fs.size).map g)[i]? = some d → i < fs.size ∧ d = g i := fun i d hd => by
    rw [List.getElem?_map] at hd
    obtain ⟨j, hj, rfl⟩ := Option.map_eq_some_iff.1 hd
    have hi : i < fs.size := by simpa using (List.getElem?_eq_some_iff.1 hj).1
    rw [List.getElem?_range hi] at hj
    exact ⟨hi, by rw [Option.some.inj hj]⟩
  refine ⟨(List.range fs.size).map g, ⟨by simp, fun i d hd => ?_⟩, by simp [hl], fun i d hd => ?_, fun i hi => (hg i (by omega)).2.2⟩
  · obtain ⟨hi, rfl⟩ := hget i d hd
    exact (hg i hi).1
  · obtain ⟨hi, rfl⟩ := hget i d hd
    exact (hg i hi).2.1
/-- An argument that is a struct. -/
theorem arg_agg {t : TypeId} {R : List D → Prop} (h : Opens enc P W t R) {cs : Array Value} {d : DataW H} {ps : List MemPlace} (hd : DataW.Trod enc P W 0 (fun _ => true) true t (.agg cs) d ps) : ∃ ds, R ds ∧ Rep (c0 W) (.agg cs) (.agg ds) := by
  obtain ⟨fuel, hf⟩ := hd
  obtain ⟨ds, h1, h2, h3, h4⟩ := h _ _ _ hf
  have e : (Value.agg cs).cells = cs := rfl
  rw [e] at h2 h3 h4
  have hg : ∀ i, cs.toList.getD i undef = cs.getD i undef := fun i => by simp [List.getD_eq_getElem?_getD, Array.getD_eq_getD_getElem?]
  exact ⟨ds, h1, .agg cs ds (by simpa using h2.symm) (fun i hi => by rw [← hg]; exact h4 i (by simpa using hi)) (fun i d hd => by rw [← hg]; exact h3 i d hd)⟩

/-- An argument of one cell. -/
theorem arg_one {t : TypeId} {R : List D → Prop} (h : Opens enc P W t R) {v : Value} {d : DataW H} {ps : List MemPlace} (hd : DataW.Trod enc P W 0 (fun _ => true) true t v d ps) (hv : v.cells = #[v]) : ∃ x, R [x] ∧ Rep (c0 W) v x := by
  obtain ⟨fuel, hf⟩ := hd
  obtain ⟨ds, h1, h2, h3, _⟩ := h _ _ _ hf
  rw [hv] at h2 h3
  match ds, h2 with
  | [x], _ => exact ⟨x, h1, by simpa using h3 0 x rfl⟩
end

/-- Arguments, one by one. -/
def RepsL (c : Cx) : List Value → List D → Prop
  | [], [] => True
  | v :: vs, d :: ds => Rep c v d ∧ RepsL c vs ds
  | _, _ => False
theorem RepsL.len {c : Cx} : ∀ {vs : List Value} {ds : List D}, RepsL c vs ds → vs.length = ds.length
  | [], [], _ => rfl
  | _ :: _, _ :: _, h => congrArg (· + 1) (RepsL.len h.2)
theorem RepsL.get {c : Cx} : ∀ {vs : List Value} {ds : List D}, RepsL c vs ds → ∀ (i : Nat) (d : D), ds[i]? = some d → Rep c (vs.toArray.getD i undef) d
  | [], [], _, _, _, h => by simp at h
  | v :: vs, d :: ds, h, 0, e, he => by
    obtain rfl : d = e := by simpa using he
    exact h.1
  | v :: vs, d :: ds, h, i + 1, e, he => by
    have := RepsL.get h.2 i e (by simpa using he)
    simpa [Array.getD_eq_getD_getElem?] using this
theorem maps {α : Type} {f : α → List D} {Q : α → Prop} : ∀ {xs : List (List D)}, (∀ x, x ∈ xs → ∃ a, x = f a ∧ Q a) → ∃ l : List α, xs = l.map f ∧ ∀ a, a ∈ l → Q a
  | [], _ => ⟨[], rfl, by simp⟩
  | x :: xs, h => by
    obtain ⟨a, rfl, ha⟩ := h x (List.mem_cons_self ..)
    obtain ⟨l, rfl, hl⟩ := maps fun y hy => h y (List.mem_cons_of_mem _ hy)
    exact ⟨a :: l, rfl, by simpa using ⟨ha, hl⟩⟩

/-- A law that answers true, of whatever comes in. -/
theorem law_calls {P : Program} {g : FuncId} {args : List D} {W : World} {vs : List Value} (h : Ans (langOf P) g args (.bool true)) (hr : RepsL (c0 W) vs args) :
    Calls P g vs.toArray W fun e W' => e = .returned (.bool true) ∧ RowKit.Below W.heap.size W W' := by
  have h' := ans_calls h
  refine (h'.2 (c0 W) vs.toArray (c0_inv W) rfl (fun g => .undef _) (by simpa using hr.len) hr.get).mono fun e w' ⟨r, c', ⟨_, q⟩, q2, q3, q4, q5⟩ => ?_
  subst q q2
  refine ⟨?_, q4.os, q4.tape, q4.output, q4.size, fun k hk => q4.frame k hk (fun ⟨r, b, h1, _⟩ => by simp [c0] at h1)⟩
  cases e with
  | returned v => cases (show Rep c' v (.bool true) from q5); rfl
  | panicked => exact q5.elim
  | outgrown => exact q5.elim
end Go.Proofs.Ytejpgmemohchaaa.Vm
