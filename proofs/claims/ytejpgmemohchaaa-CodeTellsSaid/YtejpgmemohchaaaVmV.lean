/- A contract over a small heap of its own, used where the small heap is a greater one: blocks are called otherwise. -/
import Derived.Test.YtejpgmemohchaaaVmR
set_option linter.unusedVariables false
set_option linter.unusedSimpArgs false
namespace Go.Proofs.Ytejpgmemohchaaa.Vm
open Go

mutual
def rn (ι : Nat → Nat) : D → D
  | .ref r i o g => .ref (ι r) i o g
  | .slice r i n g => .slice (ι r) i n g
  | .map r g => .map (ι r) g
  | .yld r g => .yld (ι r) g
  | .cod ps a b => .cod ps a b
  | .box cs => .box (rnL ι cs)
  | .isl sz xs => .isl sz (rnLL ι xs)
  | .func fn a b => .func fn (rnL ι a) (rnL ι b)
  | .iface t d => .iface t (rn ι d)
  | .agg cs => .agg (rnL ι cs)
  | .tuple ds => .tuple (rnL ι ds)
  | .imap es => .imap (rnP ι es)
  | .undef => .undef
  | .bool b => .bool b
  | .int k n => .int k n
  | .str l => .str l
  | .nilptr => .nilptr
  | .nilsl => .nilsl
  | .esl => .esl
  | .nilfunc => .nilfunc
  | .niliface => .niliface
  | .nilmap => .nilmap
def rnL (ι : Nat → Nat) : List D → List D
  | [] => []
  | d :: ds => rn ι d :: rnL ι ds
def rnLL (ι : Nat → Nat) : List (List D) → List (List D)
  | [] => []
  | x :: xs => rnL ι x :: rnLL ι xs
def rnP (ι : Nat → Nat) : List (D × D) → List (D × D)
  | [] => []
  | (a, b) :: es => (rn ι a, rn ι b) :: rnP ι es
end
theorem rnL_map (ι : Nat → Nat) : ∀ l, rnL ι l = l.map (rn ι)
  | [] => by rw [rnL]; rfl
  | d :: l => by rw [rnL, rnL_map ι l]; rfl
theorem rnLL_map (ι : Nat → Nat) : ∀ l, rnLL ι l = l.map fun x => x.map (rn ι)
  | [] => by rw [rnLL]; rfl
  | d :: l => by rw [rnLL, rnLL_map ι l, rnL_map]; rfl
theorem rnP_map (ι : Nat → Nat) : ∀ l, rnP ι l = l.map fun x => (rn ι x.1, rn ι x.2)
  | [] => by rw [rnP]; rfl
  | (a, b) :: l => by rw [rnP, rnP_map ι l]; rfl

def Blk.rn (ι : Nat → Nat) : Blk → Blk
  | .gone g => .gone g
  | .cells g sz ro xs => .cells g sz ro (xs.map fun x => x.map (Vm.rn ι))
  | .map g ro es => .map g ro (es.map fun x => (Vm.rn ι x.1, Vm.rn ι x.2))
theorem rn_next (ι : Nat → Nat) (k : Blk) : (k.rn ι).next = k.next := by cases k <;> rfl
theorem rn_alive (ι : Nat → Nat) (k : Blk) : (k.rn ι).alive = k.alive := by cases k <;> rfl
theorem rn_at (ι : Nat → Nat) (k : Blk) (m : Nat × Nat) (b : Nat) : (k.rn ι).at m b ↔ k.at m b := by cases k <;> exact Iff.rfl
theorem spTag_rn (ι : Nat → Nat) : ∀ es, spTag (es.map fun x => (rn ι x.1, rn ι x.2)) = spTag es
  | [] => rfl
  | (a, b) :: es => by cases a <;> simp [spTag, rn]
theorem rn_ints (ι : Nat → Nat) {f : Nat → Int} : ∀ (bs : List D), (∀ (i : Nat) (d : D), bs[i]? = some d → d = .int .i64 (f i)) → bs.map (rn ι) = bs := fun bs h => by
  refine List.ext_getElem? fun i => ?_
  rw [List.getElem?_map]
  cases hb : bs[i]? with
  | none => rfl
  | some d => rw [h i d hb]; simp [rn]
theorem spOk_rn {ι : Nat → Nat} {c c' : Cx} {m : Nat × Nat} {es : List (D × D)} (h : SpOk c m es) (hw : c'.w = c.w) (hr : ∀ (v : Value) (d : D), Rep c v d → Rep c' v (rn ι d)) : SpOk c' m (es.map fun x => (rn ι x.1, rn ι x.2)) := by
  rcases spOk_inv h with ⟨T, e, l, rfl, h⟩ | ⟨ck, bs, ents, rfl, hm, ms, n, q1, q2, q3, q4, q5, q6⟩ | ⟨ps, as, bo, st, pend, fr, rfl, hm, lp, q1, q2, q3, q4, q6, q7, q8, q9⟩
  · simp only [List.map_cons, List.map_nil, rn, rnL_map]
    show BldOk c'.w m T.toNat e.toNat l
    rw [hw]
    exact h
  · simp only [List.map_cons, rn, rnL_map, rn_ints ι bs q6]
    refine ⟨hm, ms, n, q1, by rw [hw]; exact q2, by simpa using q3, by simpa using q4, fun i x hx => ?_, q6⟩
    rw [List.getElem?_map] at hx
    obtain ⟨y, hy, rfl⟩ := Option.map_eq_some_iff.1 hx
    exact ⟨hr _ _ (q5 i y hy).1, hr _ _ (q5 i y hy).2⟩
  · have hp : rn ι pend = pend := by
      revert q7
      cases pend <;> intro q7 <;> first | (simp [rn]; done) | exact q7.elim
    simp only [List.map_cons, List.map_nil, rn, rnL_map, hp]
    refine ⟨hm, lp, by rw [hw]; exact q1, q2, q3, q4, q6, q7, q8, fun t => ?_⟩
    have := hr _ _ (q9 t)
    have e : (fr.map (rn ι)).getD t (.tuple []) = rn ι (fr.getD t (.tuple [])) := by
      simp only [List.getD_eq_getElem?_getD, List.getElem?_map]
      cases fr[t]? <;> simp [rn, rnL]
    rw [e]
    exact this
theorem spOk_nr {ι : Nat → Nat} {c c' : Cx} {m : Nat × Nat} {es : List (D × D)} (h : SpOk c m (es.map fun x => (rn ι x.1, rn ι x.2))) (hw : c'.w = c.w) (hr : ∀ (v : Value) (d : D), Rep c v (rn ι d) → Rep c' v d) : SpOk c' m es := by
  rcases spOk_inv h with ⟨T, e, l, he, h⟩ | ⟨ck, bs, ents, he, hm, ms, n, q1, q2, q3, q4, q5, q6⟩ | ⟨ps, as, bo, st, pend, fr, he, hm, lp, q1, q2, q3, q4, q6, q7, q8, q9⟩
  · obtain ⟨⟨a, b⟩, rfl⟩ : ∃ x, es = [x] := by
      have := congrArg List.length he
      simp at this
      exact List.length_eq_one_iff.1 this
    simp only [List.map_cons, List.map_nil, List.cons.injEq, and_true, Prod.mk.injEq] at he
    obtain ⟨ha, hb⟩ := he
    cases a <;> simp [rn] at ha
    obtain ⟨rfl, rfl⟩ := ha
    cases b <;> simp [rn, rnL_map] at hb
    rename_i ds
    rcases ds with _ | ⟨x, _ | ⟨y, _ | ⟨z, _ | ⟨u, us⟩⟩⟩⟩ <;> simp at hb
    · obtain ⟨hx, hy, hz⟩ := hb
      cases x <;> simp [rn] at hx
      cases y <;> simp [rn] at hy
      cases z <;> simp [rn] at hz
      obtain ⟨rfl, rfl⟩ := hx
      obtain ⟨rfl, rfl⟩ := hy
      subst hz
      show BldOk c'.w m _ _ _
      rw [hw]
      exact h
  · cases es with
    | nil => cases he
    | cons x es =>
      obtain ⟨a, b⟩ := x
      simp only [List.map_cons, List.cons.injEq, Prod.mk.injEq] at he
      obtain ⟨⟨ha, hb⟩, he⟩ := he
      cases a <;> simp [rn] at ha
      obtain ⟨rfl, rfl⟩ := ha
      cases b <;> simp [rn, rnL_map] at hb
      rename_i ds
      cases ds with
      | nil => cases hb
      | cons y ds =>
        simp only [List.map_cons, List.cons.injEq] at hb
        obtain ⟨hy, hb⟩ := hb
        cases y <;> simp [rn] at hy
        obtain ⟨rfl, rfl⟩ := hy
        have hds : ds = bs := by
          refine List.ext_getElem? fun i => ?_
          have h0 := congrArg (fun l => l[i]?) hb
          simp only [List.getElem?_map] at h0
          cases hd : ds[i]? with
          | none => rw [hd] at h0; exact h0
          | some d =>
            rw [hd] at h0
            have h1 := q6 i _ h0.symm
            cases d <;> simp [rn] at h1
            obtain ⟨rfl, rfl⟩ := h1
            rw [← h0]; simp [rn]
        subst hds
        subst he
        refine ⟨hm, ms, n, q1, by rw [hw]; exact q2, by simpa using q3, by simpa using q4, fun i x hx => ?_, q6⟩
        have h2 := q5 i (rn ι x.1, rn ι x.2) (by rw [List.getElem?_map, hx]; rfl)
        exact ⟨hr _ _ h2.1, hr _ _ h2.2⟩
  · rcases es with _ | ⟨⟨a1, b1⟩, _ | ⟨⟨a2, b2⟩, _ | ⟨⟨a3, b3⟩, _ | ⟨x, es⟩⟩⟩⟩ <;> simp at he
    obtain ⟨⟨e1, e2⟩, ⟨e3, e4⟩, e5, e6⟩ := he
    cases a1 <;> simp [rn] at e1
    obtain ⟨rfl, rfl⟩ := e1
    cases b1 <;> simp [rn] at e2
    obtain ⟨rfl, rfl, rfl⟩ := e2
    cases a2 <;> simp [rn] at e3
    obtain ⟨rfl, rfl⟩ := e3
    cases a3 <;> simp [rn] at e5
    cases b3 <;> simp [rn, rnL_map] at e6
    subst e6
    have hp : b2 = pend := by
      subst e4
      revert q7
      cases b2 <;> intro q7 <;> first | (simp [rn]; done) | (simp [rn, pendOk] at q7; done)
    subst hp
    refine ⟨hm, lp, by rw [hw]; exact q1, q2, q3, q4, q6, q7, q8, fun t => hr _ _ ?_⟩
    have := q9 t
    simp only [List.getD_eq_getElem?_getD, List.getElem?_map] at this ⊢
    revert this
    generalize hw : (_ : List D)[t]? = z
    cases z <;> intro this
    · simpa [rn, rnL] using this
    · simpa using this

/-- What is told in the lesser heap is told in the greater one. -/
theorem Rep.up {c c' : Cx} {ι : Nat → Nat} (hi : ∀ b, c.im b → c'.im b) (hw : c'.w = c.w) (hh : ∀ r, r < c.hp.length → ι r < c'.hp.length ∧ c'.hp[ι r]? = (c.hp[r]?).map (Blk.rn ι) ∧ c'.mu (ι r) = c.mu r) {v : Value} {d : D} (h : Rep c v d) : Rep c' v (rn ι d) := by
  have hk : ∀ b, c.im b → c'.w.heap[b]? = c.w.heap[b]? := fun b _ => by rw [hw]
  have hg : ∀ r, r < c.hp.length → ng c'.hp (ι r) = ng c.hp r := fun r hr => by
    simp only [ng, (hh r hr).2.1, Option.map_map]
    congr 1
    cases c.hp[r]? with
    | none => rfl
    | some k => exact congrArg some (rn_next ι k)
  have back : ∀ r g sz ro xs, r < c.hp.length → c'.hp[ι r]? = some (.cells g sz ro xs) → ∃ xs0, c.hp[r]? = some (.cells g sz ro xs0) ∧ xs0.length = xs.length := fun r g sz ro xs hr hx => by
    rw [(hh r hr).2.1] at hx
    obtain ⟨k, h1, h2⟩ := Option.map_eq_some_iff.1 hx
    cases k with
    | gone => cases h2
    | map => cases h2
    | cells g' sz' ro' xs' =>
      simp only [Blk.rn, Blk.cells.injEq] at h2
      obtain ⟨rfl, rfl, rfl, rfl⟩ := h2
      exact ⟨xs', h1, by simp⟩
  have backm : ∀ r g ro es, r < c.hp.length → c'.hp[ι r]? = some (.map g ro es) → ∃ es0, c.hp[r]? = some (.map g ro es0) ∧ spTag es = spTag es0 := fun r g ro es hr hx => by
    rw [(hh r hr).2.1] at hx
    obtain ⟨k, h1, h2⟩ := Option.map_eq_some_iff.1 hx
    cases k with
    | gone => cases h2
    | cells => cases h2
    | map g' ro' es' =>
      simp only [Blk.rn, Blk.map.injEq] at h2
      obtain ⟨rfl, rfl, rfl⟩ := h2
      exact ⟨es', h1, spTag_rn ι es'⟩
  have lift : ∀ {P : Nat → D → Prop} {l : List D}, (∀ (i : Nat) (d : D), l[i]? = some d → P i (rn ι d)) → ∀ (i : Nat) (d : D), (l.map (rn ι))[i]? = some d → P i d := fun hp i d hd => by
    rw [List.getElem?_map] at hd
    obtain ⟨e, he, rfl⟩ := Option.map_eq_some_iff.1 hd
    exact hp i e he
  induction h with
  | undef v => rw [rn]; exact .undef v
  | bool b => rw [rn]; exact .bool b
  | int k n => rw [rn]; exact .int k n
  | str s l h => rw [rn]; exact .str s l h
  | nilptr => rw [rn]; exact .nilptr
  | ref r i o g v hr hgn h =>
    rw [rn]
    refine .ref _ i o g v (hh r hr).1 (by rw [hg r hr]; exact hgn) (fun sz ro xs hx => ?_)
    obtain ⟨xs0, h1, _⟩ := back r g sz ro xs hr hx
    rw [(hh r hr).2.2]
    exact h sz ro xs0 h1
  | box b off cs f h0 hc h1 _ ih =>
    rw [rn, rnL_map]
    exact .box b off _ f (hi b h0) (lift fun o d ho => (cell_of_block (hk b h0)).trans (hc o d ho)) (by simpa using h1) (lift ih)
  | slice r i m g v hr hgn h =>
    rw [rn]
    refine .slice _ i m g v (hh r hr).1 (by rw [hg r hr]; exact hgn) (fun sz ro xs hx => ?_)
    obtain ⟨xs0, h1, h2⟩ := back r g sz ro xs hr hx
    rw [(hh r hr).2.2, hw, ← h2]
    exact h sz ro xs0 h1
  | islnil sz => rw [rn, rnLL]; exact .islnil sz
  | isl0 sz a cap => rw [rn, rnLL]; exact .isl0 sz a cap
  | isl b off n cap sz xs f hn hcap h0 hsz hc h1 _ ih =>
    rw [rn, rnLL_map]
    have hx : ∀ (i : Nat) (x : List D), (xs.map fun x => x.map (rn ι))[i]? = some x → ∃ y, xs[i]? = some y ∧ x = y.map (rn ι) := fun i x hx => by
      rw [List.getElem?_map] at hx
      obtain ⟨y, hy, rfl⟩ := Option.map_eq_some_iff.1 hx
      exact ⟨y, hy, rfl⟩
    refine .isl b off n cap sz _ f (by simpa using hn) hcap (hi b h0) (fun i x h => ?_) (fun i x o d h ho => ?_) h1 (fun i x o d h ho => ?_)
    · obtain ⟨y, hy, rfl⟩ := hx i x h
      simpa using hsz i y hy
    · obtain ⟨y, hy, rfl⟩ := hx i x h
      rw [List.getElem?_map] at ho
      obtain ⟨e, he, rfl⟩ := Option.map_eq_some_iff.1 ho
      exact (cell_of_block (hk b h0)).trans (hc i y o e hy he)
    · obtain ⟨y, hy, rfl⟩ := hx i x h
      rw [List.getElem?_map] at ho
      obtain ⟨e, he, rfl⟩ := Option.map_eq_some_iff.1 ho
      exact ih i y o e hy he
  | nilsl => rw [rn]; exact .nilsl
  | esl a => rw [rn]; exact .esl a
  | func fn a b x y ha hb _ _ ih1 ih2 =>
    rw [rn, rnL_map, rnL_map]
    exact .func fn a b _ _ (by simpa using ha) (by simpa using hb) (lift ih1) (lift ih2)
  | nilfunc => rw [rn]; exact .nilfunc
  | iface t v d _ ih => rw [rn]; exact .iface t v _ ih
  | niliface => rw [rn]; exact .niliface
  | agg a x ha h1 _ ih => rw [rn, rnL_map]; exact .agg a _ (by simpa using ha) h1 (lift ih)
  | tuple a x ha _ ih => rw [rn, rnL_map]; exact .tuple a _ (by simpa using ha) (lift ih)
  | map r g v hr hgn h =>
    rw [rn]
    refine .map _ g v (hh r hr).1 (by rw [hg r hr]; exact hgn) (fun ro es hx => ?_)
    obtain ⟨es0, h1, h2⟩ := backm r g ro es hr hx
    rw [(hh r hr).2.2, h2]
    exact h ro es0 h1
  | yld r g v hr hgn h =>
    rw [rn]
    refine .yld _ g v (hh r hr).1 (by rw [hg r hr]; exact hgn) (fun ro es hx => ?_)
    obtain ⟨es0, h1, h2⟩ := backm r g ro es hr hx
    rw [(hh r hr).2.2]
    exact h ro es0 h1
  | imap b es ms ck p h0 hb hs _ _ ih1 ih2 =>
    rw [rn, rnP_map]
    refine .imap b _ ms ck p (hi b h0) ((hk b h0).trans hb) (by simpa using hs) (fun i x hx => ?_) (fun i x hx => ?_)
    · rw [List.getElem?_map] at hx
      obtain ⟨y, hy, rfl⟩ := Option.map_eq_some_iff.1 hx
      exact ih1 i y hy
    · rw [List.getElem?_map] at hx
      obtain ⟨y, hy, rfl⟩ := Option.map_eq_some_iff.1 hx
      exact ih2 i y hy
  | nilmap => rw [rn]; exact .nilmap

/-- What is told in the greater heap of what is in the lesser one is told in the lesser one. -/
theorem Rep.down {c c' : Cx} {ι : Nat → Nat} (hi : ∀ b, c.im b → c'.im b) (hw : c'.w = c.w) (hb : ∀ r, ι r < c.hp.length → r < c'.hp.length) (hh : ∀ r, r < c'.hp.length → c.hp[ι r]? = (c'.hp[r]?).map (Blk.rn ι) ∧ c.mu (ι r) = c'.mu r) {v : Value} {d : D} (h : Rep c v (rn ι d)) : Rep c' v d := by
  have hk : ∀ b, c.im b → c'.w.heap[b]? = c.w.heap[b]? := fun b _ => by rw [hw]
  have hg : ∀ r, r < c'.hp.length → ng c.hp (ι r) = ng c'.hp r := fun r hr => by
    simp only [ng, (hh r hr).1, Option.map_map]
    congr 1
    cases c'.hp[r]? with
    | none => rfl
    | some k => exact congrArg some (rn_next ι k)
  have low : ∀ {P : Nat → D → Prop} {l : List D}, (∀ (i : Nat) (d : D), (l.map (rn ι))[i]? = some d → P i d) → ∀ (i : Nat) (d : D), l[i]? = some d → P i (rn ι d) := fun hp i d hd => hp i _ (by rw [List.getElem?_map, hd]; rfl)
  generalize hd0 : rn ι d = d0 at h
  induction h generalizing d with
  | undef v => cases d <;> simp [rn] at hd0; exact .undef v
  | bool b => cases d <;> simp [rn] at hd0; subst hd0; exact .bool _
  | int k n => cases d <;> simp [rn] at hd0; obtain ⟨rfl, rfl⟩ := hd0; exact .int _ _
  | str s l h => cases d <;> simp [rn] at hd0; subst hd0; exact .str s _ h
  | nilptr => cases d <;> simp [rn] at hd0; exact .nilptr
  | ref r i o g v hr hgn h =>
    cases d <;> simp [rn] at hd0
    obtain ⟨rfl, rfl, rfl, rfl⟩ := hd0
    have hlt := hb _ hr
    refine .ref _ _ _ _ v hlt (by rw [← hg _ hlt]; exact hgn) (fun sz ro xs hx => ?_)
    rw [← (hh _ hlt).2]
    exact h sz ro _ (by rw [(hh _ hlt).1, hx]; rfl)
  | box b off cs f h0 hc h1 h2 ih =>
    cases d <;> simp [rn, rnL_map] at hd0
    subst hd0
    exact .box b off _ f (hi b h0) (fun o d ho => (cell_of_block (hk b h0)).trans (low hc o d ho)) (by simpa using h1) (fun o d ho => ih o (rn ι d) (by rw [List.getElem?_map, ho]; rfl) rfl)
  | slice r i m g v hr hgn h =>
    cases d <;> simp [rn] at hd0
    obtain ⟨rfl, rfl, rfl, rfl⟩ := hd0
    have hlt := hb _ hr
    refine .slice _ _ _ _ v hlt (by rw [← hg _ hlt]; exact hgn) (fun sz ro xs hx => ?_)
    rw [← (hh _ hlt).2, hw]
    simpa using h sz ro (xs.map fun x => x.map (rn ι)) (by rw [(hh _ hlt).1, hx]; rfl)
  | islnil sz =>
    cases d <;> simp [rn, rnLL_map] at hd0
    obtain ⟨rfl, rfl⟩ := hd0
    exact .islnil _
  | isl0 sz a cap =>
    cases d <;> simp [rn, rnLL_map] at hd0
    obtain ⟨rfl, rfl⟩ := hd0
    exact .isl0 _ a cap
  | isl b off n cap sz xs f hn hcap h0 hsz hc h1 h2 ih =>
    cases d <;> simp [rn, rnLL_map] at hd0
    rename_i sz' ys
    obtain ⟨rfl, rfl⟩ := hd0
    have hy : ∀ (i : Nat) (y : List D), ys[i]? = some y → (ys.map fun x => x.map (rn ι))[i]? = some (y.map (rn ι)) := fun i y hy => by rw [List.getElem?_map, hy]; rfl
    have ho' : ∀ (y : List D) (o : Nat) (d : D), y[o]? = some d → (y.map (rn ι))[o]? = some (rn ι d) := fun y o d ho => by rw [List.getElem?_map, ho]; rfl
    exact .isl b off n cap _ _ f (by simpa using hn) hcap (hi b h0) (fun i y h => by simpa using hsz i _ (hy i y h)) (fun i y o d h ho => (cell_of_block (hk b h0)).trans (hc i _ o _ (hy i y h) (ho' y o d ho))) h1
      (fun i y o d h ho => ih i _ o _ (hy i y h) (ho' y o d ho) rfl)
  | nilsl => cases d <;> simp [rn] at hd0; exact .nilsl
  | esl a => cases d <;> simp [rn] at hd0; exact .esl a
  | func fn a b x y ha hb' h1 h2 ih1 ih2 =>
    cases d <;> simp [rn, rnL_map] at hd0
    obtain ⟨rfl, rfl, rfl⟩ := hd0
    exact .func _ a b _ _ (by simpa using ha) (by simpa using hb') (fun i d hd => ih1 i _ (by rw [List.getElem?_map, hd]; rfl) rfl) (fun i d hd => ih2 i _ (by rw [List.getElem?_map, hd]; rfl) rfl)
  | nilfunc => cases d <;> simp [rn] at hd0; exact .nilfunc
  | iface t v d1 h1 ih =>
    cases d <;> simp [rn] at hd0
    obtain ⟨rfl, hd0⟩ := hd0
    exact .iface _ v _ (ih hd0)
  | niliface => cases d <;> simp [rn] at hd0; exact .niliface
  | agg a x ha h1 h2 ih =>
    cases d <;> simp [rn, rnL_map] at hd0
    subst hd0
    exact .agg a _ (by simpa using ha) h1 (fun i d hd => ih i _ (by rw [List.getElem?_map, hd]; rfl) rfl)
  | tuple a x ha h1 ih =>
    cases d <;> simp [rn, rnL_map] at hd0
    subst hd0
    exact .tuple a _ (by simpa using ha) (fun i d hd => ih i _ (by rw [List.getElem?_map, hd]; rfl) rfl)
  | map r g v hr hgn h =>
    cases d <;> simp [rn] at hd0
    obtain ⟨rfl, rfl⟩ := hd0
    have hlt := hb _ hr
    refine .map _ _ v hlt (by rw [← hg _ hlt]; exact hgn) (fun ro es hx => ?_)
    rw [← (hh _ hlt).2, ← spTag_rn ι es]
    exact h ro _ (by rw [(hh _ hlt).1, hx]; rfl)
  | yld r g v hr hgn h =>
    cases d <;> simp [rn] at hd0
    obtain ⟨rfl, rfl⟩ := hd0
    have hlt := hb _ hr
    refine .yld _ _ v hlt (by rw [← hg _ hlt]; exact hgn) (fun ro es hx => ?_)
    rw [← (hh _ hlt).2]
    exact h ro _ (by rw [(hh _ hlt).1, hx]; rfl)
  | imap b es ms ck p h0 hb' hs h1 h2 ih1 ih2 =>
    cases d <;> simp [rn, rnP_map] at hd0
    subst hd0
    exact .imap b _ ms ck p (hi b h0) ((hk b h0).trans hb') (by simpa using hs) (fun i x hx => ih1 i (rn ι x.1, rn ι x.2) (by rw [List.getElem?_map, hx]; rfl) rfl) (fun i x hx => ih2 i (rn ι x.1, rn ι x.2) (by rw [List.getElem?_map, hx]; rfl) rfl)
  | nilmap => cases d <;> simp [rn] at hd0; exact .nilmap

/-- Blocks of the lesser heap stand at the places ix of the greater one; what it makes anew stands behind all. -/
def rnI (ix : List Nat) (n : Nat) (j : Nat) : Nat := if j < ix.length then ix.getD j 0 else n + (j - ix.length)
def setAll : List Nat → List Blk → Heap → Heap
  | i :: ix, b :: bs, H => setAll ix bs (H.set i b)
  | _, _, H => H
def embed (ix : List Nat) (H Hs : Heap) : Heap := setAll ix (Hs.map (Blk.rn (rnI ix H.length))) H ++ (Hs.drop ix.length).map (Blk.rn (rnI ix H.length))
theorem setAll_len : ∀ (ix : List Nat) (bs : List Blk) (H : Heap), (setAll ix bs H).length = H.length
  | [], _, _ => rfl
  | _ :: _, [], _ => rfl
  | i :: ix, b :: bs, H => by rw [setAll, setAll_len ix bs]; simp
theorem setAll_out : ∀ (ix : List Nat) (bs : List Blk) (H : Heap) (r : Nat), r ∉ ix → (setAll ix bs H)[r]? = H[r]?
  | [], _, _, _, _ => rfl
  | _ :: _, [], _, _, _ => rfl
  | i :: ix, b :: bs, H, r, h => by
    rw [setAll, setAll_out ix bs _ r (fun hm => h (List.mem_cons_of_mem _ hm)), List.getElem?_set]
    have : i ≠ r := fun he => h (by rw [he]; exact List.mem_cons_self ..)
    rw [if_neg this]
theorem setAll_in : ∀ (ix : List Nat) (bs : List Blk) (H : Heap) (j : Nat) (b : Blk), ix.Nodup → j < ix.length → bs[j]? = some b → ix.getD j 0 < H.length → (setAll ix bs H)[ix.getD j 0]? = some b
  | [], _, _, _, _, _, h, _, _ => by simp at h
  | _ :: _, [], _, _, _, _, _, h, _ => by simp at h
  | i :: ix, c :: bs, H, j, b, hn, hj, hb, hl => by
    obtain ⟨hni, hn⟩ := List.nodup_cons.1 hn
    rw [setAll]
    cases j with
    | zero =>
      obtain rfl : c = b := by simpa using hb
      have hl' : i < H.length := by simpa using hl
      rw [show (i :: ix).getD 0 0 = i from rfl, setAll_out ix bs _ i hni, List.getElem?_set, if_pos rfl, if_pos hl']
    | succ j =>
      have e : (i :: ix).getD (j + 1) 0 = ix.getD j 0 := rfl
      rw [e] at hl ⊢
      exact setAll_in ix bs _ j b hn (by simpa using hj) (by simpa using hb) (by simpa using hl)

section
variable {ix : List Nat} {H Hs : Heap}
theorem embed_at (hn : ix.Nodup) (hlt : ∀ i, i ∈ ix → i < H.length) (hl : ix.length ≤ Hs.length) (j : Nat) : (embed ix H Hs)[rnI ix H.length j]? = (Hs[j]?).map (Blk.rn (rnI ix H.length)) := by
  unfold embed
  by_cases hj : j < ix.length
  · have hm : ix.getD j 0 ∈ ix := by
      rw [List.getD_eq_getElem?_getD, List.getElem?_eq_getElem hj]
      exact List.getElem_mem hj
    have hi := hlt _ hm
    have e : rnI ix H.length j = ix.getD j 0 := by rw [rnI, if_pos hj]
    rw [e, List.getElem?_append_left (by rw [setAll_len]; exact hi)]
    have hjs : j < Hs.length := by omega
    rw [List.getElem?_eq_getElem hjs]
    exact setAll_in _ _ _ j _ hn hj (by rw [List.getElem?_map, List.getElem?_eq_getElem hjs]; rfl) hi
  · have e : rnI ix H.length j = H.length + (j - ix.length) := by rw [rnI, if_neg hj]
    rw [e, List.getElem?_append_right (by rw [setAll_len]; omega), setAll_len, List.getElem?_map, List.getElem?_drop]
    congr 2
    omega
theorem embed_out {r : Nat} (hr : r < H.length) (hni : r ∉ ix) : (embed ix H Hs)[r]? = H[r]? := by
  unfold embed
  rw [List.getElem?_append_left (by rw [setAll_len]; exact hr), setAll_out _ _ _ _ hni]
theorem embed_len : (embed ix H Hs).length = H.length + (Hs.length - ix.length) := by
  unfold embed
  rw [List.length_append, setAll_len]
  simp
/-- Each place is one or the other. -/
theorem place (hlt : ∀ i, i ∈ ix → i < H.length) (r : Nat) : (r < H.length ∧ r ∉ ix) ∨ ∃ j, rnI ix H.length j = r := by
  by_cases hr : r < H.length
  · by_cases hm : r ∈ ix
    · obtain ⟨j, hj, rfl⟩ := List.getElem_of_mem hm
      exact .inr ⟨j, by rw [rnI, if_pos hj, List.getD_eq_getElem?_getD, List.getElem?_eq_getElem hj]; rfl⟩
    · exact .inl ⟨hr, hm⟩
  · exact .inr ⟨ix.length + (r - H.length), by rw [rnI, if_neg (by omega)]; omega⟩
theorem rnI_inj (hn : ix.Nodup) (hlt : ∀ i, i ∈ ix → i < H.length) {i j : Nat} (h : rnI ix H.length i = rnI ix H.length j) : i = j := by
  unfold rnI at h
  by_cases hi : i < ix.length
  · rw [if_pos hi, List.getD_eq_getElem?_getD, List.getElem?_eq_getElem hi] at h
    by_cases hj : j < ix.length
    · rw [if_pos hj, List.getD_eq_getElem?_getD, List.getElem?_eq_getElem hj] at h
      exact (List.getElem?_inj hi hn).1 (by rw [List.getElem?_eq_getElem hi, List.getElem?_eq_getElem hj]; exact congrArg some h)
    · rw [if_neg hj] at h
      have := hlt _ (List.getElem_mem hi)
      simp only [Option.getD_some] at h
      omega
  · rw [if_neg hi] at h
    by_cases hj : j < ix.length
    · rw [if_pos hj, List.getD_eq_getElem?_getD, List.getElem?_eq_getElem hj] at h
      have := hlt _ (List.getElem_mem hj)
      simp only [Option.getD_some] at h
      omega
    · rw [if_neg hj] at h
      omega
end

def rnRes (ι : Nat → Nat) : DRes → DRes
  | .ret d => .ret (rn ι d)
  | .panic d => .panic (rn ι d)
open Classical in
/-- A contract over a lesser heap holds in a greater one. -/
theorem CallsV.embed {L : Lang} (fine : Fine L) {g : FuncId} {args args' : List D} {ix : List Nat} {Hs H : Heap} {Q : DRes → Heap → Prop} (h : CallsV L g args Hs Q) (hn : ix.Nodup) (hl : ix.length = Hs.length) (hlt : ∀ i, i ∈ ix → i < H.length)
    (hget : ∀ j, j < ix.length → H[ix.getD j 0]? = (Hs[j]?).map (Blk.rn (rnI ix H.length))) (hargs : args' = args.map (rn (rnI ix H.length))) :
    CallsV L g args' H fun r H' => ∃ r0 Hs', Q r0 Hs' ∧ Hs.length ≤ Hs'.length ∧ H' = Vm.embed ix H Hs' ∧ r = rnRes (rnI ix H.length) r0 := by
  refine ⟨h.1, fun c vs inv hc hg hsz hrep => ?_⟩
  subst hargs
  subst hc
  let ι := rnI ix c.hp.length
  have hι : ∀ j, j < Hs.length → ι j = ix.getD j 0 ∧ ι j ∈ ix := fun j hj => by
    have hj' : j < ix.length := by omega
    have e : ι j = ix.getD j 0 := by show rnI _ _ _ = _; rw [rnI, if_pos hj']
    refine ⟨e, ?_⟩
    rw [e, List.getD_eq_getElem?_getD, List.getElem?_eq_getElem hj']
    exact List.getElem_mem hj'
  have hinj : ∀ {i j : Nat}, ι i = ι j → i = j := fun h => rnI_inj hn hlt h
  let cs : Cx := { im := c.im, mu := fun j => c.mu (ι j), hp := Hs, w := c.w }
  have hblk : ∀ r, r < Hs.length → c.hp[ι r]? = (Hs[r]?).map (Blk.rn ι) ∧ c.mu (ι r) = cs.mu r := fun r hr => by
    refine ⟨?_, rfl⟩
    rw [(hι r hr).1]
    exact hget r (by omega)
  have hbd : ∀ r, ι r < c.hp.length → r < cs.hp.length := fun r hr => by
    show r < Hs.length
    rcases Nat.lt_or_ge r ix.length with h1 | h1
    · omega
    · have e : ι r = c.hp.length + (r - ix.length) := by show rnI _ _ _ = _; rw [rnI, if_neg (by omega)]
      omega
  have down : ∀ {v : Value} {d : D}, Rep c v (rn ι d) → Rep cs v d := fun hr => Rep.down (c := c) (c' := cs) (fun b hb => hb) rfl hbd hblk hr
  have hrow : ∀ r k, Hs[r]? = some k → c.hp[ι r]? = some (k.rn ι) := fun r k hk => by
    rw [(hblk r (List.getElem?_eq_some_iff.1 hk).1).1, hk]
    rfl
  have invs : Inv cs := by
    refine ⟨inv.imlt, fun r k hk => ?_, fun r r' k k' b hk hk' ha ha' hb hb' => hinj (inv.inj _ _ _ _ b (hrow r k hk) (hrow r' k' hk') (by rw [rn_alive]; exact ha) (by rw [rn_alive]; exact ha') ((rn_at _ _ _ _).2 hb) ((rn_at _ _ _ _).2 hb'))⟩
    have hb := inv.blk _ _ (hrow r k hk)
    cases k with
    | gone g => trivial
    | cells g sz ro xs =>
      obtain ⟨z0, ar, e, fz, z1, z2, z3, z4, z5, z6, z7⟩ := hb
      refine ⟨z0, ar, e, fz, z1, by simpa using z2, z3, fun i x hx => ?_, z5, z6, z7⟩
      have h4 := z4 i (x.map (rn ι)) (by rw [List.getElem?_map, hx]; rfl)
      exact ⟨by simpa using h4.1, fun o d ho => down (h4.2 o _ (by rw [List.getElem?_map, ho]; rfl))⟩
    | map g ro es =>
      obtain ⟨z4, z5, z6⟩ := hb
      exact ⟨spOk_nr (c' := cs) z4 rfl fun v d hv => down hv, z5, z6⟩
  have hgs : GlOk L cs := fun gl => (hg gl).flat (fun b hb => hb) (fun b hb => rfl) (fine gl)
  refine (h.2 cs vs invs rfl hgs (by simpa using hsz) (fun i d hd => down (hrep i _ (by rw [List.getElem?_map, hd]; rfl)))).mono fun e w' ⟨r, c', q, q2, q3, q4, q5⟩ => ?_
  have hlen : Hs.length ≤ c'.hp.length := q4.len
  have hat : ∀ j, (Vm.embed ix c.hp c'.hp)[ι j]? = (c'.hp[j]?).map (Blk.rn ι) := fun j => embed_at hn hlt (by omega) j
  have hout : ∀ r, r < c.hp.length → r ∉ ix → (Vm.embed ix c.hp c'.hp)[r]? = c.hp[r]? := fun r hr hm => embed_out hr hm
  have hnot : ∀ r, r < c.hp.length → r ∉ ix → ¬ ∃ j, ι j = r := fun r hr hm ⟨j, hj⟩ => by
    by_cases hjl : j < ix.length
    · exact hm (hj ▸ (hι j (by omega)).2)
    · have e : ι j = c.hp.length + (j - ix.length) := by show rnI _ _ _ = _; rw [rnI, if_neg hjl]
      omega
  let mu2 : Nat → Nat × Nat := fun r => if h : ∃ j, ι j = r then c'.mu (Classical.choose h) else c.mu r
  have hmu : ∀ j, mu2 (ι j) = c'.mu j := fun j => by
    have hex : ∃ i, ι i = ι j := ⟨j, rfl⟩
    show (if h : ∃ i, ι i = ι j then c'.mu (Classical.choose h) else c.mu (ι j)) = _
    rw [dif_pos hex, hinj (Classical.choose_spec hex)]
  have hmu0 : ∀ r, r < c.hp.length → r ∉ ix → mu2 r = c.mu r := fun r hr hm => dif_neg (hnot r hr hm)
  let c2 : Cx := { im := c'.im, mu := mu2, hp := Vm.embed ix c.hp c'.hp, w := c'.w }
  have hpl : ∀ r, (r < c.hp.length ∧ r ∉ ix) ∨ ∃ j, ι j = r := fun r => place hlt r
  have ownS : ∀ b, Own cs b → Own c b := fun b ⟨r, k, h1, h2, h3⟩ => ⟨ι r, k.rn ι, hrow r k h1, by rw [rn_alive]; exact h2, (rn_at _ _ _ _).2 h3⟩
  have hrowb : ∀ j k, (Vm.embed ix c.hp c'.hp)[ι j]? = some k → ∃ k0, c'.hp[j]? = some k0 ∧ k = k0.rn ι := fun j k hk => by
    rw [hat] at hk
    obtain ⟨k0, h1, h2⟩ := Option.map_eq_some_iff.1 hk
    exact ⟨k0, h1, h2.symm⟩
  have up : ∀ {v : Value} {d : D}, Rep c' v d → Rep c2 v (rn ι d) := fun hr => Rep.up (c := c') (c' := c2) (fun b hb => hb) rfl (fun r hr' => by
    have h1 := hat r
    refine ⟨?_, h1, hmu r⟩
    rw [List.getElem?_eq_getElem hr'] at h1
    exact (List.getElem?_eq_some_iff.1 h1).1) hr
  have hjlt : ∀ j, ι j < c.hp.length → j < Hs.length := hbd
  have hstay : ∀ r k, r < c.hp.length → r ∉ ix → c.hp[r]? = some k → k.alive = true → ∀ b, k.at (c.mu r) b → c'.w.heap[b]? = c.w.heap[b]? := fun r k hr hm hk ha b hb => by
    refine q4.frame _ ((inv.blk r k hk).atlt ha hb) fun ⟨j, k', h1, h2, h3⟩ => ?_
    have := inv.inj (ι j) r _ k b (hrow j k' h1) hk (by rw [rn_alive]; exact h2) ha ((rn_at _ _ _ _).2 h3) hb
    exact hm (this ▸ (hι j (List.getElem?_eq_some_iff.1 h1).1).2)
  have le : Le c c2 := by
    refine ⟨q4.os, q4.tape, q4.output, q4.size, ?_, q4.im, q4.imk, fun b hb => ?_, fun b hb => ?_, fun b hb hno => q4.frame b hb (fun ho => hno (ownS b ho)), fun r hr => ?_, fun r g sz ro xs hr hgn hx => ?_, fun r g ro es hr hgn hx => ?_⟩
    · show _ ≤ (Vm.embed ix c.hp c'.hp).length
      rw [embed_len]
      omega
    · rcases q4.imn b hb with h1 | h1 | h1
      · exact .inl h1
      · exact .inr (.inl (ownS b h1))
      · exact .inr (.inr h1)
    · obtain ⟨r, k, h1, h2, h3⟩ := hb
      rcases hpl r with ⟨hr, hm⟩ | ⟨j, rfl⟩
      · have h1' : c.hp[r]? = some k := (hout r hr hm).symm.trans h1
        exact .inl ⟨r, k, h1', h2, (hmu0 r hr hm).symm ▸ h3⟩
      · obtain ⟨k0, h4, rfl⟩ := hrowb j k h1
        have h3' : k0.at (c'.mu j) b := by rw [← hmu j]; exact (rn_at _ _ _ _).1 h3
        rcases q4.own b ⟨j, k0, h4, by rw [← rn_alive ι]; exact h2, h3'⟩ with h5 | h5
        · exact .inl (ownS b h5)
        · exact .inr h5
    · rcases hpl r with ⟨hr', hm⟩ | ⟨j, rfl⟩
      · simp only [ng, c2, hout r hr' hm]
        exact Nat.le_refl _
      · have hj := hjlt j hr
        have hng := q4.ngen j hj
        have e1 : ng c.hp (ι j) = ng Hs j := by
          simp only [ng, (hblk j hj).1, Option.map_map]
          congr 1
          cases Hs[j]? with
          | none => rfl
          | some k => exact congrArg some (rn_next ι k)
        have e2 : ng c2.hp (ι j) = ng c'.hp j := by
          simp only [ng, c2, hat, Option.map_map]
          congr 1
          cases c'.hp[j]? with
          | none => rfl
          | some k => exact congrArg some (rn_next ι k)
        rw [e1, e2]
        exact hng
    · rcases hpl r with ⟨hr', hm⟩ | ⟨j, rfl⟩
      · have hx' : c.hp[r]? = some (.cells g sz ro xs) := (hout r hr' hm).symm.trans hx
        refine ⟨ro, xs, hx', rfl, hmu0 r hr' hm, ?_⟩
        simp only [c2, bsize, hstay r _ hr' hm hx' rfl _ rfl]
      · have hj := hjlt j hr
        obtain ⟨k0, h4, h5⟩ := hrowb j _ hx
        cases k0 with
        | gone => cases h5
        | map => cases h5
        | cells g' sz' ro' xs' =>
          simp only [Blk.rn, Blk.cells.injEq] at h5
          obtain ⟨rfl, rfl, rfl, rfl⟩ := h5
          have e1 : ng c.hp (ι j) = ng Hs j := by
            simp only [ng, (hblk j hj).1, Option.map_map]
            congr 1
            cases Hs[j]? with
            | none => rfl
            | some k => exact congrArg some (rn_next ι k)
          obtain ⟨ro0, xs0, y1, y2, y3, y4⟩ := q4.refs j _ _ _ _ hj (by rw [← e1]; exact hgn) h4
          exact ⟨ro0, _, hrow j _ y1, by simpa using y2, (hmu j).trans y3, y4⟩
    · rcases hpl r with ⟨hr', hm⟩ | ⟨j, rfl⟩
      · have hx' : c.hp[r]? = some (.map g ro es) := (hout r hr' hm).symm.trans hx
        exact ⟨ro, es, hx', congrArg Prod.fst (hmu0 r hr' hm), rfl⟩
      · have hj := hjlt j hr
        obtain ⟨k0, h4, h5⟩ := hrowb j _ hx
        cases k0 with
        | gone => cases h5
        | cells => cases h5
        | map g' ro' es' =>
          simp only [Blk.rn, Blk.map.injEq] at h5
          obtain ⟨rfl, rfl, rfl⟩ := h5
          have e1 : ng c.hp (ι j) = ng Hs j := by
            simp only [ng, (hblk j hj).1, Option.map_map]
            congr 1
            cases Hs[j]? with
            | none => rfl
            | some k => exact congrArg some (rn_next ι k)
          obtain ⟨ro0, es0, y1, y3, y4⟩ := q4.maps j _ _ _ hj (by rw [← e1]; exact hgn) h4
          exact ⟨ro0, _, hrow j _ y1, (congrArg Prod.fst (hmu j)).trans y3, by rw [spTag_rn, spTag_rn]; exact y4⟩
  refine ⟨rnRes ι r, c2, ⟨r, c'.hp, q, hlen, rfl, rfl⟩, q2, ⟨q3.imlt, fun r k hk => ?_, fun r r' k k' b hk hk' ha ha' hb hb' => ?_⟩, le, ?_⟩
  · rcases hpl r with ⟨hr', hm⟩ | ⟨j, rfl⟩
    · have hk' : c.hp[r]? = some k := (hout r hr' hm).symm.trans hk
      cases hal : k.alive with
      | false => cases k <;> first | trivial | simp [Blk.alive] at hal
      | true =>
        refine (inv.blk r k hk').mono le (hmu0 r hr' hm) (fun _ => hstay r k hr' hm hk' hal) (fun _ b hat => ⟨fun hb => ?_, fun hb => q4.im _ hb⟩)
        rcases q4.imn _ hb with h1 | ⟨j, k0, h1, h2, h3⟩ | h1
        · exact h1
        · have := inv.inj (ι j) r _ k b (hrow j k0 h1) hk' (by rw [rn_alive]; exact h2) hal ((rn_at _ _ _ _).2 h3) hat
          exact absurd (this ▸ (hι j (List.getElem?_eq_some_iff.1 h1).1).2) hm
        · have := (inv.blk r k hk').atlt hal hat
          have : b < cs.w.heap.size := this
          omega
    · obtain ⟨k0, h4, rfl⟩ := hrowb j k hk
      have hb := q3.blk j k0 h4
      cases k0 with
      | gone g => trivial
      | cells g sz ro xs =>
        obtain ⟨z0, ar, e, fz, z1, z2, z3, z4, z5, z6, z7⟩ := hb
        show CellsOk c2 (ι j) sz ro _
        unfold CellsOk
        rw [show c2.mu (ι j) = c'.mu j from hmu j]
        refine ⟨z0, ar, e, fz, z1, by simpa using z2, z3, fun i x hx => ?_, z5, z6, z7⟩
        rw [List.getElem?_map] at hx
        obtain ⟨y, hy, rfl⟩ := Option.map_eq_some_iff.1 hx
        refine ⟨by simpa using (z4 i y hy).1, fun o d ho => ?_⟩
        rw [List.getElem?_map] at ho
        obtain ⟨d0, hd0, rfl⟩ := Option.map_eq_some_iff.1 ho
        exact up ((z4 i y hy).2 o d0 hd0)
      | map g ro es =>
        obtain ⟨z4, z5, z6⟩ := hb
        show MapOk c2 (ι j) ro _
        unfold MapOk
        rw [show c2.mu (ι j) = c'.mu j from hmu j]
        exact ⟨spOk_rn (c' := c2) z4 rfl fun v d hv => up hv, z5, z6⟩
  · have key : ∀ r (k : Blk), (Vm.embed ix c.hp c'.hp)[r]? = some k → k.alive = true → (r < c.hp.length ∧ r ∉ ix ∧ c.hp[r]? = some k ∧ mu2 r = c.mu r) ∨ ∃ j k0, ι j = r ∧ c'.hp[j]? = some k0 ∧ k0.alive = true ∧ mu2 r = c'.mu j ∧ k = k0.rn ι := fun r k hk ha => by
      rcases hpl r with ⟨hr', hm⟩ | ⟨j, rfl⟩
      · exact .inl ⟨hr', hm, (hout r hr' hm).symm.trans hk, hmu0 r hr' hm⟩
      · obtain ⟨k0, h4, rfl⟩ := hrowb j k hk
        exact .inr ⟨j, k0, rfl, h4, by rw [← rn_alive ι]; exact ha, hmu j, rfl⟩
    have cross : ∀ r (k : Blk) j (k0 : Blk) b, r < c.hp.length → r ∉ ix → c.hp[r]? = some k → k.alive = true → c'.hp[j]? = some k0 → k0.alive = true → k.at (c.mu r) b → k0.at (c'.mu j) b → False := fun r k j k0 b hr' hm hk ha h4 ha0 hb hb0 => by
      rcases q4.own b ⟨j, k0, h4, ha0, hb0⟩ with ⟨i, k1, h1, h2, h3⟩ | h1
      · have := inv.inj (ι i) r _ k b (hrow i k1 h1) hk (by rw [rn_alive]; exact h2) ha ((rn_at _ _ _ _).2 h3) hb
        exact hm (this ▸ (hι i (List.getElem?_eq_some_iff.1 h1).1).2)
      · have := (inv.blk r k hk).atlt ha hb
        have h1' : c.w.heap.size ≤ b := h1
        omega
    have he : k.at (mu2 r) b := hb
    have he' : k'.at (mu2 r') b := hb'
    rcases key r k hk ha with ⟨a1, a2, a3, a4⟩ | ⟨j, k0, rfl, a2, a3, a4, rfl⟩
    · rcases key r' k' hk' ha' with ⟨b1, b2, b3, b4⟩ | ⟨j', k0', rfl, b2, b3, b4, rfl⟩
      · rw [a4] at he
        rw [b4] at he'
        exact inv.inj r r' k k' b a3 b3 ha ha' he he'
      · rw [a4] at he
        rw [b4] at he'
        exact (cross r k j' k0' b a1 a2 a3 ha b2 b3 he ((rn_at _ _ _ _).1 he')).elim
    · rcases key r' k' hk' ha' with ⟨b1, b2, b3, b4⟩ | ⟨j', k0', rfl, b2, b3, b4, rfl⟩
      · rw [a4] at he
        rw [b4] at he'
        exact (cross r' k' j k0 b b1 b2 b3 ha' a2 a3 he' ((rn_at _ _ _ _).1 he)).elim
      · rw [a4] at he
        rw [b4] at he'
        rw [q3.inj j j' k0 k0' b a2 b2 a3 b3 ((rn_at _ _ _ _).1 he) ((rn_at _ _ _ _).1 he')]
  · cases e <;> cases r <;> try exact q5.elim
    · exact up (show Rep c' _ _ from q5)
    · obtain ⟨v, z1, z2⟩ := q5
      exact ⟨v, z1, up z2⟩
end Go.Proofs.Ytejpgmemohchaaa.Vm
