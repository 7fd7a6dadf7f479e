/- The plain values that stand for the machine's, the small heap, and what it means that they stand for them. -/
import Derived.Below
import Derived.Orders
import Derived.Tactics
import Derived.Laws.IdiomCopy
import Derived.ArgAppend
import Derived.Lib.Builder
import Derived.Lib.AppendStr
import Derived.Lib.UnsafeStr
import Derived.Laws.AppendOwn
namespace Go.Proofs.Ytejpgmemohchaaa.Vm
open Go

/-- Plain values. Slices are lists of elements, an element is the list of its cells. 'ref', 'slice': into the small heap (block, element, cell; generation). 'box': a pointer to what never changes. 'isl': a slice of what never changes; 'esl': empty, without room, not nil. -/
inductive D where
  | undef
  | bool (b : Bool)
  | int (k : IntKind) (n : Int)
  | str (l : List UInt8)
  | nilptr
  | ref (r i o g : Nat)
  | box (cs : List D)
  | slice (r i n g : Nat)
  | isl (sz : Nat) (xs : List (List D))
  | nilsl
  | esl
  | func (fn : Fn) (first captured : List D)
  | nilfunc
  | iface (t : TypeId) (d : D)
  | niliface
  | agg (cs : List D)
  | tuple (ds : List D)
  | map (r g : Nat)
  | imap (es : List (D × D))
  | nilmap
  | yld (r g : Nat)
  | cod (ps : List Nat) (assign body : Code)
instance : Inhabited D := ⟨.undef⟩

/-- Blocks of the small heap: elements (generation, cells an element, read-only?), a thing of its own make ('map': what it is tells the first key), or nothing any more (or yet). -/
inductive Blk where
  | gone (g : Nat)
  | cells (g sz : Nat) (ro : Bool) (xs : List (List D))
  | map (g : Nat) (ro : Bool) (es : List (D × D))
instance : Inhabited Blk := ⟨.gone 0⟩

/-- The generation that a new life of the block would bear. -/
def Blk.next : Blk → Nat
  | .gone g => g
  | .cells g _ _ _ => g + 1
  | .map g _ _ => g + 1
def Blk.alive : Blk → Bool
  | .gone _ => false
  | _ => true
abbrev Heap := List Blk
/-- A context: which blocks of the machine never change any more; where the small heap's blocks lie (block, first cell); the small heap; the world. -/
structure Cx where
  im : Nat → Prop
  mu : Nat → Nat × Nat
  hp : Heap
  w : World

def bsize (w : World) (b : Nat) : Nat := match w.heap[b]? with
  | some (.cells c _ _) => c.size
  | _ => 0
def ng (h : Heap) (r : Nat) : Nat := ((h[r]?).map Blk.next).getD 0

/-- What kind a thing is: 1: a strings.Builder. -/
def spTag : List (D × D) → Int
  | (.int _ n, _) :: _ => n
  | _ => 0
/-- What refers to it. -/
def spV (t : Int) (b : Nat) : Value := if t = 1 then .pointer (some ⟨b, 0, none⟩) else .map (some b)
theorem spV_one (t : Int) (b : Nat) : (spV t b).oneCell' = true ∧ (spV t b).cells = #[spV t b] := by
  unfold spV
  split <;> exact ⟨rfl, rfl⟩

inductive Rep (c : Cx) : Value → D → Prop
  | undef (v : Value) : Rep c v .undef
  | bool (b : Bool) : Rep c (.bool b) (.bool b)
  | int (k : IntKind) (n : Int) : Rep c (.int k n) (.int k n)
  | str (s : ByteArray) (l : List UInt8) (h : s.data.toList = l) : Rep c (.string s) (.str l)
  | nilptr : Rep c (.pointer none) .nilptr
  | ref (r i o g : Nat) (v : Value) (hr : r < c.hp.length) (hg : g < ng c.hp r)
      (h : ∀ sz ro xs, c.hp[r]? = some (.cells g sz ro xs) → v = .pointer (some ⟨(c.mu r).1, (c.mu r).2 + i * sz + o, none⟩)) : Rep c v (.ref r i o g)
  | box (b off : Nat) (cs : List D) (f : Nat → Value) (hi : c.im b) (hc : ∀ o d, cs[o]? = some d → c.w.cell? ⟨b, off + o, none⟩ = some (f o))
      (h1 : ∀ o, o < cs.length → (f o).oneCell' = true)
      (h : ∀ o d, cs[o]? = some d → Rep c (f o) d) : Rep c (.pointer (some ⟨b, off, none⟩)) (.box cs)
  | slice (r i n g : Nat) (v : Value) (hr : r < c.hp.length) (hg : g < ng c.hp r)
      (h : ∀ sz ro xs, c.hp[r]? = some (.cells g sz ro xs) → ∃ a cap, v = .slice (some a) n cap ∧ n ≤ cap ∧ i + n ≤ xs.length ∧ xs.length ≤ i + cap ∧
        (a = ⟨(c.mu r).1, (c.mu r).2 + i * sz, none⟩ ∨ cap = 0) ∧ (c.mu r).2 + (i + cap) * sz ≤ bsize c.w (c.mu r).1 ∧ cap ≤ maxLen) : Rep c v (.slice r i n g)
  | islnil (sz : Nat) : Rep c (.slice none 0 0) (.isl sz [])
  | isl0 (sz : Nat) (a : Addr) (cap : Nat) : Rep c (.slice (some a) 0 cap) (.isl sz [])
  | isl (b off n cap sz : Nat) (xs : List (List D)) (f : Nat → Value) (hn : n = xs.length) (hcap : n ≤ cap) (hi : c.im b) (hsz : ∀ (i : Nat) (x : List D), xs[i]? = some x → x.length = sz)
      (hc : ∀ (i : Nat) (x : List D) (o : Nat) (d : D), xs[i]? = some x → x[o]? = some d → c.w.cell? ⟨b, off + i * sz + o, none⟩ = some (f (i * sz + o)))
      (h1 : ∀ k, k < n * sz → (f k).oneCell' = true)
      (h : ∀ (i : Nat) (x : List D) (o : Nat) (d : D), xs[i]? = some x → x[o]? = some d → Rep c (f (i * sz + o)) d) : Rep c (.slice (some ⟨b, off, none⟩) n cap) (.isl sz xs)
  | nilsl : Rep c (.slice none 0 0) .nilsl
  | esl (a : Option Addr) : Rep c (.slice a 0 0) .esl
  | func (fn : Fn) (a b : Array Value) (x y : List D) (ha : a.size = x.length) (hb : b.size = y.length)
      (h1 : ∀ i d, x[i]? = some d → Rep c (a.getD i undef) d) (h2 : ∀ i d, y[i]? = some d → Rep c (b.getD i undef) d) : Rep c (.func fn a b) (.func fn x y)
  | nilfunc : Rep c .nilFunc .nilfunc
  | iface (t : TypeId) (v : Value) (d : D) (h : Rep c v d) : Rep c (.iface t v) (.iface t d)
  | niliface : Rep c .nilIface .niliface
  | agg (a : Array Value) (x : List D) (ha : a.size = x.length) (h1 : ∀ i, i < a.size → (a.getD i undef).oneCell' = true) (h : ∀ i d, x[i]? = some d → Rep c (a.getD i undef) d) : Rep c (.agg a) (.agg x)
  | tuple (a : Array Value) (x : List D) (ha : a.size = x.length) (h : ∀ i d, x[i]? = some d → Rep c (a.getD i undef) d) : Rep c (.tuple a) (.tuple x)
  | map (r g : Nat) (v : Value) (hr : r < c.hp.length) (hg : g < ng c.hp r) (h : ∀ ro es, c.hp[r]? = some (.map g ro es) → v = spV (spTag es) (c.mu r).1) : Rep c v (.map r g)
  | imap (b : Nat) (es : List (D × D)) (ms : Array MapEntry) (ck : Nat) (p : Nat → Nat) (hi : c.im b) (hb : c.w.heap[b]? = some (.map ms ck)) (hs : (∀ i, i < es.length → p i < ms.size) ∧ ∀ j, j < ms.size → ∃ i, i < es.length ∧ p i = j)
      (h1 : ∀ i x, es[i]? = some x → Rep c (ms.getD (p i) default).key x.1) (h2 : ∀ i x, es[i]? = some x → Rep c (ms.getD (p i) default).val x.2) : Rep c (.map (some b)) (.imap es)
  | nilmap : Rep c (.map none) .nilmap
  | yld (r g : Nat) (v : Value) (hr : r < c.hp.length) (hg : g < ng c.hp r) (h : ∀ ro es, c.hp[r]? = some (.map g ro es) → v = .func (.yield (c.mu r).1) #[] #[]) : Rep c v (.yld r g)

/-- The machine's blocks that a block of the small heap has. -/
def Blk.at (k : Blk) (m : Nat × Nat) (b : Nat) : Prop := match k with
  | .map _ _ _ => m.1 = b ∨ m.2 = b
  | _ => m.1 = b
theorem Blk.at_fst (k : Blk) (m : Nat × Nat) : k.at m m.1 := by
  cases k <;> first | rfl | exact .inl rfl
/-- The machine's blocks that the small heap's living ones lie in. -/
def Own (c : Cx) (b : Nat) : Prop := ∃ (r : Nat) (k : Blk), c.hp[r]? = some k ∧ k.alive = true ∧ k.at (c.mu r) b

/-- From c on to c': what never changes stayed; what isn't the small heap's stayed; references mean what they meant, or nothing. -/
structure Le (c c' : Cx) : Prop where
  os : c'.w.os = c.w.os
  tape : c'.w.tape = c.w.tape
  output : c'.w.output = c.w.output
  size : c.w.heap.size ≤ c'.w.heap.size
  len : c.hp.length ≤ c'.hp.length
  im : ∀ b, c.im b → c'.im b
  imk : ∀ b, c.im b → c'.w.heap[b]? = c.w.heap[b]?
  imn : ∀ b, c'.im b → c.im b ∨ Own c b ∨ c.w.heap.size ≤ b
  own : ∀ b, Own c' b → Own c b ∨ c.w.heap.size ≤ b
  frame : ∀ b, b < c.w.heap.size → ¬ Own c b → c'.w.heap[b]? = c.w.heap[b]?
  ngen : ∀ r, r < c.hp.length → ng c.hp r ≤ ng c'.hp r
  refs : ∀ r g sz ro xs, r < c.hp.length → g < ng c.hp r → c'.hp[r]? = some (.cells g sz ro xs) →
    ∃ ro0 xs0, c.hp[r]? = some (.cells g sz ro0 xs0) ∧ xs.length = xs0.length ∧ c'.mu r = c.mu r ∧ bsize c'.w (c.mu r).1 = bsize c.w (c.mu r).1
  maps : ∀ r g ro es, r < c.hp.length → g < ng c.hp r → c'.hp[r]? = some (.map g ro es) → ∃ ro0 es0, c.hp[r]? = some (.map g ro0 es0) ∧ (c'.mu r).1 = (c.mu r).1 ∧ spTag es = spTag es0

theorem Le.refl {c : Cx} : Le c c :=
  ⟨rfl, rfl, rfl, Nat.le_refl _, Nat.le_refl _, fun _ h => h, fun _ _ => rfl, fun _ h => .inl h, fun _ h => .inl h, fun _ _ _ => rfl, fun _ _ => Nat.le_refl _,
    fun _ _ _ ro xs _ _ h => ⟨ro, xs, h, rfl, rfl, rfl⟩, fun _ _ ro es _ _ h => ⟨ro, es, h, rfl, rfl⟩⟩

theorem Le.trans {a b c : Cx} (h : Le a b) (k : Le b c) : Le a c where
  os := k.os.trans h.os
  tape := k.tape.trans h.tape
  output := k.output.trans h.output
  size := Nat.le_trans h.size k.size
  len := Nat.le_trans h.len k.len
  im x hx := k.im x (h.im x hx)
  imk x hx := (k.imk x (h.im x hx)).trans (h.imk x hx)
  imn x hx := by
    rcases k.imn x hx with h1 | h1 | h1
    · exact h.imn x h1
    · exact .inr (h.own x h1)
    · exact .inr (.inr (Nat.le_trans h.size h1))
  own x hx := by
    rcases k.own x hx with h1 | h1
    · exact h.own x h1
    · exact .inr (Nat.le_trans h.size h1)
  frame x hx hn := (k.frame x (Nat.lt_of_lt_of_le hx h.size) (fun ho => (h.own x ho).elim hn (fun hl => by omega))).trans (h.frame x hx hn)
  ngen r hr := Nat.le_trans (h.ngen r hr) (k.ngen r (Nat.lt_of_lt_of_le hr h.len))
  refs r g sz ro xs hr hg hx := by
    obtain ⟨ro1, xs1, h1, h2, h3, h4⟩ := k.refs r g sz ro xs (Nat.lt_of_lt_of_le hr h.len) (Nat.lt_of_lt_of_le hg (h.ngen r hr)) hx
    obtain ⟨ro0, xs0, g1, g2, g3, g4⟩ := h.refs r g sz ro1 xs1 hr hg h1
    exact ⟨ro0, xs0, g1, h2.trans g2, h3.trans g3, by rw [g3] at h4; exact h4.trans g4⟩
  maps r g ro es hr hg hx := by
    obtain ⟨ro1, es1, h1, h3, h4⟩ := k.maps r g ro es (Nat.lt_of_lt_of_le hr h.len) (Nat.lt_of_lt_of_le hg (h.ngen r hr)) hx
    obtain ⟨ro0, es0, g1, g3, g4⟩ := h.maps r g ro1 es1 hr hg h1
    exact ⟨ro0, es0, g1, h3.trans g3, h4.trans g4⟩

theorem cell_of_block {w w' : World} {b o : Nat} (h : w'.heap[b]? = w.heap[b]?) : w'.cell? ⟨b, o, none⟩ = w.cell? ⟨b, o, none⟩ := by
  unfold World.cell?
  rw [h]

theorem Rep.mono {c c' : Cx} {v : Value} {d : D} (h : Rep c v d) (le : Le c c') : Rep c' v d := by
  induction h with
  | undef v => exact .undef v
  | bool b => exact .bool b
  | int k n => exact .int k n
  | str s l h => exact .str s l h
  | nilptr => exact .nilptr
  | ref r i o g v hr hg h =>
    refine .ref r i o g v (Nat.lt_of_lt_of_le hr le.len) (Nat.lt_of_lt_of_le hg (le.ngen r hr)) fun sz ro xs hx => ?_
    obtain ⟨ro0, xs0, h1, _, h3, _⟩ := le.refs r g sz ro xs hr hg hx
    rw [h3]
    exact h sz ro0 xs0 h1
  | box b off cs f hi hc h1 _ ih => exact .box b off cs f (le.im b hi) (fun o d ho => (cell_of_block (le.imk b hi)).trans (hc o d ho)) h1 ih
  | slice r i n g v hr hg h =>
    refine .slice r i n g v (Nat.lt_of_lt_of_le hr le.len) (Nat.lt_of_lt_of_le hg (le.ngen r hr)) fun sz ro xs hx => ?_
    obtain ⟨ro0, xs0, h1, h2, h3, h4⟩ := le.refs r g sz ro xs hr hg hx
    obtain ⟨a, cap, k1, k2, k3, k4, k5, k6, k7⟩ := h sz ro0 xs0 h1
    rw [h3, h4, h2]
    exact ⟨a, cap, k1, k2, k3, k4, k5, k6, k7⟩
  | islnil sz => exact .islnil sz
  | isl0 sz a cap => exact .isl0 sz a cap
  | isl b off n cap sz xs f hn hcap hi hsz hc h1 _ ih => exact .isl b off n cap sz xs f hn hcap (le.im b hi) hsz (fun i x o d hx ho => (cell_of_block (le.imk b hi)).trans (hc i x o d hx ho)) h1 ih
  | nilsl => exact .nilsl
  | esl a => exact .esl a
  | func fn a b x y ha hb _ _ ih1 ih2 => exact .func fn a b x y ha hb ih1 ih2
  | nilfunc => exact .nilfunc
  | iface t v d _ ih => exact .iface t v d ih
  | niliface => exact .niliface
  | agg a x ha h1 _ ih => exact .agg a x ha h1 ih
  | tuple a x ha _ ih => exact .tuple a x ha ih
  | map r g v hr hg h =>
    refine .map r g v (Nat.lt_of_lt_of_le hr le.len) (Nat.lt_of_lt_of_le hg (le.ngen r hr)) fun ro es hx => ?_
    obtain ⟨ro0, es0, h1, h3, h4⟩ := le.maps r g ro es hr hg hx
    rw [h3, h4]
    exact h ro0 es0 h1
  | imap b es ms ck p hi hb hs _ _ ih1 ih2 => exact .imap b es ms ck p (le.im b hi) ((le.imk b hi).trans hb) hs ih1 ih2
  | nilmap => exact .nilmap
  | yld r g v hr hg h =>
    refine .yld r g v (Nat.lt_of_lt_of_le hr le.len) (Nat.lt_of_lt_of_le hg (le.ngen r hr)) fun ro es hx => ?_
    obtain ⟨ro0, es0, h1, h3, h4⟩ := le.maps r g ro es hr hg hx
    rw [h3]
    exact h ro0 es0 h1

/-- What a block of elements is in the machine. -/
def CellsOk (c : Cx) (r sz : Nat) (ro : Bool) (xs : List (List D)) : Prop :=
  0 < sz ∧ ∃ cs e fz, c.w.heap[(c.mu r).1]? = some (.cells cs e fz) ∧ (c.mu r).2 + xs.length * sz ≤ cs.size ∧
    (ro = false → ∀ o, (c.mu r).2 ≤ o → o < cs.size → ¬ (fz.1 ≤ o ∧ o < fz.2)) ∧
    (∀ (i : Nat) (x : List D), xs[i]? = some x → x.length = sz ∧ ∀ (o : Nat) (d : D), x[o]? = some d → Rep c (cs.getD ((c.mu r).2 + i * sz + o) undef) d) ∧
    (ro = true → c.im (c.mu r).1) ∧ (ro = false → ¬ c.im (c.mu r).1) ∧ ∀ k, k < cs.size → (cs.getD k undef).oneCell' = true
/-- A strings.Builder (its type, a byte's) that holds these bytes. -/
def BldOk (w : World) (m : Nat × Nat) (T e : Nat) (l : List UInt8) : Prop :=
  ∃ p v, (p = Value.pointer none ∨ p = Value.pointer (some ⟨m.1, 0, none⟩)) ∧ w.heap[m.1]? = some (.cells #[p, v] T (0, 0)) ∧ w.ownsRow 0 e 1 v l.length (Lib.byteCells l) ∧ v.ownBlock ≠ some m.1 ∧
    (v.ownBlock = some m.2 ∨ (v.ownBlock = none ∧ m.2 = m.1)) ∧ (l = [] → v = .slice none 0 0)
theorem BldOk.lt {w : World} {m : Nat × Nat} {T e : Nat} {l : List UInt8} (h : BldOk w m T e l) : m.1 < w.heap.size ∧ m.2 < w.heap.size := by
  obtain ⟨p, v, _, h1, h2, _, h4, _⟩ := h
  have h5 : m.1 < w.heap.size := (Array.getElem?_eq_some_iff.1 h1).1
  refine ⟨h5, ?_⟩
  rcases h4 with h4 | ⟨_, h4⟩
  · rcases h2.2 with ⟨rfl, _⟩ | ⟨g, cap, cur, rfl, _, hg, _⟩
    · simp [Value.ownBlock] at h4
    · simp only [Value.ownBlock, Option.some.injEq] at h4
      subst h4
      exact (Array.getElem?_eq_some_iff.1 hg).1
  · omega
theorem BldOk.to {w w' : World} {m : Nat × Nat} {T e : Nat} {l : List UInt8} (h : BldOk w m T e l) (h1 : w'.heap[m.1]? = w.heap[m.1]?) (h2 : w'.heap[m.2]? = w.heap[m.2]?) : BldOk w' m T e l := by
  obtain ⟨p, v, h3, h4, h5, h6, h7, h0⟩ := h
  refine ⟨p, v, h3, h1.trans h4, ⟨h5.1, ?_⟩, h6, h7, h0⟩
  rcases h5.2 with h8 | ⟨g, cap, cur, rfl, hb, hg, rest⟩
  · exact .inl h8
  · refine .inr ⟨g, cap, cur, rfl, hb, ?_, rest⟩
    simp only [Value.ownBlock, Option.some.injEq] at h7
    rcases h7 with rfl | ⟨h7, _⟩
    · exact h2.trans hg
    · cases h7
/-- A map: its clock, when its entries were born, its entries. -/
def MapIs (c : Cx) (b : Nat) (ck : Int) (bs : List D) (ents : List (D × D)) : Prop :=
  ∃ (ms : Array MapEntry) (n : Nat), ck = n ∧ c.w.heap[b]? = some (.map ms n) ∧ ms.size = ents.length ∧ bs.length = ents.length ∧
    (∀ (i : Nat) (x : D × D), ents[i]? = some x → Rep c (ms.getD i default).key x.1 ∧ Rep c (ms.getD i default).val x.2) ∧ ∀ (i : Nat) (d : D), bs[i]? = some d → d = .int .i64 ((ms.getD i default).born : Int)
/-- All temporaries that are set lie in the frame (and whether a range over a function may stand in it). -/
def dstsB (mk : Bool) (n : Nat) : Code → Bool
  | .region _ ops _ => ops.all fun o => match o.dst with
    | some t => decide (t < n)
    | none => true
  | .seq a b => dstsB mk n a && dstsB mk n b
  | .cond _ a b => dstsB mk n a && dstsB mk n b
  | .block _ a => dstsB mk n a
  | .loop a => dstsB mk n a
  | .rangeFunc _ ps a b => mk && ps.all (fun t => decide (t < n)) && dstsB false n a && dstsB false n b
  | _ => true
abbrev dstsOk (n : Nat) (c : Code) : Bool := dstsB false n c
/-- What a loop's record says of its state, of its pending jump. -/
def stOk : Int → LoopState → Prop
  | 0, .ready => True
  | 1, .done => True
  | 2, .busy => True
  | 3, .exhausted => True
  | _, _ => False
def pendOk : D → Option Code → Prop
  | .undef, none => True
  | .int .i64 k, some (.exit n) => k = n
  | .bool true, some .ret => True
  | _, _ => False
/-- A loop's record: where its values go, its code, how it stands, its frame. -/
def LoopIs (c : Cx) (b : Nat) (ps : List Nat) (assign body : Code) (st : Int) (pend : D) (fr : List D) : Prop :=
  ∃ lp : Loop, c.w.heap[b]? = some (.loop lp) ∧ lp.params.toList = ps ∧ lp.assign = assign ∧ lp.body = body ∧ stOk st lp.state ∧ pendOk pend lp.pending ∧
    (dstsOk lp.tmps.size assign = true ∧ dstsOk lp.tmps.size body = true ∧ ∀ p, p ∈ ps → p < lp.tmps.size) ∧
    ∀ t : Nat, Rep c (lp.tmps.getD t undef) (fr.getD t (.tuple []))
theorem tuple_none {c c' : Cx} {v : Value} (h : Rep c v (.tuple [])) : Rep c' v (.tuple []) := by
  cases h with
  | tuple a x ha _ => exact .tuple a [] ha fun i d hi => by simp at hi
theorem tuple_move {c c' : Cx} {fr : List D} {g : Nat → Value} (h : ∀ v, Rep c v (.tuple fr) → Rep c' v (.tuple fr)) (hg : ∀ t : Nat, Rep c (g t) (fr.getD t (.tuple []))) : ∀ t : Nat, Rep c' (g t) (fr.getD t (.tuple [])) := by
  intro t
  by_cases ht : t < fr.length
  · have h1 : Rep c (.tuple ((List.range fr.length).map g).toArray) (.tuple fr) := .tuple _ _ (by simp) fun i d hi => by
      have hl : i < fr.length := (List.getElem?_eq_some_iff.1 hi).1
      have := hg i
      rw [List.getD_eq_getElem?_getD, hi] at this
      simpa [Array.getD_eq_getD_getElem?, hl] using this
    have h2 := h _ h1
    cases h2 with
    | tuple _ _ _ h3 =>
      have := h3 t _ (List.getElem?_eq_getElem ht)
      simpa [Array.getD_eq_getD_getElem?, ht, List.getD_eq_getElem?_getD] using this
  · have h0 := hg t
    have e : fr.getD t (.tuple []) = .tuple [] := by simp [List.getD_eq_getElem?_getD, List.getElem?_eq_none (Nat.le_of_not_lt ht)]
    rw [e] at h0 ⊢
    exact tuple_none h0
def SpOk (c : Cx) (m : Nat × Nat) : List (D × D) → Prop
  | [(.int .i64 1, .tuple [.int .i64 T, .int .i64 e, .str l])] => BldOk c.w m T.toNat e.toNat l
  | (.int .i64 2, .tuple (.int .i64 ck :: bs)) :: ents => m.2 = m.1 ∧ MapIs c m.1 ck bs ents
  | [(.int .i64 3, .cod ps as bo), (.int .i64 st, pend), (.undef, .tuple fr)] => m.2 = m.1 ∧ LoopIs c m.1 ps as bo st pend fr
  | _ => False
theorem spOk_inv {c : Cx} {m : Nat × Nat} {es : List (D × D)} (h : SpOk c m es) : (∃ T e l, es = [(.int .i64 1, .tuple [.int .i64 T, .int .i64 e, .str l])] ∧ BldOk c.w m T.toNat e.toNat l) ∨
    (∃ ck bs ents, es = (.int .i64 2, .tuple (.int .i64 ck :: bs)) :: ents ∧ m.2 = m.1 ∧ MapIs c m.1 ck bs ents) ∨
    ∃ ps as bo st pend fr, es = [(.int .i64 3, .cod ps as bo), (.int .i64 st, pend), (.undef, .tuple fr)] ∧ m.2 = m.1 ∧ LoopIs c m.1 ps as bo st pend fr := by
  unfold SpOk at h
  split at h
  · exact .inl ⟨_, _, _, rfl, h⟩
  · exact .inr (.inl ⟨_, _, _, rfl, h.1, h.2⟩)
  · exact .inr (.inr ⟨_, _, _, _, _, _, rfl, h.1, h.2⟩)
  · cases h
theorem SpOk.lt {c : Cx} {m : Nat × Nat} {es : List (D × D)} (h : SpOk c m es) : m.1 < c.w.heap.size ∧ m.2 < c.w.heap.size := by
  rcases spOk_inv h with ⟨T, e, l, rfl, h'⟩ | ⟨ck, bs, ents, rfl, hm, ms, n, _, h', _⟩ | ⟨ps, as, bo, st, pend, fr, rfl, hm, lp, h', _⟩
  · exact BldOk.lt h'
  · rw [hm]
    exact ⟨(Array.getElem?_eq_some_iff.1 h').1, (Array.getElem?_eq_some_iff.1 h').1⟩
  · rw [hm]
    exact ⟨(Array.getElem?_eq_some_iff.1 h').1, (Array.getElem?_eq_some_iff.1 h').1⟩
/-- It holds on where its blocks stayed, and what it holds is told as before. -/
theorem SpOk.to {c c' : Cx} {m : Nat × Nat} {es : List (D × D)} (h : SpOk c m es) (h1 : c'.w.heap[m.1]? = c.w.heap[m.1]?) (h2 : c'.w.heap[m.2]? = c.w.heap[m.2]?) (_hr : ∀ e, e ∈ es → ∀ v, (Rep c v e.1 → Rep c' v e.1) ∧ (Rep c v e.2 → Rep c' v e.2)) : SpOk c' m es := by
  rcases spOk_inv h with ⟨T, e, l, rfl, h'⟩ | ⟨ck, bs, ents, rfl, hm, ms, n, q1, q2, q3, q4, q5, q6⟩ | ⟨ps, as, bo, st, pend, fr, rfl, hm, lp, q1, q2, q3, q4, q6, q7, q8, q9⟩
  · exact BldOk.to h' h1 h2
  · exact ⟨hm, ms, n, q1, h1.trans q2, q3, q4, fun i x hx => ⟨(_hr x (List.mem_cons_of_mem _ (List.mem_of_getElem? hx)) _).1 (q5 i x hx).1, (_hr x (List.mem_cons_of_mem _ (List.mem_of_getElem? hx)) _).2 (q5 i x hx).2⟩, q6⟩
  · exact ⟨hm, lp, h1.trans q1, q2, q3, q4, q6, q7, q8, tuple_move (fun v => (_hr (.undef, .tuple fr) (by simp) v).2) q9⟩
def MapOk (c : Cx) (r : Nat) (ro : Bool) (es : List (D × D)) : Prop :=
  SpOk c (c.mu r) es ∧ (ro = true → c.im (c.mu r).1 ∧ c.im (c.mu r).2) ∧ (ro = false → ¬ c.im (c.mu r).1 ∧ ¬ c.im (c.mu r).2)
def BlkOk (c : Cx) (r : Nat) : Blk → Prop
  | .gone _ => True
  | .cells _ sz ro xs => CellsOk c r sz ro xs
  | .map _ ro es => MapOk c r ro es
structure Inv (c : Cx) : Prop where
  imlt : ∀ b, c.im b → b < c.w.heap.size
  blk : ∀ r k, c.hp[r]? = some k → BlkOk c r k
  inj : ∀ (r r' : Nat) (k k' : Blk) (b : Nat), c.hp[r]? = some k → c.hp[r']? = some k' → k.alive = true → k'.alive = true → k.at (c.mu r) b → k'.at (c.mu r') b → r = r'

theorem BlkOk.atlt {c : Cx} {r : Nat} {k : Blk} (h : BlkOk c r k) (hk : k.alive = true) {b : Nat} (hb : k.at (c.mu r) b) : b < c.w.heap.size := by
  have key : ∀ (x : Nat) (o : Obj), c.w.heap[x]? = some o → x < c.w.heap.size := fun x o ho => (Array.getElem?_eq_some_iff.1 ho).1
  cases k with
  | gone g => simp [Blk.alive] at hk
  | cells g sz ro xs => obtain ⟨_, cs, e, fz, h1, _⟩ := h; obtain rfl : (c.mu r).1 = b := hb; exact key _ _ h1
  | map g ro es =>
    have h1 := h.1.lt
    rcases hb with rfl | rfl
    · exact h1.1
    · exact h1.2
theorem BlkOk.lt {c : Cx} {r : Nat} {k : Blk} (h : BlkOk c r k) (hk : k.alive = true) : (c.mu r).1 < c.w.heap.size := h.atlt hk (k.at_fst _)
theorem Inv.ownlt {c : Cx} (h : Inv c) {b : Nat} (hb : Own c b) : b < c.w.heap.size := by
  obtain ⟨r, k, h1, h2, h3⟩ := hb
  exact (h.blk r k h1).atlt h2 h3

theorem BlkOk.carry {c c' : Cx} {r : Nat} {k : Blk} (h : BlkOk c r k) (rep : ∀ v d, Rep c v d → Rep c' v d) (hm : c'.mu r = c.mu r)
    (hb : k.alive = true → ∀ b, k.at (c.mu r) b → c'.w.heap[b]? = c.w.heap[b]?) (hi : k.alive = true → ∀ b, k.at (c.mu r) b → (c'.im b ↔ c.im b)) : BlkOk c' r k := by
  cases k with
  | gone g => trivial
  | cells g sz ro xs =>
    obtain ⟨h0, cs, e, fz, h1, h2, h3, h4, h5, h6, h7⟩ := h
    refine ⟨h0, cs, e, fz, ?_, ?_, ?_, ?_, ?_, ?_, h7⟩
    · rw [hm, hb rfl _ rfl]; exact h1
    · rw [hm]; exact h2
    · rw [hm]; exact h3
    · rw [hm]; exact fun i x hx => ⟨(h4 i x hx).1, fun o d ho => rep _ _ ((h4 i x hx).2 o d ho)⟩
    · rw [hm, hi rfl _ rfl]; exact h5
    · rw [hm, hi rfl _ rfl]; exact h6
  | map g ro es =>
    obtain ⟨h1, h5, h6⟩ := h
    refine ⟨?_, ?_, ?_⟩
    · rw [hm]; exact h1.to (hb rfl _ (.inl rfl)) (hb rfl _ (.inr rfl)) fun e _ v => ⟨rep _ _, rep _ _⟩
    · rw [hm, hi rfl _ (.inl rfl), hi rfl _ (.inr rfl)]; exact h5
    · rw [hm, hi rfl _ (.inl rfl), hi rfl _ (.inr rfl)]; exact h6
theorem BlkOk.mono {c c' : Cx} {r : Nat} {k : Blk} (h : BlkOk c r k) (le : Le c c') (hm : c'.mu r = c.mu r)
    (hb : k.alive = true → ∀ b, k.at (c.mu r) b → c'.w.heap[b]? = c.w.heap[b]?) (hi : k.alive = true → ∀ b, k.at (c.mu r) b → (c'.im b ↔ c.im b)) : BlkOk c' r k := h.carry (fun _ _ h => h.mono le) hm hb hi
end Go.Proofs.Ytejpgmemohchaaa.Vm
