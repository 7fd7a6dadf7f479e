/- What each operation does to plain values, and that the machine does just that: types, operands, operations that make no memory. -/
import Derived.Test.YtejpgmemohchaaaVmB
import Derived.Laws.Strings
import Derived.Laws.StructEq
namespace Go.Proofs.Ytejpgmemohchaaa.Vm
open Go

/-- The cells of a byte that stands in a list. -/
abbrev encB (c : UInt8) : List D := [.int .u8 c.toNat]

inductive K where
  | bool | int (k : IntKind) | str
  | agg (fs : List (Nat × TypeId))
  | arr (n : Nat) (e : TypeId)
  | slice (e : TypeId) | ptr (e : TypeId) | map (k e : TypeId) | iface | func | other
structure TI where
  k : K
  size : Nat
  bytes : Nat
  zero : List D
  eq : Bool
instance : Inhabited TI := ⟨⟨.other, 0, 0, [], false⟩⟩

def K.fits : K → TypeDesc → Prop
  | .bool, d => d = .bool
  | .int k, d => d = .int k
  | .str, d => d = .string
  | .agg fs, d => ∃ fields, d = .struct fields ∧ fields.toList.map (fun f => (f.offset, f.type)) = fs ∧ ∀ f ∈ fields.toList, f.name ≠ "_"
  | .arr n e, d => d = .array n e
  | .slice e, d => d = .slice e
  | .ptr e, d => d = .pointer e
  | .map k e, d => d = .map k e
  | .iface, d => ∃ ms, d = .interface ms
  | .func, d => ∃ a b v, d = .func a b v
  | .other, _ => True

def isAg : TypeDesc → Bool
  | .struct _ | .array _ _ => true
  | _ => false
/-- Does a plain value stand for a machine value whatever the memory? -/
def zm : Value → D → Bool
  | .bool a, .bool b => a == b
  | .int k n, .int k' n' => decide (k = k') && n == n'
  | .string s, .str l => s.data.toList == l
  | .pointer none, .nilptr => true
  | .slice none 0 0, .nilsl => true
  | .map none, .nilmap => true
  | .nilIface, .niliface => true
  | .nilFunc, .nilfunc => true
  | _, _ => false
theorem zm_rep {c : Cx} {v : Value} {d : D} (h : zm v d = true) : Rep c v d := by
  unfold zm at h
  split at h
  · obtain rfl := by simpa using h
    exact .bool _
  · simp at h
    obtain ⟨rfl, rfl⟩ := h
    exact .int _ _
  · exact .str _ _ (by simpa using h)
  · exact .nilptr
  · exact .nilsl
  · exact .nilmap
  · exact .niliface
  · exact .nilfunc
  · cases h
/-- Scalar cells, and living references: no aggregate, and not nothing. -/
def oneD (H : Heap) : D → Bool
  | .undef | .agg _ | .tuple _ => false
  | .ref r _ _ g => match H[r]? with
    | some (.cells g' _ _ _) => g' == g
    | _ => false
  | .slice r _ _ g => match H[r]? with
    | some (.cells g' _ _ _) => g' == g
    | _ => false
  | .map r g => match H[r]? with
    | some (.map g' _ _) => g' == g
    | _ => false
  | .yld r g => match H[r]? with
    | some (.map g' _ _) => g' == g
    | _ => false
  | _ => true
theorem rep_one {c : Cx} {v : Value} {d : D} (h : Rep c v d) (hd : oneD c.hp d = true) : v.oneCell' = true ∧ v.cells = #[v] := by
  cases h <;> first
    | exact ⟨rfl, rfl⟩
    | (simp [oneD] at hd; done)
    | skip
  · rename_i r i o g hr hg h
    simp only [oneD] at hd
    split at hd
    · rename_i g' sz ro xs hx
      obtain rfl := by simpa using hd
      rw [h sz ro xs hx]
      exact ⟨rfl, rfl⟩
    · cases hd
  · rename_i r i n g hr hg h
    simp only [oneD] at hd
    split at hd
    · rename_i g' sz ro xs hx
      obtain rfl := by simpa using hd
      obtain ⟨a, cap, rfl, _⟩ := h sz ro xs hx
      exact ⟨rfl, rfl⟩
    · cases hd
  · rename_i r g hr hg h
    simp only [oneD] at hd
    split at hd
    · rename_i g' ro es hx
      obtain rfl := by simpa using hd
      rw [h ro es hx]
      exact spV_one _ _
    · cases hd
  · rename_i r g hr hg h
    simp only [oneD] at hd
    split at hd
    · rename_i g' ro es hx
      obtain rfl := by simpa using hd
      rw [h ro es hx]
      exact ⟨rfl, rfl⟩
    · cases hd

def TiOk (P : Program) (t : TypeId) (ti : TI) : Prop :=
  match ti.k with
  | .other => True
  | _ => ∃ i z d, P.info? t = some i ∧ i.size = ti.size ∧ i.bytes = ti.bytes ∧ i.zero = some z ∧ z.cells.size = ti.zero.length ∧ ti.zero.length = ti.size ∧
      (∀ j x, ti.zero[j]? = some x → zm (z.cells.getD j undef) x = true) ∧ P.underlying t = some d ∧ ti.k.fits d ∧
      (isAg d = true ↔ ∃ a, z = .agg a) ∧
      (ti.eq = true → P.stoodInHeld t = false ∧ P.eqGuardType P.depth t = false)

/-- The program, what is known of its types, and what its package-level variables hold. -/
structure Lang where
  P : Program
  T : TypeId → TI
  G : Nat → D
structure Lang.Ok (L : Lang) : Prop where
  ty : ∀ t, TiOk L.P t (L.T t)
  mixed : L.P.follows .mixedOrders = true

def constD : Value → D
  | .bool b => .bool b
  | .int k n => .int k n
  | .string s => .str s.data.toList
  | .pointer none => .nilptr
  | .slice none 0 0 => .nilsl
  | .map none => .nilmap
  | .nilIface => .niliface
  | .nilFunc => .nilfunc
  | _ => .undef
theorem const_rep {c : Cx} (v : Value) : Rep c v (constD v) := by
  unfold constD
  split
  · exact .bool _
  · exact .int _ _
  · exact .str _ _ rfl
  · exact .nilptr
  · exact .nilsl
  · exact .nilmap
  · exact .niliface
  · exact .nilfunc
  · exact .undef _
/-- A frame: what each temporary holds. -/
abbrev Fr := Nat → D
def Fr.put (f : Fr) (d : Option Nat) (v : D) : Fr := match d with
  | some t => fun x => if x = t then v else f x
  | none => f
def evD (L : Lang) (f : Fr) : Operand → D
  | .tmp t => f t
  | .const v => constD v
  | .global g => L.G g
  | .func g => .func (.func g) [] []
def FrRep (c : Cx) (a : Array Value) (f : Fr) : Prop := ∀ t, Rep c (a.getD t undef) (f t)
def GlOk (L : Lang) (c : Cx) : Prop := ∀ g, Rep c (.pointer (some ⟨g, 0, none⟩)) (L.G g)
theorem FrRep.mono {c c' : Cx} {a : Array Value} {f : Fr} (h : FrRep c a f) (le : Le c c') : FrRep c' a f := fun t => (h t).mono le
theorem GlOk.mono {L : Lang} {c c' : Cx} (h : GlOk L c) (le : Le c c') : GlOk L c' := fun t => (h t).mono le
theorem ev_rep {L : Lang} {c : Cx} {a : Act} {f : Fr} (hf : FrRep c a.tmps f) (hg : GlOk L c) (x : Operand) : Rep c (a.eval x) (evD L f x) := by
  cases x with
  | tmp t => exact hf t
  | const v => exact const_rep v
  | global g => exact hg g
  | func g => exact .func _ _ _ _ _ rfl rfl (fun i d h => by simp at h) (fun i d h => by simp at h)
theorem put_rep {c : Cx} {a : Act} {f : Fr} {v : Value} {d : D} {t : Option Nat} (hf : FrRep c a.tmps f) (hv : Rep c v d) (ht : ∀ x, t = some x → x < a.tmps.size) :
    FrRep c (a.put t v).tmps (f.put t d) := by
  intro x
  cases t with
  | none => exact hf x
  | some y =>
    have hy := ht y rfl
    simp only [Act.put, Fr.put]
    by_cases h : x = y
    · subst h
      simp [Array.getD_eq_getD_getElem?, hy]
      exact hv
    · rw [if_neg h]
      have := hf x
      simpa [Array.getD_eq_getD_getElem?, Array.getElem?_setIfInBounds_ne (Ne.symm h)] using this

/-- The machine's step yields what stands for d, and the small heap is H behind it. -/
def ValOk (P : Program) (c : Cx) (s : Sem Value) (d : D) (H : Heap) : Prop :=
  ∃ v c', s.run P c.w = .ok v c'.w ∧ c'.hp = H ∧ Inv c' ∧ Le c c' ∧ Rep c' v d
theorem ValOk.same {P : Program} {c : Cx} {s : Sem Value} {d : D} {v : Value} (inv : Inv c) (h : s.run P c.w = .ok v c.w) (hv : Rep c v d) : ValOk P c s d c.hp :=
  ⟨v, c, h, rfl, inv, .refl, hv⟩
theorem ValOk.congr {P : Program} {c : Cx} {s s' : Sem Value} {d : D} {H : Heap} (h : ValOk P c s' d H) (he : s.run P c.w = s'.run P c.w) : ValOk P c s d H := by
  obtain ⟨v, c', h1, h2⟩ := h
  exact ⟨v, c', he.trans h1, h2⟩

/-! ### numbers, truths, texts -/
def binD (op : BinOp) (x y : D) : Option D :=
  match x, y with
  | .int k a, .int k' b =>
    match op with
    | .shl => if 0 ≤ b then some (.int k (k.wrap (a * 2 ^ (min b.toNat k.bits)))) else none
    | .shr => if 0 ≤ b then some (.int k (a.fdiv (2 ^ (min b.toNat k.bits)))) else none
    | op => if k = k' then
      match op with
      | .add => some (.int k (k.wrap (a + b)))
      | .sub => some (.int k (k.wrap (a - b)))
      | .mul => some (.int k (k.wrap (a * b)))
      | .quo => if b = 0 then none else some (.int k (k.wrap (a.tdiv b)))
      | .rem => if b = 0 then none else some (.int k (a.tmod b))
      | .and => some (.int k (k.wrap (BitVec.ofInt k.bits a &&& BitVec.ofInt k.bits b).toNat))
      | .or => some (.int k (k.wrap (BitVec.ofInt k.bits a ||| BitVec.ofInt k.bits b).toNat))
      | .xor => some (.int k (k.wrap (BitVec.ofInt k.bits a ^^^ BitVec.ofInt k.bits b).toNat))
      | .andNot => some (.int k (k.wrap (BitVec.ofInt k.bits a &&& ~~~ BitVec.ofInt k.bits b).toNat))
      | .eql => some (.bool (a == b))
      | .neq => some (.bool (a != b))
      | .lss => some (.bool (decide (a < b)))
      | .leq => some (.bool (decide (a ≤ b)))
      | .gtr => some (.bool (decide (a > b)))
      | .geq => some (.bool (decide (a ≥ b)))
      | _ => none
      else none
  | .str a, .str b =>
    match op with
    | .add => if (a.length + b.length : Nat) ≤ 9223372036854775807 then some (.str (a ++ b)) else none
    | .eql => some (.bool (a == b))
    | .neq => some (.bool (!(a == b)))
    | .lss => some (.bool (Op.bytesLess a b))
    | .leq => some (.bool (Op.bytesLess a b || a == b))
    | .gtr => some (.bool (!(Op.bytesLess a b || a == b)))
    | .geq => some (.bool (!Op.bytesLess a b))
    | _ => none
  | _, _ => none
theorem str_list (s : ByteArray) : s.toList = s.data.toList := ByteArray.toList_eq s
theorem bin_ok {P : Program} {c : Cx} (inv : Inv c) {op : BinOp} {t : TypeId} {u v : Value} {x y d : D} (hx : Rep c u x) (hy : Rep c v y) (h : binD op x y = some d) :
    ValOk P c (binOp op t u v) d c.hp := by
  unfold binD at h
  split at h
  · cases hx
    cases hy
    rename_i k a k' b
    cases op <;> (try dsimp only at h)
    case shl =>
      split at h
      · obtain rfl := Option.some.inj h
        refine .same inv ?_ (.int _ _)
        simp [binOp, Op.shift, show ¬ b < 0 by omega]
      · cases h
    case shr =>
      split at h
      · obtain rfl := Option.some.inj h
        refine .same inv ?_ (.int _ _)
        simp [binOp, Op.shift, show ¬ b < 0 by omega]
      · cases h
    all_goals
      by_cases hk : k = k'
      · subst hk
        simp only [if_true] at h
        first
          | (obtain rfl := Option.some.inj h
             refine .same inv ?_ (by constructor)
             simp [binOp, Op.intArith, Op.intBits, Op.intCmp]
             done)
          | (by_cases h0 : b = 0
             · simp [h0] at h
             · simp only [if_neg h0] at h
               obtain rfl := Option.some.inj h
               refine .same inv ?_ (by constructor)
               simp [binOp, Op.intDiv, h0])
          | cases h
      · simp only [if_neg hk] at h
        cases h
  · cases hx
    cases hy
    rename_i l1 l2 sa ha sb hb
    subst ha
    subst hb
    cases op <;> (try dsimp only at h) <;> first
      | (obtain rfl := Option.some.inj h
         refine .same inv ?_ (.bool _)
         simp [binOp, Op.stringOp, str_list]
         done)
      | (cases h; done)
      | skip
    by_cases hl : (sa.data.toList.length + sb.data.toList.length : Nat) ≤ 9223372036854775807
    case neg => simp only [if_neg hl] at h; cases h
    simp only [if_pos hl] at h
    obtain rfl := Option.some.inj h
    refine .same (v := .string (sa ++ sb)) inv ?_ (.str _ _ (by simp))
    have h1 : ¬ (IntKind.max .i64 < (sa.size : Int) + (sb.size : Int)) := by
      have ea : sa.data.toList.length = sa.size := by simp
      have eb : sb.data.toList.length = sb.size := by simp
      rw [ea, eb] at hl
      simp [IntKind.max, IntKind.signed, IntKind.bits]
      omega
    have h2 : ((sa.size + sb.size : Nat) : Int) ≤ IntKind.max .i64 := by omega
    simp only [binOp, Op.stringOp]
    rw [if_neg (by omega)]
    rfl
  · cases h


/-! ### '==' of what is no number and no text -/
theorem ti_some {P : Program} {t : TypeId} {ti : TI} (h : TiOk P t ti) (hk : ti.k ≠ .other) : ∃ i z d, P.info? t = some i ∧ i.size = ti.size ∧ i.bytes = ti.bytes ∧ i.zero = some z ∧ z.cells.size = ti.zero.length ∧ ti.zero.length = ti.size ∧
      (∀ j x, ti.zero[j]? = some x → zm (z.cells.getD j undef) x = true) ∧ P.underlying t = some d ∧ ti.k.fits d ∧
      (isAg d = true ↔ ∃ a, z = .agg a) ∧
      (ti.eq = true → P.stoodInHeld t = false ∧ P.eqGuardType P.depth t = false) := by
  unfold TiOk at h
  split at h
  · rename_i h0; exact absurd h0 hk
  · exact h
theorem ti_under {P : Program} {t : TypeId} {ti : TI} (h : TiOk P t ti) (hk : ti.k ≠ .other) : ∃ d, P.underlying t = some d ∧ ti.k.fits d := by
  obtain ⟨i, z, d, _, _, _, _, _, _, _, h8, h9, _⟩ := ti_some h hk
  exact ⟨d, h8, h9⟩
def K.scal : K → Bool
  | .bool | .int _ | .str => true
  | _ => false
/-- Two scalars of a kind. -/
def eqCell : D → D → Option Bool
  | .bool a, .bool b => some (a == b)
  | .int k a, .int k' b => if k = k' then some (a == b) else none
  | .str a, .str b => some (a == b)
  | _, _ => none
def scalIs (k : K) (x : D) : Bool := match k, x with
  | .bool, .bool _ => true
  | .int k, .int k' _ => decide (k = k')
  | .str, .str _ => true
  | _, _ => false
def eqAgg (T : TypeId → TI) (xs ys : List D) : List (Nat × TypeId) → Option Bool
  | [] => some true
  | (o, t) :: fs => match xs[o]?, ys[o]? with
    | some x, some y =>
      if scalIs (T t).k x = true then
        match eqCell x y, eqAgg T xs ys fs with
        | some a, some b => some (a && b)
        | _, _ => none
      else none
    | _, _ => none
def alive (H : Heap) (r g : Nat) : Bool := match H[r]? with
  | some (.cells g' _ _ _) => g' == g
  | _ => false
/-- Against the literal nil, and truths, and flat structs. -/
def eqD (T : TypeId → TI) (H : Heap) (t : TypeId) (x y : D) : Option Bool :=
  match (T t).k, x, y with
  | .bool, .bool a, .bool b => some (a == b)
  | .ptr _, .nilptr, .nilptr => some true
  | .ptr _, .ref r _ _ g, .nilptr => if alive H r g then some false else none
  | .ptr _, .box _, .nilptr => some false
  | .slice _, .nilsl, .nilsl => some true
  | .slice _, .slice r _ _ g, .nilsl => if alive H r g then some false else none
  | .slice _, .isl _ (_ :: _), .nilsl => some false
  | .map _ _, .nilmap, .nilmap => some true
  | .map _ _, .imap _, .nilmap => some false
  | .iface, .iface _ _, .niliface => some false
  | .iface, .niliface, .niliface => if (T t).eq then some true else none
  | .func, .func _ _ _, .nilfunc => some false
  | .func, .nilfunc, .nilfunc => some true
  | .agg fs, .agg xs, .agg ys => if (T t).eq then eqAgg T xs ys fs else none
  | _, _, _ => none

theorem part_scal {P : Program} {t : TypeId} {d : TypeDesc} (hd : P.underlying t = some d) (hs : isAg d = false)
    {cs : Array Value} {o : Nat} {v : Value} (hv : cs[o]? = some v) (w : World) : (part t cs o).run P w = .ok v w := by
  unfold part isAgg
  cases d <;> simp_all [run_underlying hd, isAg]

theorem eqFields_ok {L : Lang} (ok : L.Ok) {c : Cx} {a b : Array Value} {xs ys : List D} (ha : a.size = xs.length) (hb : b.size = ys.length)
    (h1 : ∀ i d, xs[i]? = some d → Rep c (a.getD i undef) d) (h2 : ∀ i d, ys[i]? = some d → Rep c (b.getD i undef) d) (n : Nat) :
    ∀ (fields : List Field), (∀ f ∈ fields, f.name ≠ "_") → ∀ r, eqAgg L.T xs ys (fields.map fun f => (f.offset, f.type)) = some r →
      (Op.eqFields (n + 1) a b fields).run L.P c.w = .ok r c.w
  | [], _, r, h => by
    simp [eqAgg] at h
    subst h
    simp [Op.eqFields]
  | f :: fs, hn, r, h => by
    simp only [List.map_cons, eqAgg] at h
    cases hx : xs[f.offset]? with
    | none => simp [hx] at h
    | some x =>
    cases hy : ys[f.offset]? with
    | none => simp [hx, hy] at h
    | some y =>
    simp only [hx, hy] at h
    by_cases hk : scalIs (L.T f.type).k x = true
    case neg => simp [hk] at h
    simp only [hk, if_true] at h
    cases he : eqCell x y with
    | none => simp [he] at h
    | some e =>
    cases hr : eqAgg L.T xs ys (fs.map fun f => (f.offset, f.type)) with
    | none => simp [he, hr] at h
    | some s =>
    simp only [he, hr, Option.some.injEq] at h
    have ih := eqFields_ok ok ha hb h1 h2 n fs (fun g hg => hn g (List.mem_cons_of_mem _ hg)) s hr
    have rx := h1 _ _ hx
    have ry := h2 _ _ hy
    have lx : f.offset < a.size := by rw [ha]; exact (List.getElem?_eq_some_iff.1 hx).1
    have ly : f.offset < b.size := by rw [hb]; exact (List.getElem?_eq_some_iff.1 hy).1
    have ax : a[f.offset]? = some (a.getD f.offset undef) := by simp [Array.getD_eq_getD_getElem?, lx]
    have ay : b[f.offset]? = some (b.getD f.offset undef) := by simp [Array.getD_eq_getD_getElem?, ly]
    generalize a.getD f.offset undef = u at rx ax
    generalize b.getD f.offset undef = v at ry ay
    have hnf := hn f (List.mem_cons_self ..)
    have step : ∀ d, L.P.underlying f.type = some d → isAg d = false → (Op.equalIn (n + 1) f.type u v).run L.P c.w = .ok e c.w →
        (Op.eqFields (n + 1) a b (f :: fs)).run L.P c.w = .ok r c.w := by
      intro d hd hs heq
      simp only [Op.eqFields, if_pos hnf, Sem.run_bind, part_scal hd hs ax, part_scal hd hs ay, heq, Result.andThen_ok]
      subst h
      cases e
      · simp
      · simpa using ih
    unfold scalIs at hk
    split at hk
    · rename_i hT
      obtain ⟨d, hd, hf⟩ := ti_under (ok.ty f.type) (by rw [hT]; simp)
      rw [hT] at hf
      obtain rfl : d = .bool := hf
      cases rx
      cases ry <;> simp [eqCell] at he
      subst he
      exact step _ hd rfl (by simp [Op.equalIn, run_underlying hd])
    · rename_i hT
      obtain ⟨d, hd, hf⟩ := ti_under (ok.ty f.type) (by rw [hT]; simp)
      rw [hT] at hf
      obtain rfl : d = .int _ := hf
      cases rx
      cases ry <;> simp [eqCell] at he
      obtain ⟨rfl, rfl⟩ := he
      exact step _ hd rfl (by simp [Op.equalIn, run_underlying hd])
    · rename_i hT
      obtain ⟨d, hd, hf⟩ := ti_under (ok.ty f.type) (by rw [hT]; simp)
      rw [hT] at hf
      obtain rfl : d = .string := hf
      cases rx
      rename_i s1 e1
      cases ry <;> simp [eqCell] at he
      rename_i s2 e2
      subst he
      refine step _ hd rfl ?_
      simp only [Op.equalIn, Sem.run_bind, run_underlying hd, Result.andThen_ok, Sem.run_pure]
      rw [beq_toListBytes, str_list, str_list, e1, e2]
    · cases hk
theorem alive_some {H : Heap} {r g : Nat} (h : alive H r g = true) : ∃ sz ro xs, H[r]? = some (.cells g sz ro xs) := by
  unfold alive at h
  split at h
  · rename_i g' sz ro xs hx
    obtain rfl := by simpa using h
    exact ⟨sz, ro, xs, hx⟩
  · cases h
set_option maxHeartbeats 2000000 in
theorem eq_ok {L : Lang} (ok : L.Ok) {c : Cx} {t : TypeId} {u v : Value} {x y : D} {r : Bool} (hx : Rep c u x) (hy : Rep c v y) (h : eqD L.T c.hp t x y = some r) :
    (Op.equal t u v).run L.P c.w = .ok r c.w ∧ (∀ a b, (eqGuard .eql t a b u v).run L.P c.w = .ok () c.w) ∧ (∀ a b, (eqGuard .neq t a b u v).run L.P c.w = .ok () c.w) ∧
      (binOp .eql t u v = (do pure (.bool (← Op.equal t u v)))) ∧ (binOp .neq t u v = (do pure (.bool (!(← Op.equal t u v))))) := by
  have hd : (L.T t).k ≠ .other → ∃ d, L.P.underlying t = some d ∧ (L.T t).k.fits d := ti_under (ok.ty t)
  have hm : (∀ n, (Op.equalIn (n + 2) t u v).run L.P c.w = .ok r c.w) → (Op.equal t u v).run L.P c.w = .ok r c.w := fun h => h 9998
  unfold eqD at h
  split at h
  · rename_i hT
    obtain ⟨d, hu, hf⟩ := hd (by rw [hT]; simp)
    rw [hT] at hf
    obtain rfl : d = .bool := hf
    cases hx
    cases hy
    obtain rfl := Option.some.inj h
    exact ⟨hm fun n => by simp [Op.equalIn, run_underlying hu], fun _ _ => by simp [eqGuard], fun _ _ => by simp [eqGuard], rfl, rfl⟩
  · rename_i hT
    obtain ⟨d, hu, hf⟩ := hd (by rw [hT]; simp)
    rw [hT] at hf
    obtain rfl : d = .pointer _ := hf
    cases hx
    cases hy
    obtain rfl := Option.some.inj h
    exact ⟨hm fun n => by simp [Op.equalIn, run_underlying hu], fun _ _ => by simp [eqGuard], fun _ _ => by simp [eqGuard], rfl, rfl⟩
  · rename_i hT
    obtain ⟨d, hu, hf⟩ := hd (by rw [hT]; simp)
    rw [hT] at hf
    obtain rfl : d = .pointer _ := hf
    split at h
    case isFalse => cases h
    rename_i ha
    obtain rfl := Option.some.inj h
    obtain ⟨sz, ro, xs, hxx⟩ := alive_some ha
    cases hx
    rename_i hr hg hx
    obtain rfl := hx sz ro xs hxx
    cases hy
    exact ⟨hm fun n => by simp [Op.equalIn, run_underlying hu], fun _ _ => by simp [eqGuard], fun _ _ => by simp [eqGuard], rfl, rfl⟩
  · rename_i hT
    obtain ⟨d, hu, hf⟩ := hd (by rw [hT]; simp)
    rw [hT] at hf
    obtain rfl : d = .pointer _ := hf
    cases hx
    cases hy
    obtain rfl := Option.some.inj h
    exact ⟨hm fun n => by simp [Op.equalIn, run_underlying hu], fun _ _ => by simp [eqGuard], fun _ _ => by simp [eqGuard], rfl, rfl⟩
  · rename_i hT
    obtain ⟨d, hu, hf⟩ := hd (by rw [hT]; simp)
    rw [hT] at hf
    obtain rfl : d = .slice _ := hf
    cases hx
    cases hy
    obtain rfl := Option.some.inj h
    exact ⟨hm fun n => by simp [Op.equalIn, run_underlying hu], fun _ _ => by simp [eqGuard], fun _ _ => by simp [eqGuard], rfl, rfl⟩
  · rename_i hT
    obtain ⟨d, hu, hf⟩ := hd (by rw [hT]; simp)
    rw [hT] at hf
    obtain rfl : d = .slice _ := hf
    split at h
    case isFalse => cases h
    rename_i ha
    obtain rfl := Option.some.inj h
    obtain ⟨sz, ro, xs, hxx⟩ := alive_some ha
    cases hx
    rename_i hr hg hx
    obtain ⟨a, cap, rfl, _⟩ := hx sz ro xs hxx
    cases hy
    exact ⟨hm fun n => by simp [Op.equalIn, run_underlying hu], fun _ _ => by simp [eqGuard], fun _ _ => by simp [eqGuard], rfl, rfl⟩
  · rename_i hT
    obtain ⟨d, hu, hf⟩ := hd (by rw [hT]; simp)
    rw [hT] at hf
    obtain rfl : d = .slice _ := hf
    cases hx
    cases hy
    obtain rfl := Option.some.inj h
    exact ⟨hm fun n => by simp [Op.equalIn, run_underlying hu], fun _ _ => by simp [eqGuard], fun _ _ => by simp [eqGuard], rfl, rfl⟩
  · rename_i hT
    obtain ⟨d, hu, hf⟩ := hd (by rw [hT]; simp)
    rw [hT] at hf
    obtain rfl : d = .map _ _ := hf
    cases hx
    cases hy
    obtain rfl := Option.some.inj h
    exact ⟨hm fun n => by simp [Op.equalIn, run_underlying hu], fun _ _ => by simp [eqGuard], fun _ _ => by simp [eqGuard], rfl, rfl⟩
  · rename_i hT
    obtain ⟨d, hu, hf⟩ := hd (by rw [hT]; simp)
    rw [hT] at hf
    obtain rfl : d = .map _ _ := hf
    cases hx
    cases hy
    obtain rfl := Option.some.inj h
    exact ⟨hm fun n => by simp [Op.equalIn, run_underlying hu], fun _ _ => by simp [eqGuard], fun _ _ => by simp [eqGuard], rfl, rfl⟩
  · rename_i hT
    obtain ⟨d, hu, hf⟩ := hd (by rw [hT]; simp)
    rw [hT] at hf
    obtain ⟨ms, rfl⟩ : ∃ ms, d = .interface ms := hf
    cases hx
    cases hy
    obtain rfl := Option.some.inj h
    exact ⟨hm fun n => by simp [Op.equalIn, run_underlying hu], fun _ _ => by simp [eqGuard], fun _ _ => by simp [eqGuard], rfl, rfl⟩
  · rename_i hT
    obtain ⟨i, z, d, _, _, _, _, _, _, _, hu, hf, _, he⟩ := ti_some (ok.ty t) (by rw [hT]; simp)
    rw [hT] at hf
    obtain ⟨ms, rfl⟩ : ∃ ms, d = .interface ms := hf
    cases hx
    cases hy
    split at h
    case isFalse => cases h
    rename_i hq
    obtain rfl := Option.some.inj h
    have hms : ms.isEmpty = true := by
      have h1 := (he hq).2
      have hd : L.P.depth = (2 * (L.P.types.size + Made.depth) + 1) + 1 := rfl
      rw [hd] at h1
      simpa [Program.eqGuardType, hu] using h1
    have hgn : ∀ n, (Op.eqGuardIn (n + 1) t .nilIface .nilIface).run L.P c.w = .ok false c.w := fun n => by simp [Op.eqGuardIn, run_underlying hu, hms]
    have hgd : (Op.eqGuardIn Op.maxDepth t .nilIface .nilIface).run L.P c.w = .ok false c.w := hgn 9999
    exact ⟨hm fun n => by simp [Op.equalIn, run_underlying hu], fun a b => by unfold eqGuard; simp [hgd], fun a b => by unfold eqGuard; simp [hgd], rfl, rfl⟩
  · rename_i hT
    obtain ⟨d, hu, hf⟩ := hd (by rw [hT]; simp)
    rw [hT] at hf
    obtain ⟨a, b, q, rfl⟩ : ∃ a b q, d = .func a b q := hf
    cases hx
    cases hy
    obtain rfl := Option.some.inj h
    exact ⟨hm fun n => by simp [Op.equalIn, run_underlying hu], fun _ _ => by simp [eqGuard], fun _ _ => by simp [eqGuard], rfl, rfl⟩
  · rename_i hT
    obtain ⟨d, hu, hf⟩ := hd (by rw [hT]; simp)
    rw [hT] at hf
    obtain ⟨a, b, q, rfl⟩ : ∃ a b q, d = .func a b q := hf
    cases hx
    cases hy
    obtain rfl := Option.some.inj h
    exact ⟨hm fun n => by simp [Op.equalIn, run_underlying hu], fun _ _ => by simp [eqGuard], fun _ _ => by simp [eqGuard], rfl, rfl⟩
  · rename_i hT
    obtain ⟨i, z, d, _, _, _, _, _, _, _, hu, hf, _, he⟩ := ti_some (ok.ty t) (by rw [hT]; simp)
    rw [hT] at hf
    obtain ⟨fields, rfl, hfs, hn⟩ := hf
    split at h
    case isFalse => cases h
    rename_i hq
    obtain ⟨hs, hg⟩ := he hq
    cases hx with
    | agg a xs ha _ h1 =>
    cases hy with
    | agg b ys hb _ h2 =>
    have hfo : L.P.fieldsOf t = fields := by simp [Program.fieldsOf, hu]
    have hrun := fun n => run_equalIn_struct (P := L.P) c.w (n + 1) t a b (by rw [hfo]; exact hu) hs
    refine ⟨hm fun n => by rw [hrun n, hfo]; exact eqFields_ok ok ha hb h1 h2 n fields.toList hn r (by rw [hfs]; exact h), fun _ _ => by simp [eqGuard, hg], fun _ _ => by simp [eqGuard, hg], rfl, rfl⟩
  · cases h

/-- The operation '==', '<', '+' and their kin. -/
def binOpD (T : TypeId → TI) (H : Heap) (op : BinOp) (t : TypeId) (x y : D) : Option D :=
  match binD op x y with
  | some d => some d
  | none => match op with
    | .eql => (eqD T H t x y).map .bool
    | .neq => (eqD T H t x y).map fun b => .bool (!b)
    | _ => none
theorem guard_bin {P : Program} {c : Cx} {op : BinOp} {t : TypeId} {a b : Operand} {u v : Value} {x y d : D} (hx : Rep c u x) (hy : Rep c v y) (h : binD op x y = some d) :
    (eqGuard op t a b u v).run P c.w = .ok () c.w := by
  unfold binD at h
  split at h
  · cases hx
    cases hy
    cases op <;> simp [eqGuard]
  · cases hx
    cases hy
    cases op <;> simp [eqGuard]
  · cases h
theorem binOp_ok {L : Lang} (ok : L.Ok) {c : Cx} (inv : Inv c) {op : BinOp} {t : TypeId} {a b : Operand} {u v : Value} {x y d : D} (hx : Rep c u x) (hy : Rep c v y) (h : binOpD L.T c.hp op t x y = some d) :
    ValOk L.P c (do eqGuard op t a b u v; binOp op t u v) d c.hp := by
  unfold binOpD at h
  cases hb : binD op x y with
  | some e =>
    simp only [hb, Option.some.injEq] at h
    subst h
    refine (bin_ok (P := L.P) (t := t) inv hx hy hb).congr ?_
    simp only [Sem.run_bind, guard_bin hx hy hb, Result.andThen_ok]
  | none =>
    simp only [hb] at h
    cases op <;> simp only [Option.map_eq_some_iff] at h <;> (try (cases h; done))
    · obtain ⟨r, hr, rfl⟩ := h
      obtain ⟨h1, h2, _, h4, _⟩ := eq_ok ok hx hy hr
      refine .same inv ?_ (.bool _)
      simp only [Sem.run_bind, h2, Result.andThen_ok, h4, h1, Sem.run_pure]
    · obtain ⟨r, hr, rfl⟩ := h
      obtain ⟨h1, _, h3, _, h5⟩ := eq_ok ok hx hy hr
      refine .same inv ?_ (.bool _)
      simp only [Sem.run_bind, h3, Result.andThen_ok, h5, h1, Sem.run_pure]
def unD (op : UnOp) (x : D) : Option D := match op, x with
  | .neg, .int k n => some (.int k (k.wrap (0 - n)))
  | .not, .bool b => some (.bool (!b))
  | .xor, .int k n => some (.int k (k.wrap (BitVec.ofInt k.bits (if k.signed then -1 else k.max) ^^^ BitVec.ofInt k.bits n).toNat))
  | _, _ => none
theorem un_ok {P : Program} {c : Cx} (inv : Inv c) {op : UnOp} {u : Value} {x d : D} (hx : Rep c u x) (h : unD op x = some d) : ValOk P c (Op.unary op u) d c.hp := by
  unfold unD at h
  split at h
  · cases hx
    obtain rfl := Option.some.inj h
    exact .same inv (by simp [Op.unary, Op.intArith]) (.int _ _)
  · cases hx
    obtain rfl := Option.some.inj h
    exact .same inv (by simp [Op.unary]) (.bool _)
  · cases hx
    obtain rfl := Option.some.inj h
    exact .same inv (by simp [Op.unary, Op.intBits]) (.int _ _)
  · cases h
def pickD (c a b : D) : Option D := match c with
  | .bool t => some (match a, b with
    | .bool x, .bool y => .bool (bif t then x else y)
    | _, _ => bif t then a else b)
  | _ => none
theorem pick_ok {P : Program} {c : Cx} (inv : Inv c) {t u v : Value} {x y z d : D} (hx : Rep c t x) (hy : Rep c u y) (hz : Rep c v z) (h : pickD x y z = some d) :
    ValOk P c (do pure (if ← asBool t then u else v)) d c.hp := by
  unfold pickD at h
  split at h
  · cases hx
    rename_i b
    obtain rfl := Option.some.inj h
    refine .same (v := if b = true then u else v) inv (by simp [asBool]) ?_
    cases b
    · simp only [Bool.false_eq_true, if_false, cond_false]
      split
      · exact hz
      · exact hz
    · simp only [if_true, cond_true]
      split
      · exact hy
      · exact hy
  · cases h
end Go.Proofs.Ytejpgmemohchaaa.Vm
