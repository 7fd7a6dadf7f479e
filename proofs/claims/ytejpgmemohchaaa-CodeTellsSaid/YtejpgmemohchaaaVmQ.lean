/- Steps of a walk, one operation each; what simp opens. -/
import Derived.Test.YtejpgmemohchaaaVmP
set_option linter.unusedVariables false
set_option linter.unusedSimpArgs false
namespace Go.Proofs.Ytejpgmemohchaaa.Vm
open Go

variable {L : Lang} {f : Fr} {H : Heap} {Q : DPost}
/-- An operation that makes nothing new in the small heap. -/
def valD (L : Lang) (f : Fr) (H : Heap) (op : Op) : Option D := match op with
  | .move x => some (evD L f x)
  | .assign x => some (evD L f x)
  | .pick c a b => pickD (evD L f c) (evD L f a) (evD L f b)
  | .build t ps => buildD L.T H t (pairsD (evD L f) ps.toList)
  | .load t a => loadD L.T H t (evD L f a)
  | .nilCheck x => nilD H (evD L f x)
  | .binOp op t x y _ => binOpD L.T H op t (evD L f x) (evD L f y)
  | .unOp op _ x => unD op (evD L f x)
  | .makeInterface t x => ifaceD L.T t (evD L f x)
  | .makeFunc fn a b => some (.func fn (a.toList.map (evD L f)) (b.toList.map (evD L f)))
  | .slice t x lo hi mx => sliceD L.T H t (evD L f x) (lo.map (evD L f)) (hi.map (evD L f)) (mx.map (evD L f))
  | .fieldAddr s x i => fieldAtD L.T H s (evD L f x) i
  | .field s x i => fieldD L.T s (evD L f x) i
  | .indexAddr t x i => indexAtD L.T H t (evD L f x) (evD L f i)
  | .index t x i => indexD L.T t (evD L f x) (evD L f i)
  | .typeAssert x _ t cok => assertD L.T (evD L f x) t cok
  | .extract t i => extractD (evD L f t) i
  | .call { callee := .builtin b, args := xs, argTypes := ts } => match b, ts.toList, xs.toList.map (evD L f) with
    | .len, [t], [x] => lenD L.T H t x
    | .max, _, x :: r => bestD true x r
    | .min, _, x :: r => bestD false x r
    | _, _, _ => none
  | .lookup t x i cok => lookupD L.T H t (evD L f x) (evD L f i) cok
  | _ => none
theorem valD_op {op : Op} {d : D} (h : valD L f H op = some d) : callOf L f op = none ∧ opD L f H op = some (d, H) := by
  unfold valD at h
  split at h <;> first
    | (cases h; done)
    | (simp only [callOf, opD, one, h, Option.map_some, true_and]; done)
    | (obtain rfl := Option.some.inj h; simp only [callOf, opD, one, true_and]; done)
    | skip
  rename_i b xs ts
  refine ⟨rfl, ?_⟩
  simp only [opD, builtinD]
  split at h
  · rename_i e1 e2; simp only [e1, e2, one, h, Option.map_some]
  · rename_i e2; simp only [e2, one, h, Option.map_some]
  · rename_i e2; simp only [e2, one, h, Option.map_some]
  · cases h
theorem o_val {ops : Array Oper} {dst : Option Nat} {op : Op} {ty : TypeId} {pos : String} {after : Array Edge} {guard : Option (Nat × Bool)} {r : List Oper} {d : D} (hg : guardD ops f ⟨dst, op, ty, pos, after, guard⟩ = some true) (h : valD L f H op = some d) (k : opsD L ops Q r (f.put dst d) H) : opsD L ops Q (⟨dst, op, ty, pos, after, guard⟩ :: r) f H :=
  o_one hg (valD_op h).1 (valD_op h).2 k
theorem o_mem {ops : Array Oper} {dst : Option Nat} {op : Op} {ty : TypeId} {pos : String} {after : Array Edge} {guard : Option (Nat × Bool)} {r : List Oper} {d : D} {H' : Heap} (hg : guardD ops f ⟨dst, op, ty, pos, after, guard⟩ = some true) (hc : callOf L f op = none) (h : opD L f H op = some (d, H')) (k : opsD L ops Q r (f.put dst d) H') :
    opsD L ops Q (⟨dst, op, ty, pos, after, guard⟩ :: r) f H := o_one hg hc h k
/-- A slice literal that never changes. -/
theorem o_lit {ops : Array Oper} {dst : Option Nat} {t : TypeId} {n : Nat} {ps : Array (Nat × Operand)} {ty : TypeId} {pos : String} {after : Array Edge} {guard : Option (Nat × Bool)} {r : List Oper} {d d' : D} {H' : Heap} (hg : guardD ops f ⟨dst, .buildSlice t n ps, ty, pos, after, guard⟩ = some true)
    (h : opD L f H (.buildSlice t n ps) = some (d, H')) (ht : H'.take H.length = H) (hs : Snap (fun r => H.length ≤ r) H' d d') (k : opsD L ops Q r (f.put dst d') H) : opsD L ops Q (⟨dst, .buildSlice t n ps, ty, pos, after, guard⟩ :: r) f H := by
  exact o_frz hg rfl h ht hs k
/-- A variable that never changes. -/
theorem o_var {ops : Array Oper} {dst : Option Nat} {t : TypeId} {x : Operand} {ty : TypeId} {pos : String} {after : Array Edge} {guard : Option (Nat × Bool)} {r : List Oper} {d d' : D} {H' : Heap} (hg : guardD ops f ⟨dst, .box t x, ty, pos, after, guard⟩ = some true)
    (h : opD L f H (.box t x) = some (d, H')) (ht : H'.take H.length = H) (hs : Snap (fun r => H.length ≤ r) H' d d') (k : opsD L ops Q r (f.put dst d') H) : opsD L ops Q (⟨dst, .box t x, ty, pos, after, guard⟩ :: r) f H := by
  exact o_frz hg rfl h ht hs k

theorem o_no {ops : Array Oper} {dst : Option Nat} {op : Op} {ty : TypeId} {pos : String} {after : Array Edge} {guard : Option (Nat × Bool)} {r : List Oper} (hg : guardD ops f ⟨dst, op, ty, pos, after, guard⟩ = some false) (k : opsD L ops Q r (f.put dst (.tuple [])) H) :
    opsD L ops Q (⟨dst, op, ty, pos, after, guard⟩ :: r) f H := o_not hg k

theorem g_in {ops : Array Oper} {o : Oper} {j t : Nat} {want : Bool} (ho : o.guard = some (j, want)) (hj : (ops[j]?).bind (·.dst) = some t) (hf : f t = .bool want) : guardD ops f o = some true := by
  simp [guardD, ho, hj, hf]
theorem g_out {ops : Array Oper} {o : Oper} {j t : Nat} {want : Bool} (ho : o.guard = some (j, want)) (hj : (ops[j]?).bind (·.dst) = some t) (hf : f t = .bool (!want)) : guardD ops f o = some false := by
  cases want <;> simp_all [guardD]
theorem g_un {ops : Array Oper} {o : Oper} {j t : Nat} {want : Bool} (ho : o.guard = some (j, want)) (hj : (ops[j]?).bind (·.dst) = some t) (hf : f t = .tuple []) : guardD ops f o = some false := by
  simp [guardD, ho, hj, hf]
theorem o_if {ops : Array Oper} {dst : Option Nat} {op : Op} {ty : TypeId} {pos : String} {after : Array Edge} {guard : Option (Nat × Bool)} {r : List Oper} {j t : Nat} {want b : Bool} {x : D} (_ho : guard = some (j, want)) (_hj : (ops[j]?).bind (·.dst) = some t) (_hf : f t = x) (_hb : x = .bool b)
    (k1 : b = want → opsD L ops Q (⟨dst, op, ty, pos, after, guard⟩ :: r) f H) (k0 : b = (!want) → opsD L ops Q (⟨dst, op, ty, pos, after, guard⟩ :: r) f H) : opsD L ops Q (⟨dst, op, ty, pos, after, guard⟩ :: r) f H := by
  by_cases hb : b = want
  · exact k1 hb
  · exact k0 (by cases b <;> cases want <;> simp_all)

@[simp] theorem put_get (f : Fr) (t : Nat) (d : D) (u : Nat) : (f.put (some t) d) u = if u = t then d else f u := rfl
@[simp] theorem put_no (f : Fr) (d : D) : f.put none d = f := rfl
@[simp] theorem argF_get (l : List D) (t : Nat) : argF l t = l.getD t (.tuple []) := rfl

/-! ### what simp opens -/
attribute [simp] callOf evD constD valD opD one pickD pairsD builtinD partD refCells loadD fieldAtD fieldD indexAtD indexD cellsD oneD splice storeD boxD allocD fillD fieldsOf buildD rowsD buildSliceD makeSliceD elemsD appendable appendD optInt intD cutD sliceD isU8 elemsS convD lenD bestD clearD notIface ifaceD zeroD assertD extractD nilD K.known K.isAg alive unD binD binOpD eqD eqAgg eqCell K.scal scalIs resD resAll resOne

/-! ### functions that answer one plain value -/
def Ans (L : Lang) (g : FuncId) (args : List D) (d : D) : Prop := PureV L g args fun r => r = .ret d
def endF (T : TypeId → TI) (rs : List ResultVar) (d : D) : DPost := endP T rs fun r => r = .ret d
theorem fn_of_body (ok : L.Ok) {g : FuncId} {fn : Func} {code : Code} {args : List D} {d : D} (hf : L.P.funcs[g]? = some fn) (hb : fn.body = some code) (hn : (fn.name == "runtime.NumGoroutine") = false)
    (hl : Nat.ble args.length fn.ntmps = true) (hd : dstsOk fn.ntmps code = true) (h : wpD L code (argF args) [] (endF L.T fn.results.toList d)) : Ans L g args d :=
  pure_of_body ok hf hb hn (Nat.le_of_ble_eq_true hl) hd h
theorem f_ret {T : TypeId → TI} {rs : List ResultVar} {d e : D} (h : resD T f H rs = some e) (hs : Snap (fun _ => True) H e d) : endF T rs d .ret f H := e_ret h hs rfl
theorem f_normal {T : TypeId → TI} {rs : List ResultVar} {d e : D} (h : resD T f H rs = some e) (hs : Snap (fun _ => True) H e d) : endF T rs d .normal f H := e_normal h hs rfl
theorem f_retf {T : TypeId → TI} {rs : List ResultVar} {d e : D} (h : resD T f H rs = some e) (hf : Flat e) (hd : e = d) : endF T rs d .ret f H := f_ret h (hd ▸ .flat hf)
theorem f_normalf {T : TypeId → TI} {rs : List ResultVar} {d e : D} (h : resD T f H rs = some e) (hf : Flat e) (hd : e = d) : endF T rs d .normal f H := f_normal h (hd ▸ .flat hf)

theorem o_fn (fine : Fine L) {ops : Array Oper} {dst : Option Nat} {op : Op} {ty : TypeId} {pos : String} {after : Array Edge} {guard : Option (Nat × Bool)} {r : List Oper} {g : FuncId} {args : List D} {d : D} (hg : guardD ops f ⟨dst, op, ty, pos, after, guard⟩ = some true) (hc : callOf L f op = some (g, args)) (h : Ans L g args d)
    (hf : ∀ a, a ∈ args → Flat a) (k : opsD L ops Q r (f.put dst d) H) : opsD L ops Q (⟨dst, op, ty, pos, after, guard⟩ :: r) f H := by
  refine o_call hg hc (h.use fine hf) (fun d' H' hR => ?_) (fun d' H' hR => nomatch hR.2)
  obtain ⟨rfl, he⟩ := hR
  obtain rfl := DRes.ret.inj he
  exact k
theorem o_lend (fine : Fine L) {ops : Array Oper} {dst : Option Nat} {op : Op} {ty : TypeId} {pos : String} {after : Array Edge} {guard : Option (Nat × Bool)} {r : List Oper} {g : FuncId} {args args' : List D} {d : D} (hg : guardD ops f ⟨dst, op, ty, pos, after, guard⟩ = some true) (hc : callOf L f op = some (g, args)) (h : Ans L g args' d)
    (hs : SnapL (fun _ => True) H args args') (hd : Scalar d) (k : opsD L ops Q r (f.put dst d) H) : opsD L ops Q (⟨dst, op, ty, pos, after, guard⟩ :: r) f H := by
  refine o_call hg hc (h.lend fine hs fun r hr => hr ▸ hd) (fun d' H' hR => ?_) (fun d' H' hR => nomatch hR.2)
  obtain ⟨rfl, he⟩ := hR
  obtain rfl := DRes.ret.inj he
  exact k

theorem Snap.slice_flat {S : Nat → Prop} {H : Heap} {r i n g sz : Nat} {ro : Bool} {xs ys : List (List D)} (hs : S r) (hx : H[r]? = some (.cells g sz ro xs)) (hy : (xs.drop i).take n = ys) (hn : ys.length = n)
    (hf : ∀ y, y ∈ ys → ∀ d, d ∈ y → Flat d) : Snap S H (.slice r i n g) (.isl sz ys) := by
  refine .slice hs hx hn fun k x y hk hxk hyk => ?_
  have : ys[k]? = xs[i + k]? := by rw [← hy, List.getElem?_take, if_pos hk, List.getElem?_drop]
  rw [this, hxk] at hyk
  obtain rfl := Option.some.inj hyk
  refine ⟨rfl, fun o d e hd he => ?_⟩
  rw [hd] at he
  obtain rfl := Option.some.inj he
  exact .flat (hf x (List.mem_of_getElem? (this.trans hxk)) d (List.mem_of_getElem? hd))
theorem Snap.ref_flat {S : Nat → Prop} {H : Heap} {r i o g sz : Nat} {ro : Bool} {xs : List (List D)} {x ys : List D} (hs : S r) (hx : H[r]? = some (.cells g sz ro xs)) (hi : xs[i]? = some x) (hy : x.drop o = ys) (ho : o ≤ x.length) (hf : ∀ d, d ∈ ys → Flat d) :
    Snap S H (.ref r i o g) (.box ys) := by
  subst hy
  refine .ref hs hx hi (by rw [List.length_drop]; omega) fun k d e hd he => ?_
  rw [List.getElem?_drop, hd] at he
  obtain rfl := Option.some.inj he
  exact .flat (hf d (List.mem_of_getElem? (by rw [List.getElem?_drop]; exact hd)))
theorem Snap.nil {S : Nat → Prop} {H : Heap} {sz : Nat} : Snap S H .nilsl (.isl sz []) := by
  intro c v inv hc hr
  cases hr
  exact .islnil sz

theorem ans_use (fine : Fine L) {g : FuncId} {args : List D} {d : D} (h : Ans L g args d) (hf : ∀ a, a ∈ args → Flat a) : CallsV L g args H fun r H' => H' = H ∧ r = .ret d := PureV.use fine h hf

theorem ans_calls {g : FuncId} {args : List D} {d : D} (h : Ans L g args d) : CallsV L g args [] fun r H => H = [] ∧ r = .ret d := h

/-! ### lists -/
theorem all_no {α : Type} {P : α → Bool} {l : List α} {i : Nat} (hi : i < l.length) (h : P l[i] = false) : l.all P = false := by
  rw [List.all_eq_false]
  exact ⟨l[i], List.getElem_mem hi, by simp [h]⟩
theorem all_yes {α : Type} {P : α → Bool} {l : List α} {i : Nat} (hi : l.length ≤ i) (h : (l.take i).all P = true) : l.all P = true := by
  rwa [List.take_of_length_le hi] at h
theorem all_more {α : Type} {P : α → Bool} {l : List α} {i : Nat} (hi : i < l.length) (h : (l.take i).all P = true) (hp : P l[i] = true) : (l.take (i + 1)).all P = true := by
  rw [List.take_succ_eq_append_getElem hi, List.all_append, h]
  simp [hp]
theorem any_yes {α : Type} {P : α → Bool} {l : List α} {i : Nat} (hi : i < l.length) (h : P l[i] = true) : l.any P = true := by
  rw [List.any_eq_true]
  exact ⟨l[i], List.getElem_mem hi, h⟩
theorem any_no {α : Type} {P : α → Bool} {l : List α} {i : Nat} (hi : l.length ≤ i) (h : (l.take i).any P = false) : l.any P = false := by
  rwa [List.take_of_length_le hi] at h
theorem any_more {α : Type} {P : α → Bool} {l : List α} {i : Nat} (hi : i < l.length) (h : (l.take i).any P = false) (hp : P l[i] = false) : (l.take (i + 1)).any P = false := by
  rw [List.take_succ_eq_append_getElem hi, List.any_append, h]
  simp [hp]

/-! ### texts -/
abbrev encS (s : List UInt8) : List D := [.str s]
abbrev encI (n : Int) : List D := [.int .i64 n]
abbrev bytesL (s : List UInt8) : D := .isl 1 (s.map encB)
abbrev textsL (s : List (List UInt8)) : D := .isl 1 (s.map encS)
abbrev intsL (s : List Int) : D := .isl 1 (s.map encI)
@[simp] theorem flat_undef : Flat .undef := .undef
@[simp] theorem flat_bool (b : Bool) : Flat (.bool b) := .bool b
@[simp] theorem flat_int (k : IntKind) (n : Int) : Flat (.int k n) := .int k n
@[simp] theorem flat_str (l : List UInt8) : Flat (.str l) := .str l
@[simp] theorem flat_nilptr : Flat .nilptr := .nilptr
@[simp] theorem flat_nilsl : Flat .nilsl := .nilsl
@[simp] theorem flat_esl : Flat .esl := .esl
@[simp] theorem flat_nilfunc : Flat .nilfunc := .nilfunc
@[simp] theorem flat_niliface : Flat .niliface := .niliface
@[simp] theorem flat_nilmap : Flat .nilmap := .nilmap
@[simp] theorem flat_iface (t : TypeId) (d : D) : Flat (.iface t d) ↔ Flat d := ⟨fun h => by cases h; assumption, .iface t d⟩
@[simp] theorem flat_agg (x : List D) : Flat (.agg x) ↔ ∀ d, d ∈ x → Flat d := ⟨fun h => by cases h; assumption, .agg x⟩
@[simp] theorem flat_tuple (x : List D) : Flat (.tuple x) ↔ ∀ d, d ∈ x → Flat d := ⟨fun h => by cases h; assumption, .tuple x⟩
@[simp] theorem flat_box (x : List D) : Flat (.box x) ↔ ∀ d, d ∈ x → Flat d := ⟨fun h => by cases h; assumption, .box x⟩
@[simp] theorem flat_isl (sz : Nat) (x : List (List D)) : Flat (.isl sz x) ↔ ∀ y, y ∈ x → ∀ d, d ∈ y → Flat d := ⟨fun h => by cases h; assumption, .isl sz x⟩
@[simp] theorem scalar_bool (b : Bool) : Scalar (.bool b) := .bool b
@[simp] theorem scalar_int (k : IntKind) (n : Int) : Scalar (.int k n) := .int k n
@[simp] theorem scalar_str (l : List UInt8) : Scalar (.str l) := .str l
@[simp] theorem scalar_tuple (x : List D) : Scalar (.tuple x) ↔ ∀ d, d ∈ x → Scalar d := ⟨fun h => by cases h; assumption, .tuple x⟩
@[simp] theorem scalar_agg (x : List D) : Scalar (.agg x) ↔ ∀ d, d ∈ x → Scalar d := ⟨fun h => by cases h; assumption, .agg x⟩

attribute [irreducible] endF Ans
theorem o_add {ops : Array Oper} {dst : Option Nat} {t yt : TypeId} {x y : Operand} {ty : TypeId} {pos : String} {after : Array Edge} {guard : Option (Nat × Bool)} {r : List Oper} {a b : Int} {u v : D} (hg : guardD ops f ⟨dst, .binOp .add t x y yt, ty, pos, after, guard⟩ = some true)
    (hu : evD L f x = u) (hx : u = .int .i64 a) (hv : evD L f y = v) (hy : v = .int .i64 b) (hw : IntKind.i64.wrap (a + b) = a + b) (k : opsD L ops Q r (f.put dst (.int .i64 (a + b))) H) : opsD L ops Q (⟨dst, .binOp .add t x y yt, ty, pos, after, guard⟩ :: r) f H :=
  o_val hg (by simp only [valD, binOpD, hu, hv, hx, hy, binD, if_true, hw]) k
theorem o_sub {ops : Array Oper} {dst : Option Nat} {t yt : TypeId} {x y : Operand} {ty : TypeId} {pos : String} {after : Array Edge} {guard : Option (Nat × Bool)} {r : List Oper} {a b : Int} {u v : D} (hg : guardD ops f ⟨dst, .binOp .sub t x y yt, ty, pos, after, guard⟩ = some true)
    (hu : evD L f x = u) (hx : u = .int .i64 a) (hv : evD L f y = v) (hy : v = .int .i64 b) (hw : IntKind.i64.wrap (a - b) = a - b) (k : opsD L ops Q r (f.put dst (.int .i64 (a - b))) H) : opsD L ops Q (⟨dst, .binOp .sub t x y yt, ty, pos, after, guard⟩ :: r) f H :=
  o_val hg (by simp only [valD, binOpD, hu, hv, hx, hy, binD, if_true, hw]) k
theorem wrap_i64 {n : Int} (h1 : -9223372036854775808 ≤ n) (h2 : n < 9223372036854775808) : IntKind.i64.wrap n = n := by
  have e : IntKind.i64.wrap n = if n % 18446744073709551616 ≥ 9223372036854775808 then n % 18446744073709551616 - 18446744073709551616 else n % 18446744073709551616 := by
    unfold IntKind.wrap
    simp only [show (2 : Int) ^ IntKind.i64.bits = 18446744073709551616 from rfl, show (2 : Int) ^ (IntKind.i64.bits - 1) = 9223372036854775808 from rfl, show IntKind.i64.signed = true from rfl, Bool.true_and, decide_eq_true_eq]
  rw [e]
  split <;> omega
theorem wrap_u64 {n : Int} : IntKind.u64.wrap n = n % 18446744073709551616 := by
  unfold IntKind.wrap
  simp only [show (2 : Int) ^ IntKind.u64.bits = 18446744073709551616 from rfl, show IntKind.u64.signed = false from rfl, Bool.false_and, Bool.false_eq_true, if_false]
theorem wrap_u8 {n : Int} : IntKind.u8.wrap n = n % 256 := by
  unfold IntKind.wrap
  simp only [show (2 : Int) ^ IntKind.u8.bits = 256 from rfl, show IntKind.u8.signed = false from rfl, Bool.false_and, Bool.false_eq_true, if_false]
section
set_option linter.unusedVariables false
/- Closers of small goals: the premise is closed by the tactic that it names. -/
theorem kc0 {p : Prop} (h : p := by first | (first | rfl | (apply g_in; rfl; rfl; (focus (simp [*]; done)))) | fail) : p := h
theorem kc1 {p : Prop} (h : p := by first | (simp [*]; exact ⟨rfl, rfl⟩) | fail) : p := h
theorem kc2 {p : Prop} (h : p := by first | (simp [*]; rfl) | fail) : p := h
theorem kc3 {p : Prop} (h : p := by first | (simp [*]; done) | fail) : p := h
theorem kc4 {p : Prop} (h : p := by first | (simp; rfl) | fail) : p := h
theorem kc5 {p : Prop} (h : p := by first | (intro u; first | rfl | (apply g_in; rfl; rfl; (focus (simp [*]; done)))) | fail) : p := h
theorem kc6 {p : Prop} (h : p := by first | (simp only [List.nil_append, List.cons_append]; rfl) | fail) : p := h
theorem kc7 {p : Prop} (h : p := by first | (first | rfl | (simp only [List.all_cons, List.all_nil, List.length_cons, List.length_nil, Nat.zero_add, Nat.reduceAdd, Bool.and_true, Bool.true_and]; done) | (simp only [List.all_cons, List.all_nil, List.length_cons, List.length_nil, Nat.zero_add, Nat.reduceAdd, Bool.and_true, Bool.true_and]; decide +kernel)) | fail) : p := h
theorem kc8 {p : Prop} (h : p := by first | (first | (simp; done) | (simp only [List.mem_cons, List.not_mem_nil, or_false, forall_eq_or_imp, forall_eq]; (repeat' apply And.intro) <;> first | (left; first | rfl | (simp only [List.length_cons, List.length_nil, Nat.zero_add, Nat.reduceAdd]; decide +kernel)) | (right; apply again_val; rfl; rfl; rfl; (focus (first | exact if_pos (by decide) | exact if_neg (by decide))); (focus (intro u; first | rfl | (apply g_in; rfl; rfl; (focus (simp [*]; done))))); (focus (intro u; first | (simp [*]; done) | (simp [*]; rfl)))))) | fail) : p := h
theorem kc9 {p : Prop} (h : p := by first | (first | (apply g_none; rfl) | (apply g_sym; rfl; rfl; (focus (simp [*]; rfl)); (focus (simp only [gOf_bool, gOf_cond, gOf_cond', gOf_un, beq_true, beq_false, Bool.and_true]; rfl)))) | fail) : p := h
theorem kd0 {p : Prop} (h : p := by first | (intro hb; (try simp only [Bool.not_or, Bool.not_and, Bool.not_not, Bool.and_eq_true, Bool.not_eq_true', Bool.not_eq_false', Bool.not_eq_true, Bool.not_eq_false] at hb); simp [*]; rfl) | fail) : p := h
theorem kd1 {p : Prop} (h : p := by first | (intro hb hp; (try simp only [Bool.not_or, Bool.not_and, Bool.not_not, Bool.and_eq_true, Bool.not_eq_true', Bool.not_eq_false', Bool.not_eq_true, Bool.not_eq_false] at hb); (try simp only [Bool.not_or, Bool.not_and, Bool.not_not, Bool.and_eq_true, Bool.not_eq_true', Bool.not_eq_false', Bool.not_eq_true, Bool.not_eq_false] at hp); simp [*]; rfl) | fail) : p := h
theorem kd2 {p : Prop} (h : p := by first | (intro hb; (try simp only [Bool.not_or, Bool.not_and, Bool.not_not, Bool.and_eq_true, Bool.not_eq_true', Bool.not_eq_false', Bool.not_eq_true, Bool.not_eq_false] at hb); simp [*]; exact ⟨rfl, rfl⟩) | fail) : p := h
theorem kd3 {p : Prop} (h : p := by first | (simp only [rowH, List.cons_append, List.nil_append]; rfl) | fail) : p := h
theorem kd4 {p : Prop} (h : p := by first | (simp [under_func, under_agg, under_tuple]; done) | fail) : p := h
theorem kd5 {p : Prop} (h : p := by first | (simp [under_func, under_agg, under_tuple, under_box, *]; done) | fail) : p := h
theorem kd6 {p : Prop} (h : p := by first | (simp [under_func, under_agg, under_tuple, under_box]; done) | fail) : p := h
theorem kd7 {p : Prop} (h : p := by first | (first | exact Snap.flat (by simp [*]; done) | exact Snap.ref_flat (by simp) rfl rfl rfl (by simp) (by simp [*]; done) | exact Snap.slice_flat (by simp) rfl (by simp; rfl) (by simp) (by simp [*]; done) | exact Snap.slice_flat (by simp) (by simp; exact ⟨rfl, rfl, rfl⟩) (by simp; rfl) (by simp) (by simp [*]; done)) | fail) : p := h
theorem kd8 {p : Prop} (h : p := by first | (intro u; simp [*]; exact ⟨rfl, rfl⟩) | fail) : p := h
theorem kd9 {p : Prop} (h : p := by first | (intro H' u; simp [*]; rfl) | fail) : p := h
theorem ke0 {p : Prop} (h : p := by first | (intro u; simp [*]; rfl) | fail) : p := h
theorem ke1 {p : Prop} (h : p := by first | (intro u; rfl) | fail) : p := h
theorem ke2 {p : Prop} (h : p := by first | (apply wrap_i64 <;> omega) | fail) : p := h
theorem ke3 {p : Prop} (h : p := by first | (decide +kernel) | fail) : p := h
theorem ke4 {p : Prop} (h : p := by first | (first | rfl | (simp [*]; done)) | fail) : p := h
theorem ke5 {p : Prop} (h : p := by first | (first | omega | (simp; omega)) | fail) : p := h
theorem ke6 {p : Prop} (h : p := by first | (first | (simp; rfl) | rfl) | fail) : p := h
theorem ke7 {p : Prop} (h : p := by first | (first | (apply g_out; rfl; rfl; (focus (simp [*]; done))) | (apply g_un; rfl; rfl; (focus (simp [*]; done)))) | fail) : p := h
theorem ke8 {p : Prop} (h : p := by first | (intro u; first | (apply g_out; rfl; rfl; (focus (simp [*]; done))) | (apply g_un; rfl; rfl; (focus (simp [*]; done)))) | fail) : p := h
theorem ke9 {p : Prop} (h : p := by first | (intro H' u; simp [*]; refine ⟨_, _, ⟨rfl, rfl⟩, ?_, ?_⟩; (focus (simp; done)); (focus (first | exact Snap.flat (by simp [*]; done) | exact Snap.ref_flat (by simp) rfl rfl rfl (by simp) (by simp [*]; done) | exact Snap.slice_flat (by simp) rfl (by simp; rfl) (by simp) (by simp [*]; done) | exact Snap.slice_flat (by simp) (by simp; exact ⟨rfl, rfl, rfl⟩) (by simp; rfl) (by simp) (by simp [*]; done)))) | fail) : p := h
end
end Go.Proofs.Ytejpgmemohchaaa.Vm
