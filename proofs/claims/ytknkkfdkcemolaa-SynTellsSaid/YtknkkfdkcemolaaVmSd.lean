/- Functions with one deferred call, which recovers. -/
import Derived.Test.YtknkkfdkcemolaaVmS
import Derived.Recover
set_option linter.unusedSimpArgs false
set_option linter.unusedVariables false
namespace Go.Proofs.Ytknkkfdkcemolaa.Vm
open Go

/-- What a recover answers. -/
def recD : Option D → D
  | none => .niliface
  | some d => d
/-- The mode in which a frame leaves. -/
def Mode (c : Cx) (p : Option D) (u : FrameMode) : Prop := match p with
  | none => u = .returning
  | some d => ∃ v, u = .panicking [{ v := v, recovered := false }] ∧ Rep c v d
/-- A deferred call with these captured values, behind a frame that leaves so: it turns the small heap to what is told, and nothing is given up any more. -/
def DefOk (L : Lang) (g : FuncId) (caps : List D) (p : Option D) (H H' : Heap) : Prop :=
  (∃ fn, L.P.funcs[g]? = some fn ∧ fn.body.isSome = true ∧ (fn.name == "runtime.NumGoroutine") = false) ∧
  ∀ (c : Cx) (vs : Array Value) (u : FrameMode), Inv c → c.hp = H → GlOk L c → vs.size = caps.length → (∀ (i : Nat) (d : D), caps[i]? = some d → Rep c (vs.getD i undef) d) → Mode c p u →
    CallsD L.P g vs u c.w fun e u' w' => (∃ v, e = .returned v) ∧ settle u' = .returning ∧ ∃ c', c'.w = w' ∧ c'.hp = H' ∧ Inv c' ∧ Le c c'
theorem argF_rep {c : Cx} {n : Nat} {vs : Array Value} {args : List D} (hsz : vs.size = args.length) (hargs : ∀ (i : Nat) (d : D), args[i]? = some d → Rep c (vs.getD i undef) d) : FrRep c (vs ++ Array.replicate (n - vs.size) undef) (argF args) := by
  intro t
  have hget : (vs ++ Array.replicate (n - vs.size) undef).getD t undef = if t < vs.size then vs.getD t undef else undef := by
    simp only [Array.getD_eq_getD_getElem?]
    by_cases q1 : t < vs.size
    · rw [if_pos q1, Array.getElem?_append_left q1]
    · rw [if_neg q1, Array.getElem?_append_right (by omega), Array.getElem?_replicate]
      split <;> rfl
  simp only [hget, argF, List.getD_eq_getElem?_getD]
  split
  · rename_i ht
    have ht' : t < args.length := hsz ▸ ht
    rw [List.getElem?_eq_getElem ht']
    have key := hargs t _ (List.getElem?_eq_getElem ht')
    rw [Array.getD, dif_pos ht] at key
    exact key
  · rename_i ht
    rw [List.getElem?_eq_none (by omega)]
    exact undef_rep
theorem wanted_none {o : Oper} {y : Nat → Option Bool} (ho : o.guard = none) : Region.wanted o y = true := by
  unfold Region.wanted
  rw [ho]
theorem deferred_of_body {L : Lang} (ok : L.Ok) {g : FuncId} {fn : Func} {B : Code} {id t5 t2 : Nat} {ty1 ty2 : TypeId} {pos1 pos2 : String} {after1 after2 : Array Edge} {caps : List D} {H H' : Heap} {p : Option D}
    (hf : L.P.funcs[g]? = some fn) (hb : fn.body = some (.seq (.region id #[⟨some t5, .call { callee := .builtin .recover, args := #[], argTypes := #[] }, ty1, pos1, after1, none⟩, ⟨some t2, .assign (.tmp t5), ty2, pos2, after2, none⟩] false) B))
    (hn : (fn.name == "runtime.NumGoroutine") = false) (hl : Nat.ble caps.length fn.ntmps = true) (h5 : Nat.blt t5 fn.ntmps = true) (h2 : Nat.blt t2 fn.ntmps = true) (hd : dstsOk fn.ntmps B = true)
    (h : wpD L B (((argF caps).put (some t5) (recD p)).put (some t2) (recD p)) H (endD L.T fn.results.toList fun r H1 => (∃ d, r = .ret d) ∧ H1 = H')) : DefOk L g caps p H H' := by
  refine ⟨⟨fn, hf, by simp [hb], hn⟩, ?_⟩
  have hl := Nat.le_of_ble_eq_true hl
  have h5 : t5 < fn.ntmps := Nat.le_of_ble_eq_true h5
  have h2 : t2 < fn.ntmps := Nat.le_of_ble_eq_true h2
  intro c vs u inv hc hg hsz hargs hm
  subst hc
  refine callsD_of_wpS hf hb (fun c₀ cs hu => wpS_seq (wpS_region ?_))
  have hsize : (vs ++ Array.replicate (fn.ntmps - vs.size) undef).size = fn.ntmps := by simp; omega
  have hfr := argF_rep (n := fn.ntmps) hsz hargs
  generalize hT : vs ++ Array.replicate (fn.ntmps - vs.size) undef = T at hsize hfr
  have hcont : ∀ (v : Value) (u' : FrameMode), Rep c v (recD p) → settle u' = .returning → B.wpS L.P (bodyPostS L.P fn c₀ cs fun e u' w' => (∃ v, e = .returned v) ∧ settle u' = .returning ∧ ∃ c', c'.w = w' ∧ c'.hp = H' ∧ Inv c' ∧ Le c c')
      ((({ tmps := T, defers := [] } : Act).put (some t5) v).put (some t2) v) ({ c₀ with mode := u' } :: cs) c.w := by
    intro v u' hv hset
    refine wpS_of_wp (wp_mono (code_ok (ds := []) ok B _ _ c hg hd c _ h inv .refl ?_ ?_ ?_) fun e a w ⟨x, f, c', h1, h2, h3, h4, h5, h6, h7, h8⟩ => ?_)
    · exact put_rep (put_rep (a := { tmps := T, defers := [] }) hfr hv (fun x hx => by cases hx; simpa [hsize] using h5)) hv (fun x hx => by cases hx; simpa [Act.put, hsize] using h2)
    · simp [Act.put, hsize]
    · simp [Act.put]
    · subst h3
      cases e <;> cases x <;> try exact h2.elim
      · obtain ⟨d, r1, ⟨d', _⟩, r2⟩ := h1
        obtain ⟨v, v1, v2⟩ := resD_ok ok h4 h6 r1
        exact ⟨h8, u', rfl, v, v1, ⟨v, rfl⟩, hset, c', rfl, r2, h4, h5⟩
      · exact h1.elim
      · obtain ⟨d, r1, ⟨d', _⟩, r2⟩ := h1
        obtain ⟨v, v1, v2⟩ := resD_ok ok h4 h6 r1
        exact ⟨h8, u', rfl, v, v1, ⟨v, rfl⟩, hset, c', rfl, r2, h4, h5⟩
      · obtain ⟨⟨d, hd⟩, _⟩ := h1
        cases hd
  have htmp : ∀ v : Value, (({ tmps := T, defers := [] } : Act).put (some t5) v).eval (.tmp t5) = v := fun v => by
    simp [Act.put, Act.eval, Array.getD_eq_getD_getElem?, hsize, h5]
  have key : ∀ (v : Value) (cs' : List Frame), B.wpS L.P (bodyPostS L.P fn c₀ cs fun e u' w' => (∃ v, e = .returned v) ∧ settle u' = .returning ∧ ∃ c', c'.w = w' ∧ c'.hp = H' ∧ Inv c' ∧ Le c c') ((({ tmps := T, defers := [] } : Act).put (some t5) v).put (some t2) v) cs' c.w →
      wpOpsS L.P #[⟨some t5, .call { callee := .builtin .recover, args := #[], argTypes := #[] }, ty1, pos1, after1, none⟩, ⟨some t2, .assign (.tmp t5), ty2, pos2, after2, none⟩]
      (Exit.thenS (B.wpS L.P (bodyPostS L.P fn c₀ cs fun e u' w' => (∃ v, e = .returned v) ∧ settle u' = .returning ∧ ∃ c', c'.w = w' ∧ c'.hp = H' ∧ Inv c' ∧ Le c c')) (bodyPostS L.P fn c₀ cs fun e u' w' => (∃ v, e = .returned v) ∧ settle u' = .returning ∧ ∃ c', c'.w = w' ∧ c'.hp = H' ∧ Inv c' ∧ Le c c'))
      [1] (({ tmps := T, defers := [] } : Act).put (some t5) v) cs' c.w := by
    intro v cs' hB
    unfold wpOpsS
    simp only [List.getElem?_toArray, List.getElem?_cons_succ, List.getElem?_cons_zero]
    rw [if_pos (wanted_none rfl)]
    have hrun : ∀ (a : Act), a.eval (.tmp t5) = v → (execOp a.eval ⟨some t2, .assign (.tmp t5), ty2, pos2, after2, none⟩).run L.P c.w = .ok (.value v) c.w := fun a ha => by
      simp [execOp, ha]
    rw [hrun _ (htmp v)]
    simp only [Oper.upon_value]
    unfold wpOpsS
    exact hB
  rw [show List.range (#[(⟨some t5, .call { callee := .builtin .recover, args := #[], argTypes := #[] }, ty1, pos1, after1, none⟩ : Oper), ⟨some t2, .assign (.tmp t5), ty2, pos2, after2, none⟩] : Array Oper).size = [0, 1] from rfl]
  unfold wpOpsS
  simp only [List.getElem?_toArray, List.getElem?_cons_zero]
  rw [if_pos (wanted_none rfl)]
  have hrec : ∀ (a : Act), (execOp a.eval ⟨some t5, .call { callee := .builtin .recover, args := #[], argTypes := #[] }, ty1, pos1, after1, none⟩).run L.P c.w = .ok .recover c.w := fun a => by
    simp [execOp, resolve, invoke, builtin]
  rw [hrec]
  cases p with
  | none =>
    have hm' : u = .returning := hm
    have hno : recoverD (c₀ :: cs) = none := by simp [recoverD, hu, hm']
    simp only [hno]
    refine key .nilIface (c₀ :: cs) ?_
    have := hcont .nilIface .returning .niliface rfl
    rwa [show ({ c₀ with mode := .returning } : Frame) = c₀ from by rw [← hm', ← hu]] at this
  | some d =>
    obtain ⟨v, hm', hv⟩ := hm
    have hyes : recoverD (c₀ :: cs) = some (v, { c₀ with mode := .panicking [{ v := v, recovered := true }] } :: cs) := by simp [recoverD, hu, hm']
    simp only [hyes]
    exact key v _ (hcont v _ hv rfl)
/-- How the body of a function with a deferred call ends. -/
def deferQ (L : Lang) (g : FuncId) (caps : List D) (rs : List ResultVar) (Q : DRes → Heap → Prop) : DPost
  | .normal, f, H => ∃ H', DefOk L g caps none H H' ∧ ∃ d, resD L.T f H' rs = some d ∧ Q (.ret d) H'
  | .ret, f, H => ∃ H', DefOk L g caps none H H' ∧ ∃ d, resD L.T f H' rs = some d ∧ Q (.ret d) H'
  | .panic p, f, H => ∃ H', DefOk L g caps (some p) H H' ∧ ∃ d, resD L.T f H' rs = some d ∧ Q (.ret d) H'
  | .exit _, _, _ => False
/-- How the part ahead of the defer ends. -/
def beforeQ (L : Lang) (g : FuncId) (xs : List Operand) (t : Nat) (rs : List ResultVar) (B : Code) (Q : DRes → Heap → Prop) : DPost
  | .normal, f, H => wpD L B (f.put (some t) (.func (.func g) [] (xs.map (evD L f)))) H (deferQ L g (xs.map (evD L f)) rs Q)
  | _, _, _ => False
theorem calls_of_body_defer {L : Lang} (ok : L.Ok) {g g2 : FuncId} {fn : Func} {A B : Code} {id t : Nat} {xs : Array Operand} {ty1 ty2 : TypeId} {pos1 pos2 : String} {after1 after2 : Array Edge} {args : List D} {H : Heap} {Q : DRes → Heap → Prop}
    (hf : L.P.funcs[g]? = some fn) (hb : fn.body = some (.seq A (.seq (.region id #[⟨some t, .makeFunc (.func g2) #[] xs, ty1, pos1, after1, none⟩, ⟨none, .defer { callee := .value (.tmp t), args := #[], argTypes := #[] }, ty2, pos2, after2, none⟩] false) B)))
    (hn : (fn.name == "runtime.NumGoroutine") = false) (hl : Nat.ble args.length fn.ntmps = true) (ht : Nat.blt t fn.ntmps = true) (hdA : dstsOk fn.ntmps A = true) (hdB : dstsOk fn.ntmps B = true)
    (h : wpD L A (argF args) H (beforeQ L g2 xs.toList t fn.results.toList B Q)) : CallsV L g args H Q := by
  have hl := Nat.le_of_ble_eq_true hl
  have ht : t < fn.ntmps := Nat.le_of_ble_eq_true ht
  refine ⟨⟨fn, hf, by simp [hb], hn⟩, fun c vs inv hc hg hsz hargs => ?_⟩
  subst hc
  refine calls_of_wp_defers hf hb ?_
  have hsize : (vs ++ Array.replicate (fn.ntmps - vs.size) undef).size = fn.ntmps := by simp; omega
  have hfr := argF_rep (n := fn.ntmps) hsz hargs
  refine wp_seq (wp_mono (code_ok (ds := []) ok A (argF args) _ c hg hdA c _ h inv .refl hfr hsize rfl) fun e a w ⟨x, f, c1, h1, h2, h3, h4, h5, h6, h7, h8⟩ => ?_)
  subst h3
  cases e <;> cases x <;> first | exact h2.elim | exact h1.elim | skip
  have hg1 := hg.mono h5
  refine wp_seq (wp_region_list ?_)
  show wpList _ _ _ [_, _] _ _
  obtain ⟨nx, v, c2, r1, r2, r3, r4, r5, r6⟩ := op_ok ok h4 hg1 h6 (o := ⟨some t, .makeFunc (.func g2) #[] xs, ty1, pos1, after1, none⟩) (d := .func (.func g2) [] (xs.toList.map (evD L f))) (H := c1.hp) rfl
  have hnx : nx = .value v := by
    rcases r2 with rfl | ⟨_, rfl⟩
    · rfl
    · cases r6
  subst hnx
  unfold wpList
  rw [if_pos (wanted_none rfl)]
  left
  unfold Oper.wp
  rw [r1, Oper.upon_value]
  have hfr2 : FrRep c2 (a.put (some t) v).tmps (f.put (some t) (.func (.func g2) [] (xs.toList.map (evD L f)))) := put_rep (h6.mono r5) r6 (fun x hx => by cases hx; rw [h7]; exact ht)
  have hsz2 : (a.put (some t) v).tmps.size = fn.ntmps := by simp [Act.put, h7]
  have hd2 : (a.put (some t) v).defers = [] := by simp [Act.put, h8]
  have hev : (a.put (some t) v).eval (.tmp t) = v := by
    have : t < a.tmps.size := by rw [h7]; exact ht
    simp [Act.put, Act.eval, Array.getD_eq_getD_getElem?, this]
  generalize a.put (some t) v = a2 at hfr2 hsz2 hd2 hev
  cases r6 with
  | func _ x y _ _ hx hy y1 y2 =>
  have hx0 : x = #[] := Array.eq_empty_of_size_eq_zero (by simpa using hx)
  subst hx0
  unfold wpList
  rw [if_pos (wanted_none rfl)]
  left
  unfold Oper.wp
  have hrun : (execOp a2.eval ⟨none, .defer { callee := .value (.tmp t), args := #[], argTypes := #[] }, ty2, pos2, after2, none⟩).run L.P c2.w = .ok (.defer { target := .fn (.func g2) y, args := #[] }) c2.w := by
    simp [execOp, resolve, hev, Deferred.ofValue]
  rw [hrun, Oper.upon_defer]
  show Code.wp L.P B _ _ c2.w
  have hB : wpD L B (f.put (some t) (.func (.func g2) [] (xs.toList.map (evD L f)))) c2.hp (deferQ L g2 (xs.toList.map (evD L f)) fn.results.toList Q) := by
    rw [r3]
    exact h1
  refine wp_mono (code_ok (ds := [{ target := .fn (.func g2) y, args := #[] }]) ok B _ _ c2 (hg1.mono r5) hdB c2 _ hB r4 .refl hfr2 hsz2 (by simp [Act.put, hd2])) fun e a3 w ⟨x3, f3, c3, k1, k2, k3, k4, k5, k6, k7, k8⟩ => ?_
  subst k3
  have le3 : Le c c3 := (h5.trans r5).trans k5
  have fin : ∀ (p : Option D) (u : FrameMode), Mode c3 p u → u ≠ .run → (∃ H', DefOk L g2 (xs.toList.map (evD L f)) p c3.hp H' ∧ ∃ d, resD L.T f3 H' fn.results.toList = some d ∧ Q (.ret d) H') →
      Leaves L.P fn a3.tmps (fun e w' => ∃ r c', Q r c'.hp ∧ c'.w = w' ∧ Inv c' ∧ Le c c' ∧ ResRep c' e r) a3.defers u c3.w := by
    intro p u hm hu ⟨H', ⟨⟨fn2, e1, e2, e3⟩, hdo⟩, d, hres, hq⟩
    rw [k8]
    have hen : (invoke (.fn (.func g2) y) #[]).run L.P c3.w = .ok (.enter g2 y) c3.w := by
      have hbn : fn2.body ≠ none := by intro hb; simp [hb] at e2
      have hname : fn2.name ≠ "runtime.NumGoroutine" := by simpa using e3
      simp [invoke, callFunc, e1, hname, hbn]
    refine leaves_cons hu hen ((hdo c3 y u k4 rfl (hg.mono le3) (by simpa using hy) (fun i d hd => (y2 i d hd).mono k5) hm).mono fun e u' w' ⟨⟨v', he⟩, hs, c4, z1, z2, z3, z4⟩ => ?_)
    subst he z1
    show Leaves L.P fn a3.tmps _ [] (settle u') c4.w
    rw [hs]
    have k6' := k6.mono z4
    rw [← z2] at hres
    obtain ⟨v4, v1, v2⟩ := resD_ok ok z3 k6' hres
    exact ⟨v4, v1, .ret d, c4, by rw [z2]; exact hq, rfl, z3, le3.trans z4, v2⟩
  cases e <;> cases x3 <;> first | exact k2.elim | exact k1.elim | skip
  · exact fin none .returning rfl (by simp) k1
  · exact fin none .returning rfl (by simp) k1
  · obtain ⟨v4, rfl, hv4⟩ := k2
    exact fin (some _) _ ⟨v4, rfl, hv4⟩ (by simp) k1
section
variable {L : Lang} {f : Fr} {H : Heap}
theorem bq_normal {g : FuncId} {xs : List Operand} {t : Nat} {rs : List ResultVar} {B : Code} {R : DRes → Heap → Prop} {caps : List D} (hc : xs.map (evD L f) = caps) (h : wpD L B (f.put (some t) (.func (.func g) [] caps)) H (deferQ L g caps rs R)) : beforeQ L g xs t rs B R .normal f H := by
  subst hc
  exact h
theorem dq_ret {g : FuncId} {caps : List D} {rs : List ResultVar} {R : DRes → Heap → Prop} {H' : Heap} {d : D} (h : DefOk L g caps none H H') (hr : resD L.T f H' rs = some d) (hq : R (.ret d) H') : deferQ L g caps rs R .ret f H := ⟨H', h, d, hr, hq⟩
theorem dq_normal {g : FuncId} {caps : List D} {rs : List ResultVar} {R : DRes → Heap → Prop} {H' : Heap} {d : D} (h : DefOk L g caps none H H') (hr : resD L.T f H' rs = some d) (hq : R (.ret d) H') : deferQ L g caps rs R .normal f H := ⟨H', h, d, hr, hq⟩
theorem dq_panic {g : FuncId} {caps : List D} {rs : List ResultVar} {R : DRes → Heap → Prop} {H' : Heap} {d p : D} (h : DefOk L g caps (some p) H H') (hr : resD L.T f H' rs = some d) (hq : R (.ret d) H') : deferQ L g caps rs R (.panic p) f H := ⟨H', h, d, hr, hq⟩
end
attribute [irreducible] deferQ beforeQ DefOk
end Go.Proofs.Ytknkkfdkcemolaa.Vm
