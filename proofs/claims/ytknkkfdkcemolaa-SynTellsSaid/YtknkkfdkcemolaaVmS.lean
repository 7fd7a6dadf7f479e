/- Calls that may give up. -/
import Derived.Test.YtknkkfdkcemolaaVmY
set_option linter.unusedSimpArgs false
set_option linter.unusedVariables false
namespace Go.Proofs.Ytknkkfdkcemolaa.Vm
open Go

theorem under_box {n : Nat} {x : List D} : Under n (.box x) ↔ ∀ d, d ∈ x → Under n d := ⟨fun h => by cases h; assumption, .box x⟩
/-- A call that answers and turns the small heap, or gives up; n: so many blocks it may have turned then. -/
def Ends (n : Nat) (H : Heap) (e : Except D (D × Heap)) (r : DRes) (H' : Heap) : Prop := match e with
  | .ok (d, H1) => Turns d H1 r H'
  | .error p => r = .panic p ∧ ∀ (i : Nat) (k : Blk), n ≤ i → H[i]? = some k → H'[i]? = some k
theorem ends_ok {L : Lang} {g : FuncId} {args : List D} {H H1 : Heap} {n : Nat} {d : D} : CallsV L g args H (Ends n H (.ok (d, H1))) ↔ CallsV L g args H (Turns d H1) := Iff.rfl
theorem CallsV.besideE {L : Lang} (fine : Fine L) {g : FuncId} {args : List D} {Hs K : Heap} {p : D} (h : CallsV L g args Hs (Ends Hs.length Hs (.error p))) (ha : ∀ a, a ∈ args → Under Hs.length a)
    (hb : ∀ k, k ∈ Hs → k.under Hs.length) (hp : Flat p) : CallsV L g args (Hs ++ K) (Ends Hs.length (Hs ++ K) (.error p)) := by
  have hget : ∀ j, j < Hs.length → (List.range Hs.length).getD j 0 = j := fun j hj => by
    rw [List.getD_eq_getElem?_getD, List.getElem?_range hj]; rfl
  have hι : ∀ j, j < Hs.length → rnI (List.range Hs.length) (Hs ++ K).length j = j := fun j hj => by
    rw [rnI, List.length_range, if_pos hj, hget j hj]
  refine (h.embed (H := Hs ++ K) (ix := List.range Hs.length) (args' := args) fine List.nodup_range (by simp) (fun i hi => ?_) (fun j hj => ?_) ?_).mono fun r H' hr => ?_
  · have := List.mem_range.1 hi
    rw [List.length_append]
    omega
  · rw [List.length_range] at hj
    rw [hget j hj, List.getElem?_append_left hj, List.getElem?_eq_getElem hj, Option.map_some, rn_blk hι (hb _ (List.getElem_mem hj))]
  · rw [List.map_congr_left (g := fun x => x), List.map_id']
    exact fun a hm => rn_under hι (ha a hm)
  · obtain ⟨r0, Hs1, ⟨rfl, _⟩, _, rfl, rfl⟩ := hr
    refine ⟨by rw [rnRes, rn_under (n := 0) (fun j hj => by omega) (.flat hp)], fun i k hi hk => ?_⟩
    have hlt : i < (Hs ++ K).length := (List.getElem?_eq_some_iff.1 hk).1
    rw [embed_out hlt (by simp; omega)]
    exact hk
theorem CallsV.besideS {L : Lang} (fine : Fine L) {g : FuncId} {args : List D} {Hs K : Heap} {e : Except D (D × Heap)} (h : CallsV L g args Hs (Ends Hs.length Hs e)) (ha : ∀ a, a ∈ args → Under Hs.length a)
    (hb : ∀ k, k ∈ Hs → k.under Hs.length) (he : match e with
      | .ok (d, H1) => H1.length = Hs.length ∧ (∀ k, k ∈ H1 → k.under Hs.length) ∧ Under Hs.length d
      | .error p => Flat p) : CallsV L g args (Hs ++ K) (Ends Hs.length (Hs ++ K) (match e with
      | .ok (d, H1) => .ok (d, H1 ++ K)
      | .error p => .error p)) := by
  match e with
  | .ok (d, H1) => exact CallsV.beside fine h he.1 ha hb he.2.1 he.2.2
  | .error p => exact h.besideE fine ha hb he
section
variable {L : Lang} {f : Fr} {H : Heap} {Q : DPost}
/-- A call that may give up. -/
theorem o_ends {n : Nat} {e : Except D (D × Heap)} {ops : Array Oper} {dst : Option Nat} {op : Op} {ty : TypeId} {pos : String} {after : Array Edge} {guard : Option (Nat × Bool)} {r : List Oper} {g : FuncId} {args : List D} (hg : guardD ops f ⟨dst, op, ty, pos, after, guard⟩ = some true) (hc : callOf L f op = some (g, args))
    (h : CallsV L g args H (Ends n H e)) (k : ∀ d H', e = .ok (d, H') → opsD L ops Q r (f.put dst d) H') (kp : ∀ p H', e = .error p → (∀ (i : Nat) (k : Blk), n ≤ i → H[i]? = some k → H'[i]? = some k) → Q (.panic p) f H') : opsD L ops Q (⟨dst, op, ty, pos, after, guard⟩ :: r) f H := by
  match e, h, k, kp with
  | .ok (d, H1), h, k, kp => exact o_turns hg hc h (k d H1 rfl)
  | .error p, h, k, kp =>
    refine o_call hg hc h (fun d H1 hR => ?_) (fun d H1 hR => ?_)
    · cases hR.1
    · obtain ⟨h1, h2⟩ := hR
      obtain rfl := DRes.panic.inj h1
      exact kp _ H1 rfl h2
/-- A call that gives up, its blocks the first ones. -/
theorem o_up (fine : Fine L) {p : D} {Hs K : Heap} {ops : Array Oper} {dst : Option Nat} {op : Op} {ty : TypeId} {pos : String} {after : Array Edge} {guard : Option (Nat × Bool)} {r : List Oper} {g : FuncId} {args : List D} (hg : guardD ops f ⟨dst, op, ty, pos, after, guard⟩ = some true) (hc : callOf L f op = some (g, args))
    (h : CallsV L g args Hs (Ends Hs.length Hs (.error p))) (hH : H = Hs ++ K) (hu : (∀ a, a ∈ args → Under Hs.length a) ∧ (∀ k, k ∈ Hs → k.under Hs.length) ∧ Flat p)
    (k : ∀ H', (∀ (i : Nat) (k : Blk), Hs.length ≤ i → H[i]? = some k → H'[i]? = some k) → Q (.panic p) f H') : opsD L ops Q (⟨dst, op, ty, pos, after, guard⟩ :: r) f H := by
  subst hH
  exact o_ends hg hc (h.besideE fine hu.1 hu.2.1 hu.2.2) (fun d H' he => by cases he) (fun q H' he hk => by cases he; exact k H' hk)
theorem a_upB (fine : Fine L) {p : D} {Hs K : Heap} {ops : Array Oper} {f0 : Fr} {n1 : Nat} {ds1 ds2 ds : List Nat} {seen : List (Option Nat × D)} {tied : List Nat} {hist : List (Nat × Heap)} {r : List Oper} {dst : Option Nat} {op : Op} {ty : TypeId} {pos : String} {after : Array Edge} {guard : Option (Nat × Bool)}
    {g : FuncId} {args : List D} (hds : (if seen.length < n1 then ds1 else ds2) = ds) (hg : ∀ u, guardD ops (wkF seen after.toList (mixF f0 u ds)) ⟨dst, op, ty, pos, after, guard⟩ = some true) (hc : ∀ u, callOf L (wkF seen after.toList (mixF f0 u ds)) op = some (g, args))
    (h : CallsV L g args Hs (Ends Hs.length Hs (.error p))) (hH : H = Hs ++ K) (hu : (∀ a, a ∈ args → Under Hs.length a) ∧ (∀ k, k ∈ Hs → k.under Hs.length) ∧ Flat p)
    (hb : (hist.all fun p => bef ops seen.length p.1) = true) (hj : ((List.range ops.size).all fun j => Nat.ble j seen.length || bef ops j seen.length) = true)
    (k : ∀ f H', (∀ (i : Nat) (k : Blk), Hs.length ≤ i → H[i]? = some k → H'[i]? = some k) → (∀ t, t ∉ dstsOf ops.toList → f t = f0 t) → Q (.panic p) f H') : planA L ops f0 Q n1 ds1 ds2 seen tied hist H (⟨dst, op, ty, pos, after, guard⟩ :: r) := by
  subst hH
  exact a_up hds hg hc ((h.besideE fine hu.1 hu.2.1 hu.2.2).mono fun r H' hr => ⟨hr.1, fun f hf => k f H' hr.2 hf⟩) hb hj
/-- How a body ends: the first blocks turned, the answer handed over for good; or it gives up. -/
def endS (T : TypeId → TI) (rs : List ResultVar) (e : Except D (D × Heap)) : DPost
  | .panic p, _, _ => e = .error p
  | x, f, H => ∃ d Hn, e = .ok (d, Hn) ∧ endD T rs (Gives Hn d) x f H
theorem s_panic {T : TypeId → TI} {rs : List ResultVar} {e : Except D (D × Heap)} {p : D} (h : e = .error p) : endS T rs e (.panic p) f H := h
theorem s_ret {T : TypeId → TI} {rs : List ResultVar} {e : Except D (D × Heap)} {Hn : Heap} {d d0 : D} {K : Heap} (he : e = .ok (d, Hn)) (h : resD T f H rs = some d0) (hH : H = Hn ++ K) (hs : Snap (fun r => Hn.length ≤ r) H d0 d) : endS T rs e .ret f H := ⟨d, Hn, he, d0, h, d0, K, rfl, hH, hs⟩
theorem s_norm {T : TypeId → TI} {rs : List ResultVar} {e : Except D (D × Heap)} {Hn : Heap} {d d0 : D} {K : Heap} (he : e = .ok (d, Hn)) (h : resD T f H rs = some d0) (hH : H = Hn ++ K) (hs : Snap (fun r => Hn.length ≤ r) H d0 d) : endS T rs e .normal f H := ⟨d, Hn, he, d0, h, d0, K, rfl, hH, hs⟩
theorem ends_of_body (ok : L.Ok) {g : FuncId} {fn : Func} {code : Code} {args : List D} {e : Except D (D × Heap)} (hl : ∀ d Hn, e = .ok (d, Hn) → Hn.length = H.length ∧ ∀ k, k ∈ Hn → k.under H.length) (hf : L.P.funcs[g]? = some fn) (hb : fn.body = some code) (hn : (fn.name == "runtime.NumGoroutine") = false)
    (hl' : Nat.ble args.length fn.ntmps = true) (hd : dstsOk fn.ntmps code = true) (h : wpD L code (argF args) H (endS L.T fn.results.toList e)) : CallsV L g args H (Ends H.length H e) := by
  match e, hl, h with
  | .ok (d, Hn), hl, h =>
    obtain ⟨h1, h2⟩ := hl d Hn rfl
    refine gives_turns (calls_of_body ok hf hb hn (Nat.le_of_ble_eq_true hl') hd (wpD_mono _ _ _ _ _ (fun x f H hx => ?_) h)) h1 h2
    cases x with
    | panic p => cases hx
    | _ =>
      obtain ⟨d', Hn', he, hx⟩ := hx
      cases he
      exact hx
  | .error p, hl, h =>
    refine (calls_of_body (Q := fun r H' => r = .panic p) ok hf hb hn (Nat.le_of_ble_eq_true hl') hd (wpD_mono _ _ _ _ _ (fun x f H hx => ?_) h)).mono fun r H' hr => ⟨hr, fun i k hi hk => ?_⟩
    · cases x with
      | panic q => cases hx; rfl
      | _ => obtain ⟨d', Hn', he, _⟩ := hx; cases he
    · have := (List.getElem?_eq_some_iff.1 hk).1
      omega
attribute [irreducible] endS
/-- An operation of before answers the same in other memory. -/
def Again (L : Lang) (ops : Array Oper) (f0 : Fr) (n1 : Nat) (ds1 ds2 : List Nat) (seen : List (Option Nat × D)) (k : Nat) (H' : Heap) : Prop :=
  ∀ o' t' v', ops[k]? = some o' → seen[k]? = some (t', v') → ∀ u, StepTo L ops (frm f0 n1 ds1 ds2 seen k o' u) H' o' v'
theorem again_val {ops : Array Oper} {f0 : Fr} {n1 : Nat} {ds1 ds2 ds : List Nat} {seen seen0 : List (Option Nat × D)} {k : Nat} {dst : Option Nat} {op : Op} {ty : TypeId} {pos : String} {after : Array Edge} {guard : Option (Nat × Bool)} {t' : Option Nat} {v' : D}
    (hk : ops[k]? = some ⟨dst, op, ty, pos, after, guard⟩) (hs : seen[k]? = some (t', v')) (h0 : seen.take k = seen0) (hds : (if k < n1 then ds1 else ds2) = ds) (hg : ∀ u, guardD ops (wkF seen0 after.toList (mixF f0 u ds)) ⟨dst, op, ty, pos, after, guard⟩ = some true)
    (hv : ∀ u, valD L (wkF seen0 after.toList (mixF f0 u ds)) H op = some v') : Again L ops f0 n1 ds1 ds2 seen k H := by
  intro o t v ho hsv u
  rw [hk] at ho
  rw [hs] at hsv
  obtain rfl := Option.some.inj ho
  obtain ⟨rfl, rfl⟩ := Prod.mk.inj (Option.some.inj hsv)
  have he : frm f0 n1 ds1 ds2 seen k ⟨dst, op, ty, pos, after, guard⟩ u = wkF seen0 after.toList (mixF f0 u ds) := by
    unfold frm
    rw [h0, hds]
  rw [he]
  exact .inr ⟨hg u, .inl ⟨(valD_op (hv u)).1, .inl (valD_op (hv u)).2⟩⟩
theorem a_besideG (fine : Fine L) {ops : Array Oper} {f0 : Fr} {n1 : Nat} {ds1 ds2 ds : List Nat} {seen seen' : List (Option Nat × D)} {tied : List Nat} {hist : List (Nat × Heap)} {r : List Oper} {dst : Option Nat} {op : Op} {ty : TypeId} {pos : String} {after : Array Edge} {guard : Option (Nat × Bool)}
    {g : FuncId} {args : List D} {v : D} {Hs Hs' K H' : Heap} (hds : (if seen.length < n1 then ds1 else ds2) = ds) (hg : ∀ u, guardD ops (wkF seen after.toList (mixF f0 u ds)) ⟨dst, op, ty, pos, after, guard⟩ = some true) (hc : ∀ u, callOf L (wkF seen after.toList (mixF f0 u ds)) op = some (g, args))
    (h : CallsV L g args Hs (Turns v Hs')) (hH : H = Hs ++ K) (hl : Hs'.length = Hs.length) (hu : (∀ a, a ∈ args → Under Hs.length a) ∧ (∀ k, k ∈ Hs → k.under Hs.length) ∧ (∀ k, k ∈ Hs' → k.under Hs.length) ∧ Under Hs.length v) (hH' : Hs' ++ K = H')
    (hb : (hist.all fun p => bef ops seen.length p.1) = true) (ht : ∀ k, k ∈ tied → bef ops seen.length k = true ∨ Again L ops f0 n1 ds1 ds2 seen k H') (hs : seen ++ [(dst, v)] = seen') {hist' : List (Nat × Heap)} (hh : hist ++ [(seen.length, H)] = hist')
    (k : planA L ops f0 Q n1 ds1 ds2 seen' tied hist' H' r) : planA L ops f0 Q n1 ds1 ds2 seen tied hist H (⟨dst, op, ty, pos, after, guard⟩ :: r) := by
  subst hH hH' hs hh
  refine .inr (.inr (.inl ⟨v, _, fun u => ?_, List.all_eq_true.1 hb, ht, k⟩))
  rw [frm_at hds]
  exact .inr ⟨hg u, .inr ⟨g, args, hc u, h.beside fine hl hu.1 hu.2.1 hu.2.2.1 hu.2.2.2⟩⟩
theorem a_memG {ops : Array Oper} {f0 : Fr} {n1 : Nat} {ds1 ds2 ds : List Nat} {seen seen' : List (Option Nat × D)} {tied : List Nat} {hist : List (Nat × Heap)} {r : List Oper} {dst : Option Nat} {op : Op} {ty : TypeId} {pos : String} {after : Array Edge} {guard : Option (Nat × Bool)}
    {v : D} {H' : Heap} (hds : (if seen.length < n1 then ds1 else ds2) = ds) (hg : ∀ u, guardD ops (wkF seen after.toList (mixF f0 u ds)) ⟨dst, op, ty, pos, after, guard⟩ = some true) (hc : ∀ u, callOf L (wkF seen after.toList (mixF f0 u ds)) op = none)
    (h : ∀ u, opD L (wkF seen after.toList (mixF f0 u ds)) H op = some (v, H'))
    (hb : (hist.all fun p => bef ops seen.length p.1) = true) (ht : ∀ k, k ∈ tied → bef ops seen.length k = true ∨ Again L ops f0 n1 ds1 ds2 seen k H') (hs : seen ++ [(dst, v)] = seen') {hist' : List (Nat × Heap)} (hh : hist ++ [(seen.length, H)] = hist')
    (k : planA L ops f0 Q n1 ds1 ds2 seen' tied hist' H' r) : planA L ops f0 Q n1 ds1 ds2 seen tied hist H (⟨dst, op, ty, pos, after, guard⟩ :: r) := by
  subst hs hh
  refine .inr (.inr (.inl ⟨v, H', fun u => ?_, List.all_eq_true.1 hb, ht, k⟩))
  rw [frm_at hds]
  exact .inr ⟨hg u, .inl ⟨hc u, h u⟩⟩
theorem a_tieG {ops : Array Oper} {f0 : Fr} {n1 : Nat} {ds1 ds2 ds : List Nat} {seen seen' : List (Option Nat × D)} {tied : List Nat} {hist : List (Nat × Heap)} {r : List Oper} {dst : Option Nat} {op : Op} {ty : TypeId} {pos : String} {after : Array Edge} {guard : Option (Nat × Bool)}
    {v : D} (hds : (if seen.length < n1 then ds1 else ds2) = ds) (hg : ∀ u, guardD ops (wkF seen after.toList (mixF f0 u ds)) ⟨dst, op, ty, pos, after, guard⟩ = some true) (h : ∀ u, valD L (wkF seen after.toList (mixF f0 u ds)) H op = some v)
    (hb : ∀ p, p ∈ hist → bef ops seen.length p.1 = true ∨ ∀ u, valD L (wkF seen after.toList (mixF f0 u ds)) p.2 op = some v) (hs : seen ++ [(dst, v)] = seen') {tied' : List Nat} (ht : tied ++ [seen.length] = tied')
    (k : planA L ops f0 Q n1 ds1 ds2 seen' tied' hist H r) : planA L ops f0 Q n1 ds1 ds2 seen tied hist H (⟨dst, op, ty, pos, after, guard⟩ :: r) := by
  subst hs ht
  refine .inr (.inl ⟨v, fun u => ?_, fun p hp => (hb p hp).imp_right fun h2 u => ?_, k⟩)
  · rw [frm_at hds]
    exact .inr ⟨hg u, .inl ⟨(valD_op (h u)).1, .inl (valD_op (h u)).2⟩⟩
  · rw [frm_at hds]
    exact .inr ⟨hg u, .inl ⟨(valD_op (h2 u)).1, .inl (valD_op (h2 u)).2⟩⟩
theorem t_panic {K : Fr → Heap → Prop} {d : D} (h : Q (.panic d) f H) : thenD K Q (.panic d) f H := h
theorem b_panic {id : Nat} {d : D} (h : Q (.panic d) f H) : blockD id Q (.panic d) f H := h
end
end Go.Proofs.Ytknkkfdkcemolaa.Vm
