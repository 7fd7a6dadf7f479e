/- Calls beside which more stands in the small heap. -/
import Derived.Test.YtejpgmemohchaaaVmX
set_option linter.unusedSimpArgs false
set_option linter.unusedVariables false
namespace Go.Proofs.Ytejpgmemohchaaa.Vm
open Go

theorem rn_under {ι : Nat → Nat} {n : Nat} (hι : ∀ j, j < n → ι j = j) {d : D} (h : Under n d) : rn ι d = d := by
  induction h with
  | undef => rw [rn]
  | bool b => rw [rn]
  | int k m => rw [rn]
  | str l => rw [rn]
  | nilptr => rw [rn]
  | ref r i o g h => rw [rn, hι r h]
  | slice r i m g h => rw [rn, hι r h]
  | map r g h => rw [rn, hι r h]
  | yld r g h => rw [rn, hι r h]
  | cod => rw [rn]
  | box cs _ ih => rw [rn, rnL_map, List.map_congr_left ih, List.map_id']
  | isl sz xs _ ih =>
    rw [rn, rnLL_map, List.map_congr_left (g := fun x => x), List.map_id']
    intro x hx
    rw [List.map_congr_left (ih x hx), List.map_id']
  | nilsl => rw [rn]
  | esl => rw [rn]
  | func fn a b _ _ ih1 ih2 => rw [rn, rnL_map, rnL_map, List.map_congr_left ih1, List.map_congr_left ih2, List.map_id', List.map_id']
  | nilfunc => rw [rn]
  | iface t d _ ih => rw [rn, ih]
  | niliface => rw [rn]
  | agg x _ ih => rw [rn, rnL_map, List.map_congr_left ih, List.map_id']
  | tuple x _ ih => rw [rn, rnL_map, List.map_congr_left ih, List.map_id']
  | imap es _ _ ih1 ih2 =>
    rw [rn, rnP_map, List.map_congr_left (g := fun x => x), List.map_id']
    intro x hx
    rw [ih1 x hx, ih2 x hx]
  | nilmap => rw [rn]
theorem rn_blk {ι : Nat → Nat} {n : Nat} (hι : ∀ j, j < n → ι j = j) {k : Blk} (h : k.under n) : k.rn ι = k := by
  cases k with
  | gone g => rfl
  | cells g sz ro xs =>
    simp only [Blk.rn]
    rw [List.map_congr_left (g := fun x => x), List.map_id']
    intro x hx
    rw [List.map_congr_left fun d hd => rn_under hι (h x hx d hd), List.map_id']
  | map g ro es =>
    simp only [Blk.rn]
    rw [List.map_congr_left (g := fun x => x), List.map_id']
    intro x hx
    rw [rn_under hι (h x hx).1, rn_under hι (h x hx).2]

/-- Beside it more may stand in the small heap. -/
theorem CallsV.beside {L : Lang} (fine : Fine L) {g : FuncId} {args : List D} {Hs Hs' K : Heap} {d : D} (h : CallsV L g args Hs (Turns d Hs')) (hl : Hs'.length = Hs.length) (ha : ∀ a, a ∈ args → Under Hs.length a)
    (hb : ∀ k, k ∈ Hs → k.under Hs.length) (hb' : ∀ k, k ∈ Hs' → k.under Hs.length) (hd : Under Hs.length d) : CallsV L g args (Hs ++ K) (Turns d (Hs' ++ K)) := by
  have hget : ∀ j, j < Hs.length → (List.range Hs.length).getD j 0 = j := fun j hj => by
    rw [List.getD_eq_getElem?_getD, List.getElem?_range hj]; rfl
  have hι : ∀ j, j < Hs.length → rnI (List.range Hs.length) (Hs ++ K).length j = j := fun j hj => by
    rw [rnI, List.length_range, if_pos hj, hget j hj]
  refine (h.embed (H := Hs ++ K) (ix := List.range Hs.length) (args' := args) fine List.nodup_range (by simp) (fun i hi => ?_) (fun j hj => ?_) ?_).mono fun r H' hr => ?_
  · have := List.mem_range.1 hi
    rw [List.length_append]
    omega
  · rw [List.length_range] at hj
    rw [hget j hj, List.getElem?_append_left hj, List.getElem?_eq_getElem hj, Option.map_some, rn_blk hι (hb _ (List.getElem_mem hj))]
  · rw [List.map_congr_left (g := fun x => x), List.map_id']
    exact fun a hm => rn_under hι (ha a hm)
  · obtain ⟨r0, Hs1, ⟨rfl, rfl⟩, _, rfl, rfl⟩ := hr
    refine ⟨by rw [rnRes, rn_under hι hd], ?_⟩
    refine List.ext_getElem? fun r => ?_
    have hn : (List.range Hs.length).Nodup := List.nodup_range
    have hlt : ∀ i, i ∈ List.range Hs.length → i < (Hs ++ K).length := fun i hi => by
      have := List.mem_range.1 hi
      rw [List.length_append]
      omega
    by_cases hr : r < Hs.length
    · have := embed_at (ix := List.range Hs.length) (H := Hs ++ K) (Hs := Hs1) hn hlt (by simp [hl]) r
      rw [hι r hr] at this
      rw [this, List.getElem?_append_left (by omega), List.getElem?_eq_getElem (by omega), Option.map_some, rn_blk hι (hb' _ (List.getElem_mem _))]
    · by_cases hr2 : r < (Hs ++ K).length
      · rw [embed_out hr2 (by simpa using hr), List.getElem?_append_right (by omega), List.getElem?_append_right (by omega), hl]
      · rw [List.getElem?_eq_none (by rw [embed_len]; simp at hr2 ⊢; omega), List.getElem?_eq_none (by simp at hr2 ⊢; omega)]

theorem rn_congr {ι κ : Nat → Nat} {n : Nat} (hι : ∀ j, j < n → ι j = κ j) {d : D} (h : Under n d) : rn ι d = rn κ d := by
  induction h with
  | undef => rw [rn, rn]
  | bool b => rw [rn, rn]
  | int k m => rw [rn, rn]
  | str l => rw [rn, rn]
  | nilptr => rw [rn, rn]
  | ref r i o g h => rw [rn, rn, hι r h]
  | slice r i m g h => rw [rn, rn, hι r h]
  | map r g h => rw [rn, rn, hι r h]
  | yld r g h => rw [rn, rn, hι r h]
  | cod => rw [rn, rn]
  | box cs _ ih => rw [rn, rn, rnL_map, rnL_map, List.map_congr_left ih]
  | isl sz xs _ ih =>
    rw [rn, rn, rnLL_map, rnLL_map]
    congr 1
    exact List.map_congr_left fun x hx => List.map_congr_left (ih x hx)
  | nilsl => rw [rn, rn]
  | esl => rw [rn, rn]
  | func fn a b _ _ ih1 ih2 => rw [rn, rn, rnL_map, rnL_map, rnL_map, rnL_map, List.map_congr_left ih1, List.map_congr_left ih2]
  | nilfunc => rw [rn, rn]
  | iface t d _ ih => rw [rn, rn, ih]
  | niliface => rw [rn, rn]
  | agg x _ ih => rw [rn, rn, rnL_map, rnL_map, List.map_congr_left ih]
  | tuple x _ ih => rw [rn, rn, rnL_map, rnL_map, List.map_congr_left ih]
  | imap es _ _ ih1 ih2 =>
    rw [rn, rn, rnP_map, rnP_map]
    congr 1
    exact List.map_congr_left fun x hx => by rw [ih1 x hx, ih2 x hx]
  | nilmap => rw [rn, rn]
theorem Under.mono {m n : Nat} (hmn : m ≤ n) {d : D} (h : Under m d) : Under n d := by
  induction h with
  | undef => exact .undef
  | bool b => exact .bool b
  | int k m => exact .int k m
  | str l => exact .str l
  | nilptr => exact .nilptr
  | ref r i o g h => exact .ref r i o g (by omega)
  | slice r i k g h => exact .slice r i k g (by omega)
  | map r g h => exact .map r g (by omega)
  | yld r g h => exact .yld r g (by omega)
  | cod ps a b => exact .cod ps a b
  | box cs _ ih => exact .box cs ih
  | isl sz xs _ ih => exact .isl sz xs ih
  | nilsl => exact .nilsl
  | esl => exact .esl
  | func fn a b _ _ ih1 ih2 => exact .func fn a b ih1 ih2
  | nilfunc => exact .nilfunc
  | iface t d _ ih => exact .iface t d ih
  | niliface => exact .niliface
  | agg x _ ih => exact .agg x ih
  | tuple x _ ih => exact .tuple x ih
  | imap es _ _ ih1 ih2 => exact .imap es ih1 ih2
  | nilmap => exact .nilmap
/-- Ahead of it, and behind it, more may stand in the small heap; its own blocks refer to nothing there. -/
theorem CallsV.amid {L : Lang} (fine : Fine L) {g : FuncId} {args : List D} {Hs Hs' : Heap} {d : D} (h : CallsV L g args Hs (Turns d Hs')) (hl : Hs'.length = Hs.length) (ha : ∀ a, a ∈ args → Under Hs.length a)
    (hb : ∀ k, k ∈ Hs → k.under 0) (hb' : ∀ k, k ∈ Hs' → k.under 0) (hd : Under 0 d) (P K : Heap) : CallsV L g (args.map (rn (· + P.length))) (P ++ (Hs ++ K)) (Turns d (P ++ (Hs' ++ K))) := by
  have h0 : ∀ (ι : Nat → Nat) (k : Blk), k.under 0 → k.rn ι = k := fun ι k hk => rn_blk (n := 0) (fun j hj => by omega) hk
  have hget : ∀ j, j < Hs.length → (List.range' P.length Hs.length).getD j 0 = P.length + j := fun j hj => by
    rw [List.getD_eq_getElem?_getD, List.getElem?_range' hj]
    simp
  have hι : ∀ j, j < Hs.length → rnI (List.range' P.length Hs.length) (P ++ (Hs ++ K)).length j = j + P.length := fun j hj => by
    rw [rnI, List.length_range', if_pos hj, hget j hj, Nat.add_comm]
  refine (h.embed (H := P ++ (Hs ++ K)) (ix := List.range' P.length Hs.length) (args' := args.map (rn (· + P.length))) fine List.nodup_range' (by simp) (fun i hi => ?_) (fun j hj => ?_) ?_).mono fun r H' hr => ?_
  · have := List.mem_range'_1.1 hi
    simp only [List.length_append]
    omega
  · rw [List.length_range'] at hj
    rw [hget j hj, List.getElem?_append_right (by omega), Nat.add_sub_cancel_left, List.getElem?_append_left hj, List.getElem?_eq_getElem hj, Option.map_some, h0 _ _ (hb _ (List.getElem_mem hj))]
  · exact List.map_congr_left fun a hm => (rn_congr hι (ha a hm)).symm
  · obtain ⟨r0, Hs1, ⟨rfl, rfl⟩, _, rfl, rfl⟩ := hr
    refine ⟨by rw [rnRes, rn_under (n := 0) (fun j hj => by omega) hd], ?_⟩
    refine List.ext_getElem? fun r => ?_
    have hn : (List.range' P.length Hs.length).Nodup := List.nodup_range'
    have hlt : ∀ i, i ∈ List.range' P.length Hs.length → i < (P ++ (Hs ++ K)).length := fun i hi => by
      have := List.mem_range'_1.1 hi
      simp only [List.length_append]
      omega
    by_cases hr : P.length ≤ r ∧ r < P.length + Hs.length
    · have := embed_at (ix := List.range' P.length Hs.length) (H := P ++ (Hs ++ K)) (Hs := Hs1) hn hlt (by simp [hl]) (r - P.length)
      rw [hι _ (by omega), Nat.sub_add_cancel hr.1] at this
      rw [this, List.getElem?_append_right hr.1, List.getElem?_append_left (by omega), List.getElem?_eq_getElem (by omega), Option.map_some, h0 _ _ (hb' _ (List.getElem_mem _))]
    · by_cases hr2 : r < (P ++ (Hs ++ K)).length
      · rw [embed_out hr2 (fun hm => hr (List.mem_range'_1.1 hm))]
        by_cases hp : r < P.length
        · rw [List.getElem?_append_left hp, List.getElem?_append_left hp]
        · rw [List.getElem?_append_right (by omega), List.getElem?_append_right (by omega), List.getElem?_append_right (by omega), List.getElem?_append_right (by omega), hl]
      · rw [List.getElem?_eq_none (by rw [embed_len]; simp at hr2 ⊢; omega), List.getElem?_eq_none (by simp at hr2 ⊢; omega)]

@[simp] theorem under_of_flat {n : Nat} {d : D} (h : Flat d) : Under n d := .flat h
@[simp] theorem under_ref {n r i o g : Nat} : Under n (.ref r i o g) ↔ r < n := ⟨fun h => by cases h; assumption, fun h => .ref _ _ _ _ h⟩
@[simp] theorem under_slice {n r i m g : Nat} : Under n (.slice r i m g) ↔ r < n := ⟨fun h => by cases h; assumption, fun h => .slice _ _ _ _ h⟩
theorem under_map {n r g : Nat} : Under n (.map r g) ↔ r < n := ⟨fun h => by cases h; assumption, fun h => .map _ _ h⟩
theorem under_agg {n : Nat} {x : List D} : Under n (.agg x) ↔ ∀ d, d ∈ x → Under n d := ⟨fun h => by cases h; assumption, .agg x⟩
theorem under_tuple {n : Nat} {x : List D} : Under n (.tuple x) ↔ ∀ d, d ∈ x → Under n d := ⟨fun h => by cases h; assumption, .tuple x⟩
theorem under_func {n : Nat} {fn : Fn} {a b : List D} : Under n (.func fn a b) ↔ (∀ d, d ∈ a → Under n d) ∧ ∀ d, d ∈ b → Under n d := ⟨fun h => by cases h; exact ⟨by assumption, by assumption⟩, fun h => .func fn a b h.1 h.2⟩
@[simp] theorem blk_cells {n g sz : Nat} {ro : Bool} {xs : List (List D)} : (Blk.cells g sz ro xs).under n ↔ ∀ x, x ∈ xs → ∀ d, d ∈ x → Under n d := Iff.rfl
@[simp] theorem flat_func (fn : Fn) (a b : List D) : Flat (.func fn a b) ↔ (∀ d, d ∈ a → Flat d) ∧ ∀ d, d ∈ b → Flat d := ⟨fun h => by cases h; exact ⟨by assumption, by assumption⟩, fun h => .func fn a b h.1 h.2⟩
theorem SnapL.agg {S : Nat → Prop} {H : Heap} {x y : List D} (h : SnapL S H x y) : Snap S H (.agg x) (.agg y) := by
  refine .agg h.len.symm fun k d e hd he => ?_
  obtain ⟨d', h1, h2⟩ := h.get k e he
  rw [hd] at h1
  obtain rfl := Option.some.inj h1
  exact h2
theorem SnapL.tuple {S : Nat → Prop} {H : Heap} {x y : List D} (h : SnapL S H x y) : Snap S H (.tuple x) (.tuple y) := by
  refine .tuple h.len.symm fun k d e hd he => ?_
  obtain ⟨d', h1, h2⟩ := h.get k e he
  rw [hd] at h1
  obtain rfl := Option.some.inj h1
  exact h2
section
variable {L : Lang} {f : Fr} {H : Heap} {Q : DPost}
/-- The first blocks are turned to what is told; what is answered is handed over for good. -/
def Gives (Hn : Heap) (d : D) (r : DRes) (H' : Heap) : Prop := ∃ d0 K, r = .ret d0 ∧ H' = Hn ++ K ∧ Snap (fun r => Hn.length ≤ r) H' d0 d
theorem gives_turns {g : FuncId} {args : List D} {Hn : Heap} {d : D} (h : CallsV L g args H (Gives Hn d)) (hl : Hn.length = H.length) (hu : ∀ k, k ∈ Hn → k.under H.length) : CallsV L g args H (Turns d Hn) := by
  refine h.trim fun r H' hr => ?_
  obtain ⟨d0, K, rfl, rfl, hs⟩ := hr
  refine ⟨fun i k hi hk => ?_, d, by rw [← hl]; exact hs, rfl, ?_⟩
  · rw [List.getElem?_append_left (by omega)] at hk
    exact hu k (List.mem_of_getElem? hk)
  · rw [← hl, List.take_left]
def endG (T : TypeId → TI) (rs : List ResultVar) (Hn : Heap) (d : D) : DPost := endD T rs (Gives Hn d)
theorem g_ret {T : TypeId → TI} {rs : List ResultVar} {Hn : Heap} {d d0 : D} {K : Heap} (h : resD T f H rs = some d0) (hH : H = Hn ++ K) (hs : Snap (fun r => Hn.length ≤ r) H d0 d) : endG T rs Hn d .ret f H := ⟨d0, h, d0, K, rfl, hH, hs⟩
theorem gives_of_body (ok : L.Ok) {g : FuncId} {fn : Func} {code : Code} {args : List D} {Hn : Heap} {d : D} (hl : Hn.length = H.length) (hu : ∀ k, k ∈ Hn → k.under H.length) (hf : L.P.funcs[g]? = some fn) (hb : fn.body = some code) (hn : (fn.name == "runtime.NumGoroutine") = false)
    (hl' : Nat.ble args.length fn.ntmps = true) (hd : dstsOk fn.ntmps code = true) (h : wpD L code (argF args) H (endG L.T fn.results.toList Hn d)) : CallsV L g args H (Turns d Hn) :=
  gives_turns (calls_of_body ok hf hb hn (Nat.le_of_ble_eq_true hl') hd h) hl hu
attribute [irreducible] endG
/-- A call that turns the first blocks. -/
theorem o_beside (fine : Fine L) {ops : Array Oper} {dst : Option Nat} {op : Op} {ty : TypeId} {pos : String} {after : Array Edge} {guard : Option (Nat × Bool)} {r : List Oper} {g : FuncId} {args : List D} {d : D} {Hs Hs' K H' : Heap} (hg : guardD ops f ⟨dst, op, ty, pos, after, guard⟩ = some true) (hc : callOf L f op = some (g, args))
    (h : CallsV L g args Hs (Turns d Hs')) (hH : H = Hs ++ K) (hl : Hs'.length = Hs.length) (hu : (∀ a, a ∈ args → Under Hs.length a) ∧ (∀ k, k ∈ Hs → k.under Hs.length) ∧ (∀ k, k ∈ Hs' → k.under Hs.length) ∧ Under Hs.length d) (hH' : Hs' ++ K = H') (k : opsD L ops Q r (f.put dst d) H') : opsD L ops Q (⟨dst, op, ty, pos, after, guard⟩ :: r) f H := by
  subst hH hH'
  exact o_turns hg hc (h.beside fine hl hu.1 hu.2.1 hu.2.2.1 hu.2.2.2) k
theorem a_beside (fine : Fine L) {ops : Array Oper} {f0 : Fr} {n1 : Nat} {ds1 ds2 ds : List Nat} {seen seen' : List (Option Nat × D)} {tied : List Nat} {hist : List (Nat × Heap)} {r : List Oper} {dst : Option Nat} {op : Op} {ty : TypeId} {pos : String} {after : Array Edge} {guard : Option (Nat × Bool)}
    {g : FuncId} {args : List D} {v : D} {Hs Hs' K H' : Heap} (hds : (if seen.length < n1 then ds1 else ds2) = ds) (hg : ∀ u, guardD ops (wkF seen after.toList (mixF f0 u ds)) ⟨dst, op, ty, pos, after, guard⟩ = some true) (hc : ∀ u, callOf L (wkF seen after.toList (mixF f0 u ds)) op = some (g, args)) (h : CallsV L g args Hs (Turns v Hs'))
    (hH : H = Hs ++ K) (hl : Hs'.length = Hs.length) (hu : (∀ a, a ∈ args → Under Hs.length a) ∧ (∀ k, k ∈ Hs → k.under Hs.length) ∧ (∀ k, k ∈ Hs' → k.under Hs.length) ∧ Under Hs.length v) (hH' : Hs' ++ K = H')
    (hb : ((hist.all fun p => bef ops seen.length p.1) && tied.all fun k => bef ops seen.length k) = true) (hs : seen ++ [(dst, v)] = seen') {hist' : List (Nat × Heap)} (hh : hist ++ [(seen.length, H)] = hist') (k : planA L ops f0 Q n1 ds1 ds2 seen' tied hist' H' r) : planA L ops f0 Q n1 ds1 ds2 seen tied hist H (⟨dst, op, ty, pos, after, guard⟩ :: r) := by
  subst hH hH'
  exact a_turns hds hg hc (h.beside fine hl hu.1 hu.2.1 hu.2.2.1 hu.2.2.2) hb hs hh k
/-- A call that turns blocks that stand amid others. -/
theorem o_amid (fine : Fine L) (p : Nat) {ops : Array Oper} {dst : Option Nat} {op : Op} {ty : TypeId} {pos : String} {after : Array Edge} {guard : Option (Nat × Bool)} {r : List Oper} {g : FuncId} {args args' : List D} {d : D} {Hs Hs' K H' : Heap} (hg : guardD ops f ⟨dst, op, ty, pos, after, guard⟩ = some true) (hc : callOf L f op = some (g, args'))
    (h : CallsV L g args Hs (Turns d Hs')) (hA : args' = args.map (rn (· + p))) (hH : H = H.take p ++ (Hs ++ K)) (hp : (H.take p).length = p) (hl : Hs'.length = Hs.length) (hu : (∀ a, a ∈ args → Under Hs.length a) ∧ (∀ k, k ∈ Hs → k.under 0) ∧ (∀ k, k ∈ Hs' → k.under 0) ∧ Under 0 d) (hH' : H.take p ++ (Hs' ++ K) = H')
    (k : opsD L ops Q r (f.put dst d) H') : opsD L ops Q (⟨dst, op, ty, pos, after, guard⟩ :: r) f H := by
  have := h.amid fine hl hu.1 hu.2.1 hu.2.2.1 hu.2.2.2 (H.take p) K
  rw [hp, ← hA, ← hH, hH'] at this
  exact o_turns hg hc this k
end
end Go.Proofs.Ytejpgmemohchaaa.Vm
