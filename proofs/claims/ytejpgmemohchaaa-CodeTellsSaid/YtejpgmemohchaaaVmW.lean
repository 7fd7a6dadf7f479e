/- Blocks behind the first ones are handed over for good; lists that are appended to; bits. -/
import Derived.Test.YtejpgmemohchaaaVmV
set_option linter.unusedSimpArgs false
set_option linter.unusedVariables false
namespace Go.Proofs.Ytejpgmemohchaaa.Vm
open Go

theorem Under.flat {n : Nat} {d : D} (h : Flat d) : Under n d := by
  induction h with
  | undef => exact .undef
  | bool b => exact .bool b
  | int k m => exact .int k m
  | str l => exact .str l
  | nilptr => exact .nilptr
  | box cs _ ih => exact .box cs ih
  | isl sz xs _ ih => exact .isl sz xs ih
  | nilsl => exact .nilsl
  | esl => exact .esl
  | func fn a b _ _ ih1 ih2 => exact .func fn a b ih1 ih2
  | nilfunc => exact .nilfunc
  | iface t d _ ih => exact .iface t d ih
  | niliface => exact .niliface
  | agg x _ ih => exact .agg x ih
  | tuple x _ ih => exact .tuple x ih
  | imap es _ _ ih1 ih2 => exact .imap es ih1 ih2
  | nilmap => exact .nilmap

/-- What was made behind the blocks of before is handed over for good, or dropped; those of before may have turned. -/
theorem trim_ok {c c' : Cx} (inv' : Inv c') (le : Le c c') (hu : ∀ (r : Nat) (k : Blk), r < c.hp.length → c'.hp[r]? = some k → k.under c.hp.length) {v : Value} {d d' : D} (hv : Rep c' v d) (hs : Snap (fun r => c.hp.length ≤ r) c'.hp d d') :
    ∃ c2 : Cx, c2.w = c'.w ∧ c2.hp = c'.hp.take c.hp.length ∧ Inv c2 ∧ Le c c2 ∧ Rep c2 v d' := by
  let c2 : Cx := { im := fun b => c'.im b ∨ OwnIn (fun r => c.hp.length ≤ r) c' b, mu := c'.mu, hp := c'.hp.take c.hp.length, w := c'.w }
  have hget : ∀ (r : Nat) (k : Blk), c2.hp[r]? = some k → r < c.hp.length ∧ c'.hp[r]? = some k := fun r k hk => by
    simp only [c2, List.getElem?_take] at hk
    split at hk
    · exact ⟨by assumption, hk⟩
    · cases hk
  have hlt : ∀ r, r < c.hp.length → c2.hp[r]? = c'.hp[r]? := fun r hr => by simp only [c2, List.getElem?_take, if_pos hr]
  have hlen : c2.hp.length = c.hp.length := by
    have := le.len
    simp only [c2, List.length_take]
    omega
  have le2 : Le c c2 := by
    refine ⟨le.os, le.tape, le.output, le.size, by omega, fun b hb => .inl (le.im b hb), le.imk, fun b hb => ?_, fun b hb => ?_, le.frame, fun r hr => ?_, fun r g sz ro xs hr hg hx => ?_, fun r g ro es hr hg hx => ?_⟩
    · rcases hb with hb | hb
      · exact le.imn b hb
      · exact .inr (le.own b hb.own)
    · obtain ⟨r, k, h1, h2, h3⟩ := hb
      exact le.own b ⟨r, k, (hget r k h1).2, h2, h3⟩
    · have := le.ngen r hr
      simp only [ng, hlt r hr] at this ⊢
      exact this
    · exact le.refs r g sz ro xs hr hg (hget _ _ hx).2
    · exact le.maps r g ro es hr hg (hget _ _ hx).2
  have hcut : ∀ {v : Value} {d : D}, Rep c' v d → Under c.hp.length d → Rep c2 v d := fun h hu =>
    h.cut (n := c.hp.length) (by omega) (fun r hr => hlt r hr) rfl rfl (fun b hb => .inl hb) hu
  have him : ∀ r (k : Blk) b, r < c.hp.length → c'.hp[r]? = some k → k.alive = true → k.at (c'.mu r) b → (c2.im b ↔ c'.im b) := fun r k b hr hk ha hb => by
    refine ⟨fun h => h.elim id fun ⟨r', k', hS, h1, h2, h3⟩ => ?_, .inl⟩
    have := inv'.inj r' r k' k b h1 hk h2 ha h3 hb
    omega
  refine ⟨c2, rfl, rfl, ⟨fun b hb => ?_, fun r k hk => ?_, fun r r' k k' b h1 h2 => inv'.inj r r' k k' b (hget _ _ h1).2 (hget _ _ h2).2⟩, le2, ?_⟩
  · rcases hb with hb | hb
    · exact inv'.imlt b hb
    · exact inv'.ownlt hb.own
  · obtain ⟨hr, hk'⟩ := hget r k hk
    have h1 := inv'.blk r k hk'
    have h0 := hu r k hr hk'
    cases k with
    | gone g => trivial
    | cells g sz ro xs =>
      obtain ⟨z0, cs, e, fz, z1, z2, z3, z4, z5, z6, z7⟩ := h1
      exact ⟨z0, cs, e, fz, z1, z2, z3, fun i x hx => ⟨(z4 i x hx).1, fun o d ho => hcut ((z4 i x hx).2 o d ho) (h0 x (List.mem_of_getElem? hx) d (List.mem_of_getElem? ho))⟩,
        fun h => (him r _ _ hr hk' rfl rfl).2 (z5 h), fun h hb => z6 h ((him r _ _ hr hk' rfl rfl).1 hb), z7⟩
    | map g ro es =>
      obtain ⟨z4, z5, z6⟩ := h1
      exact ⟨z4.to rfl rfl fun e he v => ⟨fun h => hcut h (h0 e he).1, fun h => hcut h (h0 e he).2⟩,
        fun h => ⟨(him r _ _ hr hk' rfl (.inl rfl)).2 (z5 h).1, (him r _ _ hr hk' rfl (.inr rfl)).2 (z5 h).2⟩, fun h => ⟨fun hb => (z6 h).1 ((him r _ _ hr hk' rfl (.inl rfl)).1 hb), fun hb => (z6 h).2 ((him r _ _ hr hk' rfl (.inr rfl)).1 hb)⟩⟩
  · exact (hs c' v inv' rfl hv).bare rfl (fun b hb => hb) (fun b hb => rfl)

/-- A contract whose function hands back for good, or drops, all that it makes. -/
theorem CallsV.trim {L : Lang} {g : FuncId} {args : List D} {H : Heap} {Q Q' : DRes → Heap → Prop} (h : CallsV L g args H Q)
    (hq : ∀ r H', Q r H' → (∀ (i : Nat) (k : Blk), i < H.length → H'[i]? = some k → k.under H.length) ∧ match r with
      | .ret d => ∃ d', Snap (fun r => H.length ≤ r) H' d d' ∧ Q' (.ret d') (H'.take H.length)
      | .panic d => ∃ d', Snap (fun r => H.length ≤ r) H' d d' ∧ Q' (.panic d') (H'.take H.length)) : CallsV L g args H Q' := by
  refine ⟨h.1, fun c vs inv hc hg hsz hargs => (h.2 c vs inv hc hg hsz hargs).mono fun e w' ⟨r, c', q, q2, q3, q4, q5⟩ => ?_⟩
  obtain ⟨hu, hh⟩ := hq r _ q
  subst hc
  cases e <;> cases r <;> try exact q5.elim
  · obtain ⟨d', s1, s2⟩ := hh
    obtain ⟨c2, z1, z2, z3, z4, z5⟩ := trim_ok q3 q4 hu q5 s1
    exact ⟨.ret d', c2, z2 ▸ s2, z1.trans q2, z3, z4, z5⟩
  · obtain ⟨d', s1, s2⟩ := hh
    obtain ⟨v, y1, y2⟩ := q5
    obtain ⟨c2, z1, z2, z3, z4, z5⟩ := trim_ok q3 q4 hu y2 s1
    exact ⟨.panic d', c2, z2 ▸ s2, z1.trans q2, z3, z4, v, y1, z5⟩

/-! ### calls that turn the small heap -/
section
variable {L : Lang} {f : Fr} {H : Heap} {Q : DPost}
/-- A call that turns the small heap to what is told, and answers what is told. -/
def Turns (d : D) (H' : Heap) (r : DRes) (H : Heap) : Prop := r = .ret d ∧ H = H'
theorem o_turns {ops : Array Oper} {dst : Option Nat} {op : Op} {ty : TypeId} {pos : String} {after : Array Edge} {guard : Option (Nat × Bool)} {r : List Oper} {g : FuncId} {args : List D} {d : D} {H' : Heap} (hg : guardD ops f ⟨dst, op, ty, pos, after, guard⟩ = some true) (hc : callOf L f op = some (g, args))
    (h : CallsV L g args H (Turns d H')) (k : opsD L ops Q r (f.put dst d) H') : opsD L ops Q (⟨dst, op, ty, pos, after, guard⟩ :: r) f H := by
  refine o_call hg hc h (fun e H1 hR => ?_) (fun e H1 hR => ?_)
  · obtain ⟨h1, rfl⟩ := hR
    obtain rfl := DRes.ret.inj h1
    exact k
  · cases hR.1
def endT (T : TypeId → TI) (rs : List ResultVar) (d : D) (H' : Heap) : DPost := endD T rs (Turns d H')
theorem t_retT {T : TypeId → TI} {rs : List ResultVar} {d e : D} {H' : Heap} (h : resD T f H rs = some e) (hd : e = d) (hH : H = H') : endT T rs d H' .ret f H := ⟨e, h, by rw [hd], hH⟩
theorem t_normT {T : TypeId → TI} {rs : List ResultVar} {d e : D} {H' : Heap} (h : resD T f H rs = some e) (hd : e = d) (hH : H = H') : endT T rs d H' .normal f H := ⟨e, h, by rw [hd], hH⟩
theorem turns_of_body (ok : L.Ok) {g : FuncId} {fn : Func} {code : Code} {args : List D} {d : D} {H' : Heap} (hf : L.P.funcs[g]? = some fn) (hb : fn.body = some code) (hn : (fn.name == "runtime.NumGoroutine") = false)
    (hl : Nat.ble args.length fn.ntmps = true) (hd : dstsOk fn.ntmps code = true) (h : wpD L code (argF args) H (endT L.T fn.results.toList d H')) : CallsV L g args H (Turns d H') :=
  calls_of_body ok hf hb hn (Nat.le_of_ble_eq_true hl) hd h
/-- What it answers is handed over for good, with all that it made. -/
theorem CallsV.trimT {g : FuncId} {args : List D} {d d' : D} {H' : Heap} (h : CallsV L g args H (Turns d H')) (hu : ∀ (i : Nat) (k : Blk), i < H.length → H'[i]? = some k → k.under H.length) (hs : Snap (fun r => H.length ≤ r) H' d d') :
    CallsV L g args H (Turns d' (H'.take H.length)) :=
  h.trim fun r H1 hr => by
    obtain ⟨rfl, rfl⟩ := hr
    exact ⟨hu, d', hs, rfl, rfl⟩
theorem ans_of_turns {g : FuncId} {args : List D} {d d' : D} {H' : Heap} (h : CallsV L g args [] (Turns d H')) (hs : Snap (fun _ => True) H' d d') : Ans L g args d' := by
  unfold Ans
  refine h.close fun r H1 hr => ?_
  obtain ⟨rfl, rfl⟩ := hr
  exact ⟨d', hs, rfl⟩
attribute [irreducible] endT
end

/-! ### lists that are appended to -/
abbrev rowS (xs : List (List D)) (g : Nat) : D := .slice 0 0 xs.length g
abbrev rowH (sz : Nat) (xs : List (List D)) (g : Nat) : Heap := [.cells g sz false xs]
/-- The small heap is a list that may be appended to, and nothing else. -/
inductive Own1 (sz : Nat) : Heap → D → Nat → List (List D) → Prop
  | nil : Own1 sz [] .nilsl 0 []
  | row (g : Nat) (xs : List (List D)) : Own1 sz (rowH sz xs g) (rowS xs g) g xs
/-- A list that was appended to is handed back for good. -/
theorem ans_of_row {L : Lang} {g : FuncId} {args : List D} {sz gn : Nat} {xs : List (List D)} (h : CallsV L g args [] (Turns (rowS xs gn) (rowH sz xs gn))) (hf : ∀ x, x ∈ xs → ∀ d, d ∈ x → Flat d) : Ans L g args (.isl sz xs) :=
  ans_of_turns h (.slice_flat trivial rfl (by simp) rfl hf)

/-! ### bits -/
theorem bv_or (n a b : Nat) : (BitVec.ofInt n (a : Int) ||| BitVec.ofInt n (b : Int)).toNat = (a % 2 ^ n) ||| (b % 2 ^ n) := by
  simp
theorem bv_and (n a b : Nat) : (BitVec.ofInt n (a : Int) &&& BitVec.ofInt n (b : Int)).toNat = (a % 2 ^ n) &&& (b % 2 ^ n) := by
  simp
theorem or128 (a : Nat) (h : a < 256) : a ||| 128 = a % 128 + 128 := by
  have : ∀ a, a < 256 → a ||| 128 = a % 128 + 128 := by decide +kernel
  exact this a h
theorem andNot128 (a : Nat) (h : a < 256) : (BitVec.ofInt 8 (a : Int) &&& ~~~ BitVec.ofInt 8 128).toNat = a % 128 := by
  have : ∀ a, a < 256 → (BitVec.ofInt 8 ((a : Nat) : Int) &&& ~~~ BitVec.ofInt 8 128).toNat = a % 128 := by decide +kernel
  exact this a h
theorem and127 (a : Nat) : a &&& 127 = a % 128 := Nat.and_two_pow_sub_one_eq_mod a 7
theorem and1 (a : Nat) : a &&& 1 = a % 2 := Nat.and_two_pow_sub_one_eq_mod a 1
end Go.Proofs.Ytejpgmemohchaaa.Vm
