/- Contracts that tell of the small heap only what there is; rules for bodies with a deferred call. -/
import Derived.Test.YtknkkfdkcemolaaVmSd
set_option linter.unusedSimpArgs false
set_option linter.unusedVariables false
namespace Go.Proofs.Ytknkkfdkcemolaa.Vm
open Go

/-- What is not needed any more is given up behind a call. -/
theorem CallsV.drop {L : Lang} {g : FuncId} {args : List D} {H : Heap} {Q Q' : DRes → Heap → Prop} (h : CallsV L g args H Q) (hq : ∀ r H', Q r H' → ∃ H2, Drops H' H2 ∧ Q' r H2) : CallsV L g args H Q' := by
  refine ⟨h.1, fun c vs inv hc hg hsz hargs => (h.2 c vs inv hc hg hsz hargs).mono fun e w' ⟨r, c', q, q2, q3, q4, q5⟩ => ?_⟩
  obtain ⟨H2, h1, h2⟩ := hq r _ q
  obtain ⟨i2, l2⟩ := drop_ok q3 h1
  refine ⟨r, { c' with hp := H2 }, h2, q2, i2, q4.trans l2, ?_⟩
  cases e <;> cases r <;> try exact q5.elim
  · exact Rep.mono q5 l2
  · obtain ⟨v, z1, z2⟩ := q5
    exact ⟨v, z1, z2.mono l2⟩
theorem CallsV.amidX {L : Lang} (fine : Fine L) {g : FuncId} {args : List D} {Hs : Heap} {d : D} {R : Heap → Prop} (h : CallsV L g args Hs fun r H' => r = .ret d ∧ R H') (hR : ∀ H', R H' → H'.length = Hs.length ∧ ∀ k, k ∈ H' → k.under 0) (ha : ∀ a, a ∈ args → Under Hs.length a)
    (hb : ∀ k, k ∈ Hs → k.under 0) (hd : Under 0 d) (P K : Heap) : CallsV L g (args.map (rn (· + P.length))) (P ++ (Hs ++ K)) fun r H' => r = .ret d ∧ ∃ H1, R H1 ∧ H' = P ++ (H1 ++ K) := by
  have h0 : ∀ (ι : Nat → Nat) (k : Blk), k.under 0 → k.rn ι = k := fun ι k hk => rn_blk (n := 0) (fun j hj => by omega) hk
  have hget : ∀ j, j < Hs.length → (List.range' P.length Hs.length).getD j 0 = P.length + j := fun j hj => by
    rw [List.getD_eq_getElem?_getD, List.getElem?_range' hj]
    simp
  have hι : ∀ j, j < Hs.length → rnI (List.range' P.length Hs.length) (P ++ (Hs ++ K)).length j = j + P.length := fun j hj => by
    rw [rnI, List.length_range', if_pos hj, hget j hj, Nat.add_comm]
  refine (h.embed (H := P ++ (Hs ++ K)) (ix := List.range' P.length Hs.length) (args' := args.map (rn (· + P.length))) fine List.nodup_range' (by simp) (fun i hi => ?_) (fun j hj => ?_) ?_).mono fun r H' hr => ?_
  · have := List.mem_range'_1.1 hi
    simp only [List.length_append]
    omega
  · rw [List.length_range'] at hj
    rw [hget j hj, List.getElem?_append_right (by omega), Nat.add_sub_cancel_left, List.getElem?_append_left hj, List.getElem?_eq_getElem hj, Option.map_some, h0 _ _ (hb _ (List.getElem_mem hj))]
  · exact List.map_congr_left fun a hm => (rn_congr hι (ha a hm)).symm
  · obtain ⟨r0, Hs1, ⟨rfl, hr1⟩, _, rfl, rfl⟩ := hr
    obtain ⟨hl, hb'⟩ := hR _ hr1
    refine ⟨by rw [rnRes, rn_under (n := 0) (fun j hj => by omega) hd], Hs1, hr1, ?_⟩
    refine List.ext_getElem? fun r => ?_
    have hn : (List.range' P.length Hs.length).Nodup := List.nodup_range'
    have hlt : ∀ i, i ∈ List.range' P.length Hs.length → i < (P ++ (Hs ++ K)).length := fun i hi => by
      have := List.mem_range'_1.1 hi
      simp only [List.length_append]
      omega
    by_cases hr : P.length ≤ r ∧ r < P.length + Hs.length
    · have := embed_at (ix := List.range' P.length Hs.length) (H := P ++ (Hs ++ K)) (Hs := Hs1) hn hlt (by simp [hl]) (r - P.length)
      rw [hι _ (by omega), Nat.sub_add_cancel hr.1] at this
      rw [this, List.getElem?_append_right hr.1, List.getElem?_append_left (by omega), List.getElem?_eq_getElem (by omega), Option.map_some, h0 _ _ (hb' _ (List.getElem_mem _))]
    · by_cases hr2 : r < (P ++ (Hs ++ K)).length
      · rw [embed_out hr2 (fun hm => hr (List.mem_range'_1.1 hm))]
        by_cases hp : r < P.length
        · rw [List.getElem?_append_left hp, List.getElem?_append_left hp]
        · rw [List.getElem?_append_right (by omega), List.getElem?_append_right (by omega), List.getElem?_append_right (by omega), List.getElem?_append_right (by omega), hl]
      · rw [List.getElem?_eq_none (by rw [embed_len]; simp at hr2 ⊢; omega), List.getElem?_eq_none (by simp at hr2 ⊢; omega)]
section
variable {L : Lang} {f : Fr} {H : Heap} {Q : DPost}
theorem o_amidX (fine : Fine L) (p : Nat) {ops : Array Oper} {dst : Option Nat} {op : Op} {ty : TypeId} {pos : String} {after : Array Edge} {guard : Option (Nat × Bool)} {r : List Oper} {g : FuncId} {args args' : List D} {d : D} {Hs K : Heap} {R : Heap → Prop} (hg : guardD ops f ⟨dst, op, ty, pos, after, guard⟩ = some true) (hc : callOf L f op = some (g, args'))
    (h : CallsV L g args Hs fun r H' => r = .ret d ∧ R H') (hR : ∀ H', R H' → H'.length = Hs.length ∧ ∀ k, k ∈ H' → k.under 0) (hA : args' = args.map (rn (· + p))) (hH : H = H.take p ++ (Hs ++ K)) (hp : (H.take p).length = p) (hu : (∀ a, a ∈ args → Under Hs.length a) ∧ (∀ k, k ∈ Hs → k.under 0) ∧ Under 0 d)
    (k : ∀ H1, R H1 → opsD L ops Q r (f.put dst d) (H.take p ++ (H1 ++ K))) : opsD L ops Q (⟨dst, op, ty, pos, after, guard⟩ :: r) f H := by
  have := h.amidX fine hR hu.1 hu.2.1 hu.2.2 (H.take p) K
  rw [hp, ← hA, ← hH] at this
  refine o_call hg hc this (fun d' H1 hr => ?_) (fun d' H1 hr => ?_)
  · obtain ⟨h1, H2, h2, rfl⟩ := hr
    obtain rfl := DRes.ret.inj h1
    exact k H2 h2
  · cases hr.1
end
end Go.Proofs.Ytknkkfdkcemolaa.Vm
