/- A call that is lent what it works on, and hands back a row of its own. -/
import Derived.Test.YtejpgmemohchaaaVmZ
set_option linter.unusedSimpArgs false
namespace Go.Proofs.Ytejpgmemohchaaa.Vm
open Go

theorem CallsV.lendRow {L : Lang} (fine : Fine L) {g : FuncId} {args args' : List D} {H : Heap} {n m sz : Nat} {xs : List (List D)} (h : CallsV L g args' [] (Turns (.slice 0 0 n m) [.cells m sz false xs])) (hs : SnapL (fun _ => True) H args args')
    (hx : ∀ x, x ∈ xs → ∀ d, d ∈ x → Scalar d) : CallsV L g args H (Turns (.slice H.length 0 n m) (H ++ [.cells m sz false xs])) := by
  refine ⟨h.1, fun c vs inv hc hg hsz hargs => ?_⟩
  have inv1 := still_inv (S := fun _ => True) inv
  refine (h.2 (c.still fun _ => True) vs inv1 rfl (hg.still fine) (hsz.trans hs.len) (fun i e he => ?_)).mono fun e w' ⟨r, c', q, q2, q3, q4, q5⟩ => ?_
  · obtain ⟨d, hd, hsn⟩ := hs.get i e he
    exact hsn c _ inv hc (hargs i d hd)
  subst hc
  obtain ⟨rfl, q0⟩ := q
  have hst : ∀ b, b < c.w.heap.size → c'.w.heap[b]? = c.w.heap[b]? := fun b hb => q4.frame b hb (fun ⟨r, k, h1, _⟩ => by simp [Cx.still] at h1)
  have h0 : c'.hp[0]? = some (.cells m sz false xs) := by rw [q0]; rfl
  obtain ⟨z0, cs, e0, fz, z1, z2, z3, z4, z5, z6, z7⟩ := q3.blk 0 _ h0
  have hnew : c.w.heap.size ≤ (c'.mu 0).1 := by
    rcases q4.own (c'.mu 0).1 ⟨0, _, h0, rfl, rfl⟩ with ⟨r, k, h1, _⟩ | h1
    · simp [Cx.still] at h1
    · exact h1
  let c2 : Cx := { im := c.im, mu := fun r => if r < c.hp.length then c.mu r else c'.mu 0, hp := c.hp ++ [.cells m sz false xs], w := c'.w }
  have hmu : ∀ r, r < c.hp.length → c2.mu r = c.mu r := fun r hr => by simp only [c2, if_pos hr]
  have hmu0 : c2.mu c.hp.length = c'.mu 0 := by simp only [c2, Nat.lt_irrefl, if_false]
  have hget : ∀ r, r < c.hp.length → c2.hp[r]? = c.hp[r]? := fun r hr => List.getElem?_append_left hr
  have hget0 : c2.hp[c.hp.length]? = some (.cells m sz false xs) := by simp [c2]
  have hlt : ∀ r k, c.hp[r]? = some k → r < c.hp.length := fun r k hk => (List.getElem?_eq_some_iff.1 hk).1
  have le : Le c c2 := by
    refine ⟨q4.os, q4.tape, q4.output, q4.size, by simp [c2], fun b hb => hb, fun b hb => hst b (inv.imlt b hb), fun b hb => .inl hb, fun b hb => ?_, fun b hb _ => hst b hb, fun r hr => ?_, fun r g sz ro xs hr hgn hx => ?_, fun r g ro es hr hgn hx => ?_⟩
    · obtain ⟨r, k, h1, h2, h3⟩ := hb
      by_cases hr : r < c.hp.length
      · exact .inl ⟨r, k, (hget r hr) ▸ h1, h2, by rw [← hmu r hr]; exact h3⟩
      · have : r < c2.hp.length := (List.getElem?_eq_some_iff.1 h1).1
        have hr' : r = c.hp.length := by simp only [c2, List.length_append, List.length_singleton] at this; omega
        subst hr'
        rw [hmu0] at h3
        rw [hget0] at h1
        obtain rfl := Option.some.inj h1
        obtain rfl : (c'.mu 0).1 = b := h3
        exact .inr hnew
    · unfold ng
      rw [hget r hr]
      exact Nat.le_refl _
    · rw [hget r hr] at hx
      have := (inv.blk r _ hx).lt rfl
      exact ⟨ro, xs, hx, rfl, hmu r hr, by simp only [c2, bsize, hst _ this]⟩
    · rw [hget r hr] at hx
      exact ⟨ro, es, hx, by rw [hmu r hr], rfl⟩
  have hcase : ∀ r k, c2.hp[r]? = some k → (r < c.hp.length ∧ c.hp[r]? = some k) ∨ (r = c.hp.length ∧ k = .cells m sz false xs) := fun r k hk => by
    by_cases hr : r < c.hp.length
    · exact .inl ⟨hr, (hget r hr) ▸ hk⟩
    · have : r < c2.hp.length := (List.getElem?_eq_some_iff.1 hk).1
      have hr' : r = c.hp.length := by simp only [c2, List.length_append, List.length_singleton] at this; omega
      subst hr'
      rw [hget0] at hk
      exact .inr ⟨rfl, (Option.some.inj hk).symm⟩
  have inv2 : Inv c2 := by
    refine ⟨fun b hb => Nat.lt_of_lt_of_le (inv.imlt b hb) q4.size, fun r k hk => ?_, fun r r' k k' b hk hk' ha ha' he he' => ?_⟩
    · rcases hcase r k hk with ⟨hr, hk⟩ | ⟨rfl, rfl⟩
      · exact (inv.blk r k hk).mono le (hmu r hr) (fun ha b hb => hst _ ((inv.blk r k hk).atlt ha hb)) (fun _ _ _ => Iff.rfl)
      · show CellsOk c2 c.hp.length sz false xs
        unfold CellsOk
        rw [hmu0]
        exact ⟨z0, cs, e0, fz, z1, z2, z3, fun i x hx' => ⟨(z4 i x hx').1, fun o d ho => ((z4 i x hx').2 o d ho).scalar (hx x (List.mem_of_getElem? hx') d (List.mem_of_getElem? ho))⟩, fun (hh : false = true) => Bool.noConfusion hh, fun _ hb => absurd (inv.imlt _ hb) (by omega), z7⟩
    · rcases hcase r k hk with ⟨hr, hk⟩ | ⟨rfl, rfl⟩
      · rcases hcase r' k' hk' with ⟨hr', hk'⟩ | ⟨rfl, rfl⟩
        · rw [hmu r hr] at he
          rw [hmu r' hr'] at he'
          exact inv.inj r r' k k' b hk hk' ha ha' he he'
        · rw [hmu r hr] at he
          rw [hmu0] at he'
          have := (inv.blk r k hk).atlt ha he
          obtain rfl : (c'.mu 0).1 = b := he'
          omega
      · rcases hcase r' k' hk' with ⟨hr', hk'⟩ | ⟨rfl, rfl⟩
        · rw [hmu r' hr'] at he'
          rw [hmu0] at he
          have := (inv.blk r' k' hk').atlt ha' he'
          obtain rfl : (c'.mu 0).1 = b := he
          omega
        · rfl
  refine ⟨.ret (.slice c.hp.length 0 n m), c2, ⟨rfl, rfl⟩, q2, inv2, le, ?_⟩
  match e, q5 with
  | .returned v, q5 =>
  have q6 : Rep c' v (.slice 0 0 n m) := q5
  show Rep c2 v (.slice c.hp.length 0 n m)
  cases q6 with
  | slice _ _ _ _ _ hr hgg hv =>
  refine .slice _ _ _ _ _ (by simp [c2]) (by unfold ng; rw [hget0]; exact Nat.lt_succ_self m) fun sz' ro xs' hx' => ?_
  rw [hget0] at hx'
  cases hx'
  rw [hmu0]
  exact hv _ _ _ h0
end Go.Proofs.Ytejpgmemohchaaa.Vm
