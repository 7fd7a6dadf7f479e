/- Walks: CodeApart. -/
import Derived.Test.YtejpgmemohchaaaCwI
set_option linter.unusedSimpArgs false
set_option maxRecDepth 100000
set_option maxHeartbeats 4000000
namespace Go.Proofs.Ytejpgmemohchaaa.Vm
open Go
attribute [local irreducible] wpD opsD thenD blockD planD planA
attribute [local simp] List.take_of_length_le List.drop_of_length_le num_ne

/-- What comes in as a request, a state: numbers of 64 bits. -/
structure Rq.Wf (r : Rq) : Prop where
  endpoint : I64 r.endpoint
  by_ : I64 r.by_
  kind : I64 r.kind
  hops : I64 r.hops
  sent : ∀ n, n ∈ r.sent → I64 n
structure St.Wf (s : St) : Prop where
  doc : I64 s.doc
  jar : ∀ n, n ∈ s.jar → I64 n
  changed : ∀ n, n ∈ s.changed → I64 n
  pending : ∀ r, r ∈ s.pending → r.Wf
theorem St.Wf.in {s : St} (h : s.Wf) (hg : greatSt s = false) : s.In ∧ s.pending.length < 7 := by
  simp only [greatSt, Bool.or_eq_false_iff, decide_eq_false_iff_not] at hg
  obtain ⟨⟨⟨⟨⟨⟨g1, g2⟩, g3⟩, g4⟩, g5⟩, g6⟩, g7⟩ := hg
  refine ⟨⟨h.doc, h.jar, h.changed, fun r hr => ?_, by omega, by omega, by omega, by omega, by omega, by omega⟩, by omega⟩
  have w := h.pending r hr
  have h10 : ¬ 10 < r.sent.length := by
    have := List.any_eq_false.1 g7 r hr
    simpa using this
  exact ⟨w.endpoint, w.by_, w.kind, w.hops, w.sent, by omega⟩
theorem rq_same {a b : Rq} (ha : a.In) (hb : b.In) : (rqB a == rqB b) = sameRq a b := by
  rw [Bool.eq_iff_iff, beq_iff_eq, rqB_inj ha hb]
  obtain ⟨a0, a1, a2, a3, a4, a5, a6, a7⟩ := a
  obtain ⟨b0, b1, b2, b3, b4, b5, b6, b7⟩ := b
  simp [sameRq, and_assoc]
theorem sameRq_iff {a b : Rq} : sameRq a b = true ↔ a = b := by
  obtain ⟨a0, a1, a2, a3, a4, a5, a6, a7⟩ := a
  obtain ⟨b0, b1, b2, b3, b4, b5, b6, b7⟩ := b
  simp [sameRq, and_assoc]
theorem st_same {s t : St} (hs : s.In) (ht : t.In) : (stB s == stB t) = decide (s = t) := by
  rw [Bool.eq_iff_iff, beq_iff_eq, stB_inj hs ht, decide_eq_true_eq]
theorem State_len {s : St} (hs : s.In) : (stB s).length < 1000000000000 := by
  have := stB_len hs
  omega
end Go.Proofs.Ytejpgmemohchaaa.Vm
