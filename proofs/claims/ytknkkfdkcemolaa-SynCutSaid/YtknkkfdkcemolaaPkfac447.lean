/- Own texts, packed. -/
import Derived.Test.YtknkkfdkcemolaaVmSe
import Derived.Test.YtknkkfdkcemolaaVmZe
import Derived.ProofKit
import Derived.Shelf.Strings.Builder1
import Derived.Test.YtknkkfdkcemolaaVmY
import Derived.Test.YtknkkfdkcemolaaVmT
import Derived.Test.YtknkkfdkcemolaaPk12eb83
section
/- Walks: items of a description. -/
set_option linter.unusedSimpArgs false
set_option linter.unusedVariables false
set_option maxRecDepth 100000
set_option maxHeartbeats 4000000
namespace Go.Proofs.Ytknkkfdkcemolaa.Vm
open Go
variable {m : Int}
attribute [local irreducible] wpD opsD thenD blockD planD planA
attribute [local simp] List.take_of_length_le List.drop_of_length_le bne mvD endAt

abbrev encA (a : AttrT) : List D := encT a.word ++ encT a.arg
def attrsD : List AttrT → D
  | [] => .nilsl
  | a :: l => .isl 6 ((a :: l).map encA)
def formO : Option Tree → D
  | none => .nilptr
  | some t => treeD t
abbrev itemD (i : ItemT) : D := .agg (encT i.word ++ encT i.name ++ encT i.of_ ++ encT i.caps ++ encT i.text ++ [attrsD i.attrs, formO i.form])
abbrev itemRes (e : Nat) : PR ItemT → Except D (D × Heap)
  | .ok (i, r) => .ok (itemD i, rdH e r)
  | .error a => .error (stopD a)
theorem itemRes_len (e : Nat) (x : PR ItemT) : ∀ d Hn, itemRes e x = .ok (d, Hn) → Hn.length = 1 ∧ ∀ k, k ∈ Hn → k.under 1 := by
  intro d Hn h
  match x, h with
  | .ok (t, r), h =>
    simp only [itemRes, Except.ok.injEq, Prod.mk.injEq] at h
    rw [← h.2]
    exact ⟨rfl, by simp⟩
  | .error a, h => cases h
theorem item_origin {e kd pa : Nat} {ts r0 : List Tok} (h0 : takeP e 2 ts = .ok (⟨kd, pa, [111, 114, 105, 103, 105, 110]⟩, r0)) : CallsV (L m) 48 [rdR] (rdH e ts) (Ends 1 (rdH e ts) (itemRes e (itemK e ⟨kd, pa, [111, 114, 105, 103, 105, 110]⟩ r0))) := by
  refine ends_of_body L_ok (H := rdH e ts) (itemRes_len _ _) (fn := Try.f48) rfl rfl rfl rfl (by kernel_rfl) ?_
  have a0 := take_ok (m := m) e 2 ts _ _ h0
  clear h0
  have hK : itemK e ⟨kd, pa, [111, 114, 105, 103, 105, 110]⟩ r0 = andP (takeP e 1 r0) fun n r => andP (takeP e 3 r) fun x r => andP (wantP e 4 [59] r) fun _ r => .ok ({ word := ⟨kd, pa, [111, 114, 105, 103, 105, 110]⟩, name := n, text := x }, r) := rfl
  rw [hK]
  clear hK
  cases hx1 : takeP e 1 r0 with
  | error a =>
    have a1 := take_up (m := m) e 1 r0 _ hx1
    simp only [andP, hx1, itemRes]
    clear hx1
    repeat' (first
      | apply w_seq
      | apply w_region
      | apply o_end
      | apply t_normal
      | (apply o_val; (focus (first | rfl | (apply g_in; rfl; rfl; (focus (simp [*]; done))))); (focus (simp [*]; rfl)))
      | (apply o_beside fine; (focus (first | rfl | (apply g_in; rfl; rfl; (focus (simp [*]; done))))); (focus (simp [*]; exact ⟨rfl, rfl⟩)); (focus (exact a0)); (focus rfl); (focus rfl); (focus (simp [under_func, under_agg, under_tuple, under_box, *]; done)); (focus (simp only [rowH, List.cons_append, List.nil_append]; rfl)))
      | (apply o_up fine; (focus (first | rfl | (apply g_in; rfl; rfl; (focus (simp [*]; done))))); (focus (simp [*]; exact ⟨rfl, rfl⟩)); (focus (exact a1)); (focus rfl); (focus (simp [under_func, under_agg, under_tuple, under_box]; done)); (intro H1 hH1))
      | (apply o_mem; (focus (first | rfl | (apply g_in; rfl; rfl; (focus (simp [*]; done))))); rfl; (focus (simp [*]; exact ⟨rfl, rfl⟩)))
      | apply w_block
      | (apply w_true; (focus (simp [*]; done)))
      | apply t_panic
      | apply b_panic
      | (apply s_panic; (focus (first | rfl | (simp [*]; done))))
      | fail)
  | ok p =>
    obtain ⟨x1, r1⟩ := p
    have a1 := take_ok (m := m) e 1 r0 _ _ hx1
    cases hx2 : takeP e 3 r1 with
    | error a =>
      have a2 := take_up (m := m) e 3 r1 _ hx2
      simp only [andP, hx1, hx2, itemRes]
      clear hx1 hx2
      repeat' (first
        | apply w_seq
        | apply w_region
        | apply o_end
        | apply t_normal
        | (apply o_val; (focus (first | rfl | (apply g_in; rfl; rfl; (focus (simp [*]; done))))); (focus (simp [*]; rfl)))
        | (apply o_beside fine; (focus (first | rfl | (apply g_in; rfl; rfl; (focus (simp [*]; done))))); (focus (simp [*]; exact ⟨rfl, rfl⟩)); (focus (exact a0)); (focus rfl); (focus rfl); (focus (simp [under_func, under_agg, under_tuple, under_box, *]; done)); (focus (simp only [rowH, List.cons_append, List.nil_append]; rfl)))
        | (apply o_beside fine; (focus (first | rfl | (apply g_in; rfl; rfl; (focus (simp [*]; done))))); (focus (simp [*]; exact ⟨rfl, rfl⟩)); (focus (exact a1)); (focus rfl); (focus rfl); (focus (simp [under_func, under_agg, under_tuple, under_box, *]; done)); (focus (simp only [rowH, List.cons_append, List.nil_append]; rfl)))
        | (apply o_up fine; (focus (first | rfl | (apply g_in; rfl; rfl; (focus (simp [*]; done))))); (focus (simp [*]; exact ⟨rfl, rfl⟩)); (focus (exact a2)); (focus rfl); (focus (simp [under_func, under_agg, under_tuple, under_box]; done)); (intro H1 hH1))
        | (apply o_mem; (focus (first | rfl | (apply g_in; rfl; rfl; (focus (simp [*]; done))))); rfl; (focus (simp [*]; exact ⟨rfl, rfl⟩)))
        | apply w_block
        | (apply w_true; (focus (simp [*]; done)))
        | apply t_panic
        | apply b_panic
        | (apply s_panic; (focus (first | rfl | (simp [*]; done))))
        | fail)
    | ok p =>
      obtain ⟨x2, r2⟩ := p
      have a2 := take_ok (m := m) e 3 r1 _ _ hx2
      cases hx3 : wantP e 4 [59] r2 with
      | error a =>
        have a3 := want_up (m := m) e 4 _ r2 _ hx3
        simp only [andP, hx1, hx2, hx3, itemRes]
        clear hx1 hx2 hx3
        repeat' (first
          | apply w_seq
          | apply w_region
          | apply o_end
          | apply t_normal
          | (apply o_val; (focus (first | rfl | (apply g_in; rfl; rfl; (focus (simp [*]; done))))); (focus (simp [*]; rfl)))
          | (apply o_beside fine; (focus (first | rfl | (apply g_in; rfl; rfl; (focus (simp [*]; done))))); (focus (simp [*]; exact ⟨rfl, rfl⟩)); (focus (exact a0)); (focus rfl); (focus rfl); (focus (simp [under_func, under_agg, under_tuple, under_box, *]; done)); (focus (simp only [rowH, List.cons_append, List.nil_append]; rfl)))
          | (apply o_beside fine; (focus (first | rfl | (apply g_in; rfl; rfl; (focus (simp [*]; done))))); (focus (simp [*]; exact ⟨rfl, rfl⟩)); (focus (exact a1)); (focus rfl); (focus rfl); (focus (simp [under_func, under_agg, under_tuple, under_box, *]; done)); (focus (simp only [rowH, List.cons_append, List.nil_append]; rfl)))
          | (apply o_beside fine; (focus (first | rfl | (apply g_in; rfl; rfl; (focus (simp [*]; done))))); (focus (simp [*]; exact ⟨rfl, rfl⟩)); (focus (exact a2)); (focus rfl); (focus rfl); (focus (simp [under_func, under_agg, under_tuple, under_box, *]; done)); (focus (simp only [rowH, List.cons_append, List.nil_append]; rfl)))
          | (apply o_up fine; (focus (first | rfl | (apply g_in; rfl; rfl; (focus (simp [*]; done))))); (focus (simp [*]; exact ⟨rfl, rfl⟩)); (focus (exact a3)); (focus rfl); (focus (simp [under_func, under_agg, under_tuple, under_box]; done)); (intro H1 hH1))
          | (apply o_mem; (focus (first | rfl | (apply g_in; rfl; rfl; (focus (simp [*]; done))))); rfl; (focus (simp [*]; exact ⟨rfl, rfl⟩)))
          | apply w_block
          | apply b_normal
          | (apply w_true; (focus (simp [*]; done)))
          | apply t_panic
          | (apply s_panic; (focus (first | rfl | (simp [*]; done))))
          | fail)
      | ok p =>
        obtain ⟨x3, r3⟩ := p
        have a3 := want_ok (m := m) e 4 _ r2 _ _ hx3
        simp only [andP, hx1, hx2, hx3, itemRes]
        clear hx1 hx2 hx3
        repeat' (first
          | apply w_seq
          | apply w_region
          | apply o_end
          | apply t_normal
          | (apply o_val; (focus (first | rfl | (apply g_in; rfl; rfl; (focus (simp [*]; done))))); (focus (simp [*]; rfl)))
          | (apply o_beside fine; (focus (first | rfl | (apply g_in; rfl; rfl; (focus (simp [*]; done))))); (focus (simp [*]; exact ⟨rfl, rfl⟩)); (focus (exact a0)); (focus rfl); (focus rfl); (focus (simp [under_func, under_agg, under_tuple, under_box, *]; done)); (focus (simp only [rowH, List.cons_append, List.nil_append]; rfl)))
          | (apply o_beside fine; (focus (first | rfl | (apply g_in; rfl; rfl; (focus (simp [*]; done))))); (focus (simp [*]; exact ⟨rfl, rfl⟩)); (focus (exact a1)); (focus rfl); (focus rfl); (focus (simp [under_func, under_agg, under_tuple, under_box, *]; done)); (focus (simp only [rowH, List.cons_append, List.nil_append]; rfl)))
          | (apply o_beside fine; (focus (first | rfl | (apply g_in; rfl; rfl; (focus (simp [*]; done))))); (focus (simp [*]; exact ⟨rfl, rfl⟩)); (focus (exact a2)); (focus rfl); (focus rfl); (focus (simp [under_func, under_agg, under_tuple, under_box, *]; done)); (focus (simp only [rowH, List.cons_append, List.nil_append]; rfl)))
          | (apply o_beside fine; (focus (first | rfl | (apply g_in; rfl; rfl; (focus (simp [*]; done))))); (focus (simp [*]; exact ⟨rfl, rfl⟩)); (focus (exact a3)); (focus rfl); (focus rfl); (focus (simp [under_func, under_agg, under_tuple, under_box, *]; done)); (focus (simp only [rowH, List.cons_append, List.nil_append]; rfl)))
          | (apply o_mem; (focus (first | rfl | (apply g_in; rfl; rfl; (focus (simp [*]; done))))); rfl; (focus (simp [*]; exact ⟨rfl, rfl⟩)))
          | apply w_block
          | apply b_normal
          | apply w_ret
          | (apply w_true; (focus (simp [*]; done)))
          | fail)
        apply s_ret rfl
        · simp [*]; rfl
        · rfl
        · exact Snap.flat (by simp [attrsD, formO, *]; done)
theorem item_cookie {e kd pa : Nat} {ts r0 : List Tok} (h0 : takeP e 2 ts = .ok (⟨kd, pa, [99, 111, 111, 107, 105, 101]⟩, r0)) : CallsV (L m) 48 [rdR] (rdH e ts) (Ends 1 (rdH e ts) (itemRes e (itemK e ⟨kd, pa, [99, 111, 111, 107, 105, 101]⟩ r0))) := by
  refine ends_of_body L_ok (H := rdH e ts) (itemRes_len _ _) (fn := Try.f48) rfl rfl rfl rfl (by kernel_rfl) ?_
  have a0 := take_ok (m := m) e 2 ts _ _ h0
  clear h0
  have hK : itemK e ⟨kd, pa, [99, 111, 111, 107, 105, 101]⟩ r0 = andP (placedP e r0) fun n r => andP (takeP e 3 r) fun x r => andP (wantP e 4 [59] r) fun _ r => .ok ({ word := ⟨kd, pa, [99, 111, 111, 107, 105, 101]⟩, name := n.1, of_ := n.2, text := x }, r) := rfl
  rw [hK]
  clear hK
  cases hx1 : placedP e r0 with
  | error a =>
    have a1 := placed_up (m := m) e r0 _ hx1
    simp only [andP, hx1, itemRes]
    clear hx1
    repeat' (first
      | apply w_seq
      | apply w_region
      | apply o_end
      | apply t_normal
      | (apply o_val; (focus (first | rfl | (apply g_in; rfl; rfl; (focus (simp [*]; done))))); (focus (simp [*]; rfl)))
      | (apply o_beside fine; (focus (first | rfl | (apply g_in; rfl; rfl; (focus (simp [*]; done))))); (focus (simp [*]; exact ⟨rfl, rfl⟩)); (focus (exact a0)); (focus rfl); (focus rfl); (focus (simp [under_func, under_agg, under_tuple, under_box, *]; done)); (focus (simp only [rowH, List.cons_append, List.nil_append]; rfl)))
      | (apply o_up fine; (focus (first | rfl | (apply g_in; rfl; rfl; (focus (simp [*]; done))))); (focus (simp [*]; exact ⟨rfl, rfl⟩)); (focus (exact a1)); (focus rfl); (focus (simp [under_func, under_agg, under_tuple, under_box]; done)); (intro H1 hH1))
      | (apply o_mem; (focus (first | rfl | (apply g_in; rfl; rfl; (focus (simp [*]; done))))); rfl; (focus (simp [*]; exact ⟨rfl, rfl⟩)))
      | apply w_block
      | (apply w_true; (focus (simp [*]; done)))
      | (apply w_false; (focus (simp [*]; done)))
      | apply t_panic
      | apply b_panic
      | (apply s_panic; (focus (first | rfl | (simp [*]; done))))
      | fail)
  | ok p =>
    obtain ⟨⟨n1, o1⟩, r1⟩ := p
    have a1 := placed_ok (m := m) e r0 _ _ _ hx1
    cases hx2 : takeP e 3 r1 with
    | error a =>
      have a2 := take_up (m := m) e 3 r1 _ hx2
      simp only [andP, hx1, hx2, itemRes]
      clear hx1 hx2
      repeat' (first
        | apply w_seq
        | apply w_region
        | apply o_end
        | apply t_normal
        | (apply o_val; (focus (first | rfl | (apply g_in; rfl; rfl; (focus (simp [*]; done))))); (focus (simp [*]; rfl)))
        | (apply o_beside fine; (focus (first | rfl | (apply g_in; rfl; rfl; (focus (simp [*]; done))))); (focus (simp [*]; exact ⟨rfl, rfl⟩)); (focus (exact a0)); (focus rfl); (focus rfl); (focus (simp [under_func, under_agg, under_tuple, under_box, *]; done)); (focus (simp only [rowH, List.cons_append, List.nil_append]; rfl)))
        | (apply o_beside fine; (focus (first | rfl | (apply g_in; rfl; rfl; (focus (simp [*]; done))))); (focus (simp [*]; exact ⟨rfl, rfl⟩)); (focus (exact a1)); (focus rfl); (focus rfl); (focus (simp [under_func, under_agg, under_tuple, under_box, *]; done)); (focus (simp only [rowH, List.cons_append, List.nil_append]; rfl)))
        | (apply o_up fine; (focus (first | rfl | (apply g_in; rfl; rfl; (focus (simp [*]; done))))); (focus (simp [*]; exact ⟨rfl, rfl⟩)); (focus (exact a2)); (focus rfl); (focus (simp [under_func, under_agg, under_tuple, under_box]; done)); (intro H1 hH1))
        | (apply o_mem; (focus (first | rfl | (apply g_in; rfl; rfl; (focus (simp [*]; done))))); rfl; (focus (simp [*]; exact ⟨rfl, rfl⟩)))
        | apply w_block
        | (apply w_true; (focus (simp [*]; done)))
        | (apply w_false; (focus (simp [*]; done)))
        | apply t_panic
        | apply b_panic
        | (apply s_panic; (focus (first | rfl | (simp [*]; done))))
        | fail)
    | ok p =>
      obtain ⟨x2, r2⟩ := p
      have a2 := take_ok (m := m) e 3 r1 _ _ hx2
      cases hx3 : wantP e 4 [59] r2 with
      | error a =>
        have a3 := want_up (m := m) e 4 _ r2 _ hx3
        simp only [andP, hx1, hx2, hx3, itemRes]
        clear hx1 hx2 hx3
        repeat' (first
          | apply w_seq
          | apply w_region
          | apply o_end
          | apply t_normal
          | (apply o_val; (focus (first | rfl | (apply g_in; rfl; rfl; (focus (simp [*]; done))))); (focus (simp [*]; rfl)))
          | (apply o_beside fine; (focus (first | rfl | (apply g_in; rfl; rfl; (focus (simp [*]; done))))); (focus (simp [*]; exact ⟨rfl, rfl⟩)); (focus (exact a0)); (focus rfl); (focus rfl); (focus (simp [under_func, under_agg, under_tuple, under_box, *]; done)); (focus (simp only [rowH, List.cons_append, List.nil_append]; rfl)))
          | (apply o_beside fine; (focus (first | rfl | (apply g_in; rfl; rfl; (focus (simp [*]; done))))); (focus (simp [*]; exact ⟨rfl, rfl⟩)); (focus (exact a1)); (focus rfl); (focus rfl); (focus (simp [under_func, under_agg, under_tuple, under_box, *]; done)); (focus (simp only [rowH, List.cons_append, List.nil_append]; rfl)))
          | (apply o_beside fine; (focus (first | rfl | (apply g_in; rfl; rfl; (focus (simp [*]; done))))); (focus (simp [*]; exact ⟨rfl, rfl⟩)); (focus (exact a2)); (focus rfl); (focus rfl); (focus (simp [under_func, under_agg, under_tuple, under_box, *]; done)); (focus (simp only [rowH, List.cons_append, List.nil_append]; rfl)))
          | (apply o_up fine; (focus (first | rfl | (apply g_in; rfl; rfl; (focus (simp [*]; done))))); (focus (simp [*]; exact ⟨rfl, rfl⟩)); (focus (exact a3)); (focus rfl); (focus (simp [under_func, under_agg, under_tuple, under_box]; done)); (intro H1 hH1))
          | (apply o_mem; (focus (first | rfl | (apply g_in; rfl; rfl; (focus (simp [*]; done))))); rfl; (focus (simp [*]; exact ⟨rfl, rfl⟩)))
          | apply w_block
          | apply b_normal
          | (apply w_true; (focus (simp [*]; done)))
          | (apply w_false; (focus (simp [*]; done)))
          | apply t_panic
          | (apply s_panic; (focus (first | rfl | (simp [*]; done))))
          | fail)
      | ok p =>
        obtain ⟨x3, r3⟩ := p
        have a3 := want_ok (m := m) e 4 _ r2 _ _ hx3
        simp only [andP, hx1, hx2, hx3, itemRes]
        clear hx1 hx2 hx3
        repeat' (first
          | apply w_seq
          | apply w_region
          | apply o_end
          | apply t_normal
          | (apply o_val; (focus (first | rfl | (apply g_in; rfl; rfl; (focus (simp [*]; done))))); (focus (simp [*]; rfl)))
          | (apply o_beside fine; (focus (first | rfl | (apply g_in; rfl; rfl; (focus (simp [*]; done))))); (focus (simp [*]; exact ⟨rfl, rfl⟩)); (focus (exact a0)); (focus rfl); (focus rfl); (focus (simp [under_func, under_agg, under_tuple, under_box, *]; done)); (focus (simp only [rowH, List.cons_append, List.nil_append]; rfl)))
          | (apply o_beside fine; (focus (first | rfl | (apply g_in; rfl; rfl; (focus (simp [*]; done))))); (focus (simp [*]; exact ⟨rfl, rfl⟩)); (focus (exact a1)); (focus rfl); (focus rfl); (focus (simp [under_func, under_agg, under_tuple, under_box, *]; done)); (focus (simp only [rowH, List.cons_append, List.nil_append]; rfl)))
          | (apply o_beside fine; (focus (first | rfl | (apply g_in; rfl; rfl; (focus (simp [*]; done))))); (focus (simp [*]; exact ⟨rfl, rfl⟩)); (focus (exact a2)); (focus rfl); (focus rfl); (focus (simp [under_func, under_agg, under_tuple, under_box, *]; done)); (focus (simp only [rowH, List.cons_append, List.nil_append]; rfl)))
          | (apply o_beside fine; (focus (first | rfl | (apply g_in; rfl; rfl; (focus (simp [*]; done))))); (focus (simp [*]; exact ⟨rfl, rfl⟩)); (focus (exact a3)); (focus rfl); (focus rfl); (focus (simp [under_func, under_agg, under_tuple, under_box, *]; done)); (focus (simp only [rowH, List.cons_append, List.nil_append]; rfl)))
          | (apply o_mem; (focus (first | rfl | (apply g_in; rfl; rfl; (focus (simp [*]; done))))); rfl; (focus (simp [*]; exact ⟨rfl, rfl⟩)))
          | apply w_block
          | apply b_normal
          | apply w_ret
          | (apply w_true; (focus (simp [*]; done)))
          | (apply w_false; (focus (simp [*]; done)))
          | fail)
        apply s_ret rfl
        · simp [*]; rfl
        · rfl
        · exact Snap.flat (by simp [attrsD, formO, *]; done)
theorem item_secret {e kd pa : Nat} {ts r0 : List Tok} (h0 : takeP e 2 ts = .ok (⟨kd, pa, [115, 101, 99, 114, 101, 116]⟩, r0)) : CallsV (L m) 48 [rdR] (rdH e ts) (Ends 1 (rdH e ts) (itemRes e (itemK e ⟨kd, pa, [115, 101, 99, 114, 101, 116]⟩ r0))) := by
  refine ends_of_body L_ok (H := rdH e ts) (itemRes_len _ _) (fn := Try.f48) rfl rfl rfl rfl (by kernel_rfl) ?_
  have a0 := take_ok (m := m) e 2 ts _ _ h0
  clear h0
  have hK : itemK e ⟨kd, pa, [115, 101, 99, 114, 101, 116]⟩ r0 = andP (takeP e 1 r0) fun n r => andP (wantP e 4 [59] r) fun _ r => .ok ({ word := ⟨kd, pa, [115, 101, 99, 114, 101, 116]⟩, name := n }, r) := rfl
  rw [hK]
  clear hK
  cases hx1 : takeP e 1 r0 with
  | error a =>
    have a1 := take_up (m := m) e 1 r0 _ hx1
    simp only [andP, hx1, itemRes]
    clear hx1
    repeat' (first
      | apply w_seq
      | apply w_region
      | apply o_end
      | apply t_normal
      | (apply o_val; (focus (first | rfl | (apply g_in; rfl; rfl; (focus (simp [*]; done))))); (focus (simp [*]; rfl)))
      | (apply o_beside fine; (focus (first | rfl | (apply g_in; rfl; rfl; (focus (simp [*]; done))))); (focus (simp [*]; exact ⟨rfl, rfl⟩)); (focus (exact a0)); (focus rfl); (focus rfl); (focus (simp [under_func, under_agg, under_tuple, under_box, *]; done)); (focus (simp only [rowH, List.cons_append, List.nil_append]; rfl)))
      | (apply o_up fine; (focus (first | rfl | (apply g_in; rfl; rfl; (focus (simp [*]; done))))); (focus (simp [*]; exact ⟨rfl, rfl⟩)); (focus (exact a1)); (focus rfl); (focus (simp [under_func, under_agg, under_tuple, under_box]; done)); (intro H1 hH1))
      | (apply o_mem; (focus (first | rfl | (apply g_in; rfl; rfl; (focus (simp [*]; done))))); rfl; (focus (simp [*]; exact ⟨rfl, rfl⟩)))
      | apply w_block
      | (apply w_true; (focus (simp [*]; done)))
      | (apply w_false; (focus (simp [*]; done)))
      | apply t_panic
      | apply b_panic
      | (apply s_panic; (focus (first | rfl | (simp [*]; done))))
      | fail)
  | ok p =>
    obtain ⟨x1, r1⟩ := p
    have a1 := take_ok (m := m) e 1 r0 _ _ hx1
    cases hx2 : wantP e 4 [59] r1 with
    | error a =>
      have a2 := want_up (m := m) e 4 _ r1 _ hx2
      simp only [andP, hx1, hx2, itemRes]
      clear hx1 hx2
      repeat' (first
        | apply w_seq
        | apply w_region
        | apply o_end
        | apply t_normal
        | (apply o_val; (focus (first | rfl | (apply g_in; rfl; rfl; (focus (simp [*]; done))))); (focus (simp [*]; rfl)))
        | (apply o_beside fine; (focus (first | rfl | (apply g_in; rfl; rfl; (focus (simp [*]; done))))); (focus (simp [*]; exact ⟨rfl, rfl⟩)); (focus (exact a0)); (focus rfl); (focus rfl); (focus (simp [under_func, under_agg, under_tuple, under_box, *]; done)); (focus (simp only [rowH, List.cons_append, List.nil_append]; rfl)))
        | (apply o_beside fine; (focus (first | rfl | (apply g_in; rfl; rfl; (focus (simp [*]; done))))); (focus (simp [*]; exact ⟨rfl, rfl⟩)); (focus (exact a1)); (focus rfl); (focus rfl); (focus (simp [under_func, under_agg, under_tuple, under_box, *]; done)); (focus (simp only [rowH, List.cons_append, List.nil_append]; rfl)))
        | (apply o_up fine; (focus (first | rfl | (apply g_in; rfl; rfl; (focus (simp [*]; done))))); (focus (simp [*]; exact ⟨rfl, rfl⟩)); (focus (exact a2)); (focus rfl); (focus (simp [under_func, under_agg, under_tuple, under_box]; done)); (intro H1 hH1))
        | (apply o_mem; (focus (first | rfl | (apply g_in; rfl; rfl; (focus (simp [*]; done))))); rfl; (focus (simp [*]; exact ⟨rfl, rfl⟩)))
        | apply w_block
        | apply b_normal
        | (apply w_true; (focus (simp [*]; done)))
        | (apply w_false; (focus (simp [*]; done)))
        | apply t_panic
        | (apply s_panic; (focus (first | rfl | (simp [*]; done))))
        | fail)
    | ok p =>
      obtain ⟨x2, r2⟩ := p
      have a2 := want_ok (m := m) e 4 _ r1 _ _ hx2
      simp only [andP, hx1, hx2, itemRes]
      clear hx1 hx2
      repeat' (first
        | apply w_seq
        | apply w_region
        | apply o_end
        | apply t_normal
        | (apply o_val; (focus (first | rfl | (apply g_in; rfl; rfl; (focus (simp [*]; done))))); (focus (simp [*]; rfl)))
        | (apply o_beside fine; (focus (first | rfl | (apply g_in; rfl; rfl; (focus (simp [*]; done))))); (focus (simp [*]; exact ⟨rfl, rfl⟩)); (focus (exact a0)); (focus rfl); (focus rfl); (focus (simp [under_func, under_agg, under_tuple, under_box, *]; done)); (focus (simp only [rowH, List.cons_append, List.nil_append]; rfl)))
        | (apply o_beside fine; (focus (first | rfl | (apply g_in; rfl; rfl; (focus (simp [*]; done))))); (focus (simp [*]; exact ⟨rfl, rfl⟩)); (focus (exact a1)); (focus rfl); (focus rfl); (focus (simp [under_func, under_agg, under_tuple, under_box, *]; done)); (focus (simp only [rowH, List.cons_append, List.nil_append]; rfl)))
        | (apply o_beside fine; (focus (first | rfl | (apply g_in; rfl; rfl; (focus (simp [*]; done))))); (focus (simp [*]; exact ⟨rfl, rfl⟩)); (focus (exact a2)); (focus rfl); (focus rfl); (focus (simp [under_func, under_agg, under_tuple, under_box, *]; done)); (focus (simp only [rowH, List.cons_append, List.nil_append]; rfl)))
        | (apply o_mem; (focus (first | rfl | (apply g_in; rfl; rfl; (focus (simp [*]; done))))); rfl; (focus (simp [*]; exact ⟨rfl, rfl⟩)))
        | apply w_block
        | apply b_normal
        | apply w_ret
        | (apply w_true; (focus (simp [*]; done)))
        | (apply w_false; (focus (simp [*]; done)))
        | fail)
      apply s_ret rfl
      · simp [*]; rfl
      · rfl
      · exact Snap.flat (by simp [attrsD, formO, *]; done)
theorem item_network {e kd pa : Nat} {ts r0 : List Tok} (h0 : takeP e 2 ts = .ok (⟨kd, pa, [110, 101, 116, 119, 111, 114, 107]⟩, r0)) : CallsV (L m) 48 [rdR] (rdH e ts) (Ends 1 (rdH e ts) (itemRes e (itemK e ⟨kd, pa, [110, 101, 116, 119, 111, 114, 107]⟩ r0))) := by
  refine ends_of_body L_ok (H := rdH e ts) (itemRes_len _ _) (fn := Try.f48) rfl rfl rfl rfl (by kernel_rfl) ?_
  have a0 := take_ok (m := m) e 2 ts _ _ h0
  clear h0
  have hK : itemK e ⟨kd, pa, [110, 101, 116, 119, 111, 114, 107]⟩ r0 = andP (wantP e 4 [59] r0) fun _ r => .ok ({ word := ⟨kd, pa, [110, 101, 116, 119, 111, 114, 107]⟩ }, r) := rfl
  rw [hK]
  clear hK
  cases hx1 : wantP e 4 [59] r0 with
  | error a =>
    have a1 := want_up (m := m) e 4 _ r0 _ hx1
    simp only [andP, hx1, itemRes]
    clear hx1
    repeat' (first
      | apply w_seq
      | apply w_region
      | apply o_end
      | apply t_normal
      | (apply o_val; (focus (first | rfl | (apply g_in; rfl; rfl; (focus (simp [*]; done))))); (focus (simp [*]; rfl)))
      | (apply o_beside fine; (focus (first | rfl | (apply g_in; rfl; rfl; (focus (simp [*]; done))))); (focus (simp [*]; exact ⟨rfl, rfl⟩)); (focus (exact a0)); (focus rfl); (focus rfl); (focus (simp [under_func, under_agg, under_tuple, under_box, *]; done)); (focus (simp only [rowH, List.cons_append, List.nil_append]; rfl)))
      | (apply o_up fine; (focus (first | rfl | (apply g_in; rfl; rfl; (focus (simp [*]; done))))); (focus (simp [*]; exact ⟨rfl, rfl⟩)); (focus (exact a1)); (focus rfl); (focus (simp [under_func, under_agg, under_tuple, under_box]; done)); (intro H1 hH1))
      | (apply o_mem; (focus (first | rfl | (apply g_in; rfl; rfl; (focus (simp [*]; done))))); rfl; (focus (simp [*]; exact ⟨rfl, rfl⟩)))
      | apply w_skip
      | apply w_block
      | apply b_normal
      | (apply w_true; (focus (simp [*]; done)))
      | (apply w_false; (focus (simp [*]; done)))
      | apply t_panic
      | (apply s_panic; (focus (first | rfl | (simp [*]; done))))
      | fail)
  | ok p =>
    obtain ⟨x1, r1⟩ := p
    have a1 := want_ok (m := m) e 4 _ r0 _ _ hx1
    simp only [andP, hx1, itemRes]
    clear hx1
    repeat' (first
      | apply w_seq
      | apply w_region
      | apply o_end
      | apply t_normal
      | (apply o_val; (focus (first | rfl | (apply g_in; rfl; rfl; (focus (simp [*]; done))))); (focus (simp [*]; rfl)))
      | (apply o_beside fine; (focus (first | rfl | (apply g_in; rfl; rfl; (focus (simp [*]; done))))); (focus (simp [*]; exact ⟨rfl, rfl⟩)); (focus (exact a0)); (focus rfl); (focus rfl); (focus (simp [under_func, under_agg, under_tuple, under_box, *]; done)); (focus (simp only [rowH, List.cons_append, List.nil_append]; rfl)))
      | (apply o_beside fine; (focus (first | rfl | (apply g_in; rfl; rfl; (focus (simp [*]; done))))); (focus (simp [*]; exact ⟨rfl, rfl⟩)); (focus (exact a1)); (focus rfl); (focus rfl); (focus (simp [under_func, under_agg, under_tuple, under_box, *]; done)); (focus (simp only [rowH, List.cons_append, List.nil_append]; rfl)))
      | (apply o_mem; (focus (first | rfl | (apply g_in; rfl; rfl; (focus (simp [*]; done))))); rfl; (focus (simp [*]; exact ⟨rfl, rfl⟩)))
      | apply w_skip
      | apply w_block
      | apply b_normal
      | apply w_ret
      | (apply w_true; (focus (simp [*]; done)))
      | (apply w_false; (focus (simp [*]; done)))
      | fail)
    apply s_ret rfl
    · simp [*]; rfl
    · rfl
    · exact Snap.flat (by simp [attrsD, formO, *]; done)
theorem item_property {e kd pa : Nat} {ts r0 : List Tok} (h0 : takeP e 2 ts = .ok (⟨kd, pa, [112, 114, 111, 112, 101, 114, 116, 121]⟩, r0)) : CallsV (L m) 48 [rdR] (rdH e ts) (Ends 1 (rdH e ts) (itemRes e (itemK e ⟨kd, pa, [112, 114, 111, 112, 101, 114, 116, 121]⟩ r0))) := by
  refine ends_of_body L_ok (H := rdH e ts) (itemRes_len _ _) (fn := Try.f48) rfl rfl rfl rfl (by kernel_rfl) ?_
  have a0 := take_ok (m := m) e 2 ts _ _ h0
  clear h0
  have hK : itemK e ⟨kd, pa, [112, 114, 111, 112, 101, 114, 116, 121]⟩ r0 = andP (takeP e 1 r0) fun n r => andP (wantP e 4 [61] r) fun _ r => andP (formP e (3 * r.length + 3) 2 r) fun t r => andP (wantP e 4 [59] r) fun _ r => .ok ({ word := ⟨kd, pa, [112, 114, 111, 112, 101, 114, 116, 121]⟩, name := n, form := some t }, r) := rfl
  rw [hK]
  clear hK
  cases hx1 : takeP e 1 r0 with
  | error a =>
    have a1 := take_up (m := m) e 1 r0 _ hx1
    simp only [andP, hx1, itemRes]
    clear hx1
    repeat' (first
      | apply w_seq
      | apply w_region
      | apply o_end
      | apply t_normal
      | (apply o_val; (focus (first | rfl | (apply g_in; rfl; rfl; (focus (simp [*]; done))))); (focus (simp [*]; rfl)))
      | (apply o_beside fine; (focus (first | rfl | (apply g_in; rfl; rfl; (focus (simp [*]; done))))); (focus (simp [*]; exact ⟨rfl, rfl⟩)); (focus (exact a0)); (focus rfl); (focus rfl); (focus (simp [under_func, under_agg, under_tuple, under_box, *]; done)); (focus (simp only [rowH, List.cons_append, List.nil_append]; rfl)))
      | (apply o_up fine; (focus (first | rfl | (apply g_in; rfl; rfl; (focus (simp [*]; done))))); (focus (simp [*]; exact ⟨rfl, rfl⟩)); (focus (exact a1)); (focus rfl); (focus (simp [under_func, under_agg, under_tuple, under_box]; done)); (intro H1 hH1))
      | (apply o_mem; (focus (first | rfl | (apply g_in; rfl; rfl; (focus (simp [*]; done))))); rfl; (focus (simp [*]; exact ⟨rfl, rfl⟩)))
      | apply w_block
      | (apply w_true; (focus (simp [*]; done)))
      | (apply w_false; (focus (simp [*]; done)))
      | apply t_panic
      | apply b_panic
      | (apply s_panic; (focus (first | rfl | (simp [*]; done))))
      | fail)
  | ok p =>
    obtain ⟨x1, r1⟩ := p
    have a1 := take_ok (m := m) e 1 r0 _ _ hx1
    cases hx2 : wantP e 4 [61] r1 with
    | error a =>
      have a2 := want_up (m := m) e 4 _ r1 _ hx2
      simp only [andP, hx1, hx2, itemRes]
      clear hx1 hx2
      repeat' (first
        | apply w_seq
        | apply w_region
        | apply o_end
        | apply t_normal
        | (apply o_val; (focus (first | rfl | (apply g_in; rfl; rfl; (focus (simp [*]; done))))); (focus (simp [*]; rfl)))
        | (apply o_beside fine; (focus (first | rfl | (apply g_in; rfl; rfl; (focus (simp [*]; done))))); (focus (simp [*]; exact ⟨rfl, rfl⟩)); (focus (exact a0)); (focus rfl); (focus rfl); (focus (simp [under_func, under_agg, under_tuple, under_box, *]; done)); (focus (simp only [rowH, List.cons_append, List.nil_append]; rfl)))
        | (apply o_beside fine; (focus (first | rfl | (apply g_in; rfl; rfl; (focus (simp [*]; done))))); (focus (simp [*]; exact ⟨rfl, rfl⟩)); (focus (exact a1)); (focus rfl); (focus rfl); (focus (simp [under_func, under_agg, under_tuple, under_box, *]; done)); (focus (simp only [rowH, List.cons_append, List.nil_append]; rfl)))
        | (apply o_up fine; (focus (first | rfl | (apply g_in; rfl; rfl; (focus (simp [*]; done))))); (focus (simp [*]; exact ⟨rfl, rfl⟩)); (focus (exact a2)); (focus rfl); (focus (simp [under_func, under_agg, under_tuple, under_box]; done)); (intro H1 hH1))
        | (apply o_mem; (focus (first | rfl | (apply g_in; rfl; rfl; (focus (simp [*]; done))))); rfl; (focus (simp [*]; exact ⟨rfl, rfl⟩)))
        | apply w_block
        | (apply w_true; (focus (simp [*]; done)))
        | (apply w_false; (focus (simp [*]; done)))
        | apply t_panic
        | apply b_panic
        | (apply s_panic; (focus (first | rfl | (simp [*]; done))))
        | fail)
    | ok p =>
      obtain ⟨x2, r2⟩ := p
      have a2 := want_ok (m := m) e 4 _ r1 _ _ hx2
      have a3 := (form_ok (m := m) e (3 * r2.length + 3) r2).2.2 (by omega)
      cases hx3 : formP e (3 * r2.length + 3) 2 r2 with
      | error a =>
        rw [hx3] at a3
        simp only [formD] at a3
        simp only [andP, hx1, hx2, hx3, itemRes]
        clear hx1 hx2 hx3
        repeat' (first
          | apply w_seq
          | apply w_region
          | apply o_end
          | apply t_normal
          | (apply o_val; (focus (first | rfl | (apply g_in; rfl; rfl; (focus (simp [*]; done))))); (focus (simp [*]; rfl)))
          | (apply o_beside fine; (focus (first | rfl | (apply g_in; rfl; rfl; (focus (simp [*]; done))))); (focus (simp [*]; exact ⟨rfl, rfl⟩)); (focus (exact a0)); (focus rfl); (focus rfl); (focus (simp [under_func, under_agg, under_tuple, under_box, *]; done)); (focus (simp only [rowH, List.cons_append, List.nil_append]; rfl)))
          | (apply o_beside fine; (focus (first | rfl | (apply g_in; rfl; rfl; (focus (simp [*]; done))))); (focus (simp [*]; exact ⟨rfl, rfl⟩)); (focus (exact a1)); (focus rfl); (focus rfl); (focus (simp [under_func, under_agg, under_tuple, under_box, *]; done)); (focus (simp only [rowH, List.cons_append, List.nil_append]; rfl)))
          | (apply o_beside fine; (focus (first | rfl | (apply g_in; rfl; rfl; (focus (simp [*]; done))))); (focus (simp [*]; exact ⟨rfl, rfl⟩)); (focus (exact a2)); (focus rfl); (focus rfl); (focus (simp [under_func, under_agg, under_tuple, under_box, *]; done)); (focus (simp only [rowH, List.cons_append, List.nil_append]; rfl)))
          | (apply o_up fine; (focus (first | rfl | (apply g_in; rfl; rfl; (focus (simp [*]; done))))); (focus (simp [*]; exact ⟨rfl, rfl⟩)); (focus (exact a3)); (focus rfl); (focus (simp [under_func, under_agg, under_tuple, under_box]; done)); (intro H1 hH1))
          | (apply o_mem; (focus (first | rfl | (apply g_in; rfl; rfl; (focus (simp [*]; done))))); rfl; (focus (simp [*]; exact ⟨rfl, rfl⟩)))
          | apply w_block
          | (apply w_true; (focus (simp [*]; done)))
          | (apply w_false; (focus (simp [*]; done)))
          | apply t_panic
          | apply b_panic
          | (apply s_panic; (focus (first | rfl | (simp [*]; done))))
          | fail)
      | ok p =>
        obtain ⟨x3, r3⟩ := p
        rw [hx3] at a3
        simp only [formD] at a3
        obtain ⟨cf, hcf⟩ := isTree_ex x3
        have hff := treeD_flat x3
        rw [show treeD x3 = .box cf from hcf] at a3 hff
        have hvf := (flat_box cf).1 hff
        have huf : ∀ d, d ∈ cf → Under 1 d := fun d hd => .flat (hvf d hd)
        cases hx4 : wantP e 4 [59] r3 with
        | error a =>
          have a4 := want_up (m := m) e 4 _ r3 _ hx4
          simp only [andP, hx1, hx2, hx3, hx4, itemRes]
          clear hx1 hx2 hx3 hx4
          repeat' (first
            | apply w_seq
            | apply w_region
            | apply o_end
            | apply t_normal
            | (apply o_val; (focus (first | rfl | (apply g_in; rfl; rfl; (focus (simp [*]; done))))); (focus (simp [*]; rfl)))
            | (apply o_beside fine; (focus (first | rfl | (apply g_in; rfl; rfl; (focus (simp [*]; done))))); (focus (simp [*]; exact ⟨rfl, rfl⟩)); (focus (exact a0)); (focus rfl); (focus rfl); (focus (simp [under_func, under_agg, under_tuple, under_box, *]; done)); (focus (simp only [rowH, List.cons_append, List.nil_append]; rfl)))
            | (apply o_beside fine; (focus (first | rfl | (apply g_in; rfl; rfl; (focus (simp [*]; done))))); (focus (simp [*]; exact ⟨rfl, rfl⟩)); (focus (exact a1)); (focus rfl); (focus rfl); (focus (simp [under_func, under_agg, under_tuple, under_box, *]; done)); (focus (simp only [rowH, List.cons_append, List.nil_append]; rfl)))
            | (apply o_beside fine; (focus (first | rfl | (apply g_in; rfl; rfl; (focus (simp [*]; done))))); (focus (simp [*]; exact ⟨rfl, rfl⟩)); (focus (exact a2)); (focus rfl); (focus rfl); (focus (simp [under_func, under_agg, under_tuple, under_box, *]; done)); (focus (simp only [rowH, List.cons_append, List.nil_append]; rfl)))
            | (apply o_beside fine; (focus (first | rfl | (apply g_in; rfl; rfl; (focus (simp [*]; done))))); (focus (simp [*]; exact ⟨rfl, rfl⟩)); (focus (exact a3)); (focus rfl); (focus rfl); (focus (simp [under_func, under_agg, under_tuple, under_box, *]; done)); (focus (simp only [rowH, List.cons_append, List.nil_append]; rfl)))
            | (apply o_up fine; (focus (first | rfl | (apply g_in; rfl; rfl; (focus (simp [*]; done))))); (focus (simp [*]; exact ⟨rfl, rfl⟩)); (focus (exact a4)); (focus rfl); (focus (simp [under_func, under_agg, under_tuple, under_box]; done)); (intro H1 hH1))
            | (apply o_mem; (focus (first | rfl | (apply g_in; rfl; rfl; (focus (simp [*]; done))))); rfl; (focus (simp [*]; exact ⟨rfl, rfl⟩)))
            | apply w_block
            | apply b_normal
            | (apply w_true; (focus (simp [*]; done)))
            | (apply w_false; (focus (simp [*]; done)))
            | apply t_panic
            | (apply s_panic; (focus (first | rfl | (simp [*]; done))))
            | fail)
        | ok p =>
          obtain ⟨x4, r4⟩ := p
          have a4 := want_ok (m := m) e 4 _ r3 _ _ hx4
          simp only [andP, hx1, hx2, hx3, hx4, itemRes]
          clear hx1 hx2 hx3 hx4
          repeat' (first
            | apply w_seq
            | apply w_region
            | apply o_end
            | apply t_normal
            | (apply o_val; (focus (first | rfl | (apply g_in; rfl; rfl; (focus (simp [*]; done))))); (focus (simp [*]; rfl)))
            | (apply o_beside fine; (focus (first | rfl | (apply g_in; rfl; rfl; (focus (simp [*]; done))))); (focus (simp [*]; exact ⟨rfl, rfl⟩)); (focus (exact a0)); (focus rfl); (focus rfl); (focus (simp [under_func, under_agg, under_tuple, under_box, *]; done)); (focus (simp only [rowH, List.cons_append, List.nil_append]; rfl)))
            | (apply o_beside fine; (focus (first | rfl | (apply g_in; rfl; rfl; (focus (simp [*]; done))))); (focus (simp [*]; exact ⟨rfl, rfl⟩)); (focus (exact a1)); (focus rfl); (focus rfl); (focus (simp [under_func, under_agg, under_tuple, under_box, *]; done)); (focus (simp only [rowH, List.cons_append, List.nil_append]; rfl)))
            | (apply o_beside fine; (focus (first | rfl | (apply g_in; rfl; rfl; (focus (simp [*]; done))))); (focus (simp [*]; exact ⟨rfl, rfl⟩)); (focus (exact a2)); (focus rfl); (focus rfl); (focus (simp [under_func, under_agg, under_tuple, under_box, *]; done)); (focus (simp only [rowH, List.cons_append, List.nil_append]; rfl)))
            | (apply o_beside fine; (focus (first | rfl | (apply g_in; rfl; rfl; (focus (simp [*]; done))))); (focus (simp [*]; exact ⟨rfl, rfl⟩)); (focus (exact a3)); (focus rfl); (focus rfl); (focus (simp [under_func, under_agg, under_tuple, under_box, *]; done)); (focus (simp only [rowH, List.cons_append, List.nil_append]; rfl)))
            | (apply o_beside fine; (focus (first | rfl | (apply g_in; rfl; rfl; (focus (simp [*]; done))))); (focus (simp [*]; exact ⟨rfl, rfl⟩)); (focus (exact a4)); (focus rfl); (focus rfl); (focus (simp [under_func, under_agg, under_tuple, under_box, *]; done)); (focus (simp only [rowH, List.cons_append, List.nil_append]; rfl)))
            | (apply o_mem; (focus (first | rfl | (apply g_in; rfl; rfl; (focus (simp [*]; done))))); rfl; (focus (simp [*]; exact ⟨rfl, rfl⟩)))
            | apply w_block
            | apply b_normal
            | apply w_ret
            | (apply w_true; (focus (simp [*]; done)))
            | (apply w_false; (focus (simp [*]; done)))
            | fail)
          apply s_ret (d := .agg (encT ⟨kd, pa, [112, 114, 111, 112, 101, 114, 116, 121]⟩ ++ encT x1 ++ encT zeroTok ++ encT zeroTok ++ encT zeroTok ++ [.nilsl, .box cf])) (Hn := rdH e r4) (by simp only [itemD, formO, attrsD]; rw [show treeD x3 = .box cf from hcf])
          · simp [*]; rfl
          · rfl
          · exact Snap.flat (by simp [attrsD, formO, *]; done)
end Go.Proofs.Ytknkkfdkcemolaa.Vm
end
section
/- Walks: endpoints of a description. -/
set_option linter.unusedSimpArgs false
set_option linter.unusedVariables false
set_option maxRecDepth 100000
set_option maxHeartbeats 4000000
namespace Go.Proofs.Ytknkkfdkcemolaa.Vm
open Go
variable {m : Int}
attribute [local irreducible] wpD opsD thenD blockD planD planA
attribute [local simp] List.take_of_length_le List.drop_of_length_le bne mvD endAt

theorem argP_len {e : Nat} {t x : Tok} {r r2 : List Tok} (h : argP e t r = .ok (x, r2)) : r2.length ≤ r.length := by
  have key : ∀ {k : Nat} {t : Tok}, takeP e k r = .ok (t, r2) → r2.length ≤ r.length := fun h => by
    rw [(takeP_len h).1]
    simp
  unfold argP at h
  split at h
  · simp only [Except.ok.injEq, Prod.mk.injEq] at h
    rw [h.2]
    exact Nat.le_refl _
  split at h
  · exact key h
  split at h
  · split at h
    · exact key h
    · exact key h
  split at h
  · exact key h
  · cases h
theorem attrP_len {e : Nat} {ts r : List Tok} {a : AttrT} (h : attrP e ts = .ok (a, r)) : r.length < ts.length := by
  unfold attrP at h
  split at h
  · cases h
  rename_i t r1 h1
  split at h
  · cases h
  rename_i x r2 h2
  split at h
  · cases h
  rename_i y r3 h3
  simp only [Except.ok.injEq, Prod.mk.injEq] at h
  have h4 := argP_len h2
  have h5 := congrArg List.length (takeP_len h1).1
  have h6 := congrArg List.length (takeP_len (wantP_ok h3).1).1
  rw [← h.2]
  simp only [List.length_cons] at h5 h6
  omega
theorem placedP_len {e : Nat} {ts r : List Tok} {p : Tok × Tok} (h : placedP e ts = .ok (p, r)) : r.length < ts.length := by
  unfold placedP at h
  split at h
  · cases h
  rename_i n r1 h1
  split at h
  · cases h
  rename_i y r2 h2
  split at h
  · cases h
  rename_i o r3 h3
  simp only [Except.ok.injEq, Prod.mk.injEq] at h
  have h5 := congrArg List.length (takeP_len h1).1
  have h6 := congrArg List.length (takeP_len (wantP_ok h2).1).1
  have h7 := congrArg List.length (takeP_len h3).1
  rw [← h.2]
  simp only [List.length_cons] at h5 h6 h7
  omega
abbrev itemZ : List D := encT zeroTok ++ encT zeroTok ++ encT zeroTok ++ encT zeroTok ++ encT zeroTok ++ [.nilsl, .nilptr]
theorem snap_tail {S : Nat → Prop} {H : Heap} {l : List D} {a a' b : D} (hl : ∀ d, d ∈ l → Flat d) (ha : Snap S H a a') (hb : Flat b) : Snap S H (.agg (l ++ [a, b])) (.agg (l ++ [a', b])) := by
  refine .agg (by simp) (fun k d e hd he => ?_)
  rcases Nat.lt_or_ge k l.length with h | h
  · rw [List.getElem?_append_left h] at hd he
    rw [hd] at he
    obtain rfl := Option.some.inj he
    exact .flat (hl d (List.mem_of_getElem? hd))
  · rw [List.getElem?_append_right h] at hd he
    match hk : k - l.length, hd, he with
    | 0, hd, he => cases hd; cases he; exact ha
    | 1, hd, he => cases hd; cases he; exact .flat hb
    | j + 2, hd, he => simp at hd
theorem attrsD_some {l : List AttrT} (h : l ≠ []) : attrsD l = .isl 6 (l.map encA) := by
  cases l with
  | nil => exact absurd rfl h
  | cons a l => rfl
theorem item_endpoint {e kd pa : Nat} {ts r0 : List Tok} (hts : ts.length ≤ 1000000) (h0 : takeP e 2 ts = .ok (⟨kd, pa, [101, 110, 100, 112, 111, 105, 110, 116]⟩, r0)) : CallsV (L m) 48 [rdR] (rdH e ts) (Ends 1 (rdH e ts) (itemRes e (itemK e ⟨kd, pa, [101, 110, 100, 112, 111, 105, 110, 116]⟩ r0))) := by
  refine ends_of_body L_ok (H := rdH e ts) (itemRes_len _ _) (fn := Try.f48) rfl rfl rfl rfl (by kernel_rfl) ?_
  have a0 := take_ok (m := m) e 2 ts _ _ h0
  have l0 := congrArg List.length (takeP_len h0).1
  simp only [List.length_cons] at l0
  clear h0
  have hK : itemK e ⟨kd, pa, [101, 110, 100, 112, 111, 105, 110, 116]⟩ r0 = andP (placedP e r0) fun n r => andP (takeP e 5 r) fun c r => andP (takeP e 3 r) fun x r => andP (wantP e 4 [123] r) fun _ r => andP (attrsP e (r.length + 1) [] r) fun l r => .ok ({ word := ⟨kd, pa, [101, 110, 100, 112, 111, 105, 110, 116]⟩, name := n.1, of_ := n.2, caps := c, text := x, attrs := l }, r) := rfl
  rw [hK]
  clear hK
  cases hx1 : placedP e r0 with
  | error a =>
    have a1 := placed_up (m := m) e r0 _ hx1
    simp only [andP, hx1, itemRes]
    clear hx1
    repeat' (first
      | apply w_seq
      | apply w_region
      | apply o_end
      | apply t_normal
      | (apply o_val; (focus (first | rfl | (apply g_in; rfl; rfl; (focus (simp [*]; done))))); (focus (simp [*]; rfl)))
      | (apply o_beside fine; (focus (first | rfl | (apply g_in; rfl; rfl; (focus (simp [*]; done))))); (focus (simp [*]; exact ⟨rfl, rfl⟩)); (focus (exact a0)); (focus rfl); (focus rfl); (focus (simp [under_func, under_agg, under_tuple, under_box, *]; done)); (focus (simp only [rowH, List.cons_append, List.nil_append]; rfl)))
      | (apply o_up fine; (focus (first | rfl | (apply g_in; rfl; rfl; (focus (simp [*]; done))))); (focus (simp [*]; exact ⟨rfl, rfl⟩)); (focus (exact a1)); (focus rfl); (focus (simp [under_func, under_agg, under_tuple, under_box]; done)); (intro H1 hH1))
      | (apply o_mem; (focus (first | rfl | (apply g_in; rfl; rfl; (focus (simp [*]; done))))); rfl; (focus (simp [*]; exact ⟨rfl, rfl⟩)))
      | apply w_block
      | (apply w_true; (focus (simp [*]; done)))
      | (apply w_false; (focus (simp [*]; done)))
      | apply t_panic
      | apply b_panic
      | (apply s_panic; (focus (first | rfl | (simp [*]; done))))
      | fail)
  | ok p =>
    obtain ⟨⟨n1, o1⟩, r1⟩ := p
    have a1 := placed_ok (m := m) e r0 _ _ _ hx1
    cases hx2 : takeP e 5 r1 with
    | error a =>
      have a2 := take_up (m := m) e 5 r1 _ hx2
      simp only [andP, hx1, hx2, itemRes]
      clear hx1 hx2
      repeat' (first
        | apply w_seq
        | apply w_region
        | apply o_end
        | apply t_normal
        | (apply o_val; (focus (first | rfl | (apply g_in; rfl; rfl; (focus (simp [*]; done))))); (focus (simp [*]; rfl)))
        | (apply o_beside fine; (focus (first | rfl | (apply g_in; rfl; rfl; (focus (simp [*]; done))))); (focus (simp [*]; exact ⟨rfl, rfl⟩)); (focus (exact a0)); (focus rfl); (focus rfl); (focus (simp [under_func, under_agg, under_tuple, under_box, *]; done)); (focus (simp only [rowH, List.cons_append, List.nil_append]; rfl)))
        | (apply o_beside fine; (focus (first | rfl | (apply g_in; rfl; rfl; (focus (simp [*]; done))))); (focus (simp [*]; exact ⟨rfl, rfl⟩)); (focus (exact a1)); (focus rfl); (focus rfl); (focus (simp [under_func, under_agg, under_tuple, under_box, *]; done)); (focus (simp only [rowH, List.cons_append, List.nil_append]; rfl)))
        | (apply o_up fine; (focus (first | rfl | (apply g_in; rfl; rfl; (focus (simp [*]; done))))); (focus (simp [*]; exact ⟨rfl, rfl⟩)); (focus (exact a2)); (focus rfl); (focus (simp [under_func, under_agg, under_tuple, under_box]; done)); (intro H1 hH1))
        | (apply o_mem; (focus (first | rfl | (apply g_in; rfl; rfl; (focus (simp [*]; done))))); rfl; (focus (simp [*]; exact ⟨rfl, rfl⟩)))
        | apply w_block
        | (apply w_true; (focus (simp [*]; done)))
        | (apply w_false; (focus (simp [*]; done)))
        | apply t_panic
        | apply b_panic
        | (apply s_panic; (focus (first | rfl | (simp [*]; done))))
        | fail)
    | ok p =>
      obtain ⟨x2, r2⟩ := p
      have a2 := take_ok (m := m) e 5 r1 _ _ hx2
      cases hx3 : takeP e 3 r2 with
      | error a =>
        have a3 := take_up (m := m) e 3 r2 _ hx3
        simp only [andP, hx1, hx2, hx3, itemRes]
        clear hx1 hx2 hx3
        repeat' (first
          | apply w_seq
          | apply w_region
          | apply o_end
          | apply t_normal
          | (apply o_val; (focus (first | rfl | (apply g_in; rfl; rfl; (focus (simp [*]; done))))); (focus (simp [*]; rfl)))
          | (apply o_beside fine; (focus (first | rfl | (apply g_in; rfl; rfl; (focus (simp [*]; done))))); (focus (simp [*]; exact ⟨rfl, rfl⟩)); (focus (exact a0)); (focus rfl); (focus rfl); (focus (simp [under_func, under_agg, under_tuple, under_box, *]; done)); (focus (simp only [rowH, List.cons_append, List.nil_append]; rfl)))
          | (apply o_beside fine; (focus (first | rfl | (apply g_in; rfl; rfl; (focus (simp [*]; done))))); (focus (simp [*]; exact ⟨rfl, rfl⟩)); (focus (exact a1)); (focus rfl); (focus rfl); (focus (simp [under_func, under_agg, under_tuple, under_box, *]; done)); (focus (simp only [rowH, List.cons_append, List.nil_append]; rfl)))
          | (apply o_beside fine; (focus (first | rfl | (apply g_in; rfl; rfl; (focus (simp [*]; done))))); (focus (simp [*]; exact ⟨rfl, rfl⟩)); (focus (exact a2)); (focus rfl); (focus rfl); (focus (simp [under_func, under_agg, under_tuple, under_box, *]; done)); (focus (simp only [rowH, List.cons_append, List.nil_append]; rfl)))
          | (apply o_up fine; (focus (first | rfl | (apply g_in; rfl; rfl; (focus (simp [*]; done))))); (focus (simp [*]; exact ⟨rfl, rfl⟩)); (focus (exact a3)); (focus rfl); (focus (simp [under_func, under_agg, under_tuple, under_box]; done)); (intro H1 hH1))
          | (apply o_mem; (focus (first | rfl | (apply g_in; rfl; rfl; (focus (simp [*]; done))))); rfl; (focus (simp [*]; exact ⟨rfl, rfl⟩)))
          | apply w_block
          | (apply w_true; (focus (simp [*]; done)))
          | (apply w_false; (focus (simp [*]; done)))
          | apply t_panic
          | apply b_panic
          | (apply s_panic; (focus (first | rfl | (simp [*]; done))))
          | fail)
      | ok p =>
        obtain ⟨x3, r3⟩ := p
        have a3 := take_ok (m := m) e 3 r2 _ _ hx3
        cases hx4 : wantP e 4 [123] r3 with
        | error a =>
          have a4 := want_up (m := m) e 4 _ r3 _ hx4
          simp only [andP, hx1, hx2, hx3, hx4, itemRes]
          clear hx1 hx2 hx3 hx4
          repeat' (first
            | apply w_seq
            | apply w_region
            | apply o_end
            | apply t_normal
            | (apply o_val; (focus (first | rfl | (apply g_in; rfl; rfl; (focus (simp [*]; done))))); (focus (simp [*]; rfl)))
            | (apply o_beside fine; (focus (first | rfl | (apply g_in; rfl; rfl; (focus (simp [*]; done))))); (focus (simp [*]; exact ⟨rfl, rfl⟩)); (focus (exact a0)); (focus rfl); (focus rfl); (focus (simp [under_func, under_agg, under_tuple, under_box, *]; done)); (focus (simp only [rowH, List.cons_append, List.nil_append]; rfl)))
            | (apply o_beside fine; (focus (first | rfl | (apply g_in; rfl; rfl; (focus (simp [*]; done))))); (focus (simp [*]; exact ⟨rfl, rfl⟩)); (focus (exact a1)); (focus rfl); (focus rfl); (focus (simp [under_func, under_agg, under_tuple, under_box, *]; done)); (focus (simp only [rowH, List.cons_append, List.nil_append]; rfl)))
            | (apply o_beside fine; (focus (first | rfl | (apply g_in; rfl; rfl; (focus (simp [*]; done))))); (focus (simp [*]; exact ⟨rfl, rfl⟩)); (focus (exact a2)); (focus rfl); (focus rfl); (focus (simp [under_func, under_agg, under_tuple, under_box, *]; done)); (focus (simp only [rowH, List.cons_append, List.nil_append]; rfl)))
            | (apply o_beside fine; (focus (first | rfl | (apply g_in; rfl; rfl; (focus (simp [*]; done))))); (focus (simp [*]; exact ⟨rfl, rfl⟩)); (focus (exact a3)); (focus rfl); (focus rfl); (focus (simp [under_func, under_agg, under_tuple, under_box, *]; done)); (focus (simp only [rowH, List.cons_append, List.nil_append]; rfl)))
            | (apply o_up fine; (focus (first | rfl | (apply g_in; rfl; rfl; (focus (simp [*]; done))))); (focus (simp [*]; exact ⟨rfl, rfl⟩)); (focus (exact a4)); (focus rfl); (focus (simp [under_func, under_agg, under_tuple, under_box]; done)); (intro H1 hH1))
            | (apply o_mem; (focus (first | rfl | (apply g_in; rfl; rfl; (focus (simp [*]; done))))); rfl; (focus (simp [*]; exact ⟨rfl, rfl⟩)))
            | apply w_block
            | (apply w_true; (focus (simp [*]; done)))
            | (apply w_false; (focus (simp [*]; done)))
            | apply t_panic
            | apply b_panic
            | (apply s_panic; (focus (first | rfl | (simp [*]; done))))
            | fail)
        | ok p =>
          obtain ⟨x4, r4⟩ := p
          have a4 := want_ok (m := m) e 4 _ r3 _ _ hx4
          simp only [andP, hx1, hx2, hx3, hx4]
          have l1 := placedP_len hx1
          have l2 := congrArg List.length (takeP_len hx2).1
          have l3 := congrArg List.length (takeP_len hx3).1
          have l4 := congrArg List.length (takeP_len (wantP_ok hx4).1).1
          simp only [List.length_cons] at l2 l3 l4
          have hM : r4.length ≤ 1000000 := by omega
          clear hx1 hx2 hx3 hx4 l0 l1 l2 l3 l4 hts
          generalize hE : attrsP e (r4.length + 1) [] r4 = E
          repeat' (first
            | apply w_seq
            | apply w_region
            | apply o_end
            | apply t_normal
            | (apply o_val; (focus (first | rfl | (apply g_in; rfl; rfl; (focus (simp [*]; done))))); (focus (simp [*]; rfl)))
            | (apply o_beside fine; (focus (first | rfl | (apply g_in; rfl; rfl; (focus (simp [*]; done))))); (focus (simp [*]; exact ⟨rfl, rfl⟩)); (focus (exact a0)); (focus rfl); (focus rfl); (focus (simp [under_func, under_agg, under_tuple, under_box, *]; done)); (focus (simp only [rowH, List.cons_append, List.nil_append]; rfl)))
            | (apply o_beside fine; (focus (first | rfl | (apply g_in; rfl; rfl; (focus (simp [*]; done))))); (focus (simp [*]; exact ⟨rfl, rfl⟩)); (focus (exact a1)); (focus rfl); (focus rfl); (focus (simp [under_func, under_agg, under_tuple, under_box, *]; done)); (focus (simp only [rowH, List.cons_append, List.nil_append]; rfl)))
            | (apply o_beside fine; (focus (first | rfl | (apply g_in; rfl; rfl; (focus (simp [*]; done))))); (focus (simp [*]; exact ⟨rfl, rfl⟩)); (focus (exact a2)); (focus rfl); (focus rfl); (focus (simp [under_func, under_agg, under_tuple, under_box, *]; done)); (focus (simp only [rowH, List.cons_append, List.nil_append]; rfl)))
            | (apply o_beside fine; (focus (first | rfl | (apply g_in; rfl; rfl; (focus (simp [*]; done))))); (focus (simp [*]; exact ⟨rfl, rfl⟩)); (focus (exact a3)); (focus rfl); (focus rfl); (focus (simp [under_func, under_agg, under_tuple, under_box, *]; done)); (focus (simp only [rowH, List.cons_append, List.nil_append]; rfl)))
            | (apply o_beside fine; (focus (first | rfl | (apply g_in; rfl; rfl; (focus (simp [*]; done))))); (focus (simp [*]; exact ⟨rfl, rfl⟩)); (focus (exact a4)); (focus rfl); (focus rfl); (focus (simp [under_func, under_agg, under_tuple, under_box, *]; done)); (focus (simp only [rowH, List.cons_append, List.nil_append]; rfl)))
            | (apply o_mem; (focus (first | rfl | (apply g_in; rfl; rfl; (focus (simp [*]; done))))); rfl; (focus (simp [*]; exact ⟨rfl, rfl⟩)))
            | apply w_block
            | (apply w_true; (focus (simp [*]; done)))
            | (apply w_false; (focus (simp [*]; done)))
            | fail)
          clear a0 a1 a2 a3 a4
          refine w_loopT (fun n f H => ∃ (out : List AttrT) (r : List Tok) (A : D), r.length < n ∧ out.length + r.length ≤ r4.length ∧ attrsP e n out r = E ∧ f 0 = rdR ∧ f 2 = .ref 1 0 0 0 ∧ f 3 = .ref 2 0 0 0 ∧
              ((out = [] ∧ A = .nilsl ∧ H = [.cells 0 2 false [[tokL r, .int .i64 e]], .cells 0 17 false [itemZ], .cells 0 17 false [encT ⟨kd, pa, [101, 110, 100, 112, 111, 105, 110, 116]⟩ ++ encT n1 ++ encT o1 ++ encT x2 ++ encT x3 ++ [A, .nilptr]]]) ∨
               (out ≠ [] ∧ ∃ g, A = .slice 3 0 out.length g ∧ H = [.cells 0 2 false [[tokL r, .int .i64 e]], .cells 0 17 false [itemZ], .cells 0 17 false [encT ⟨kd, pa, [101, 110, 100, 112, 111, 105, 110, 116]⟩ ++ encT n1 ++ encT o1 ++ encT x2 ++ encT x3 ++ [A, .nilptr]], .cells g 6 false (out.map encA)]))) (r4.length + 1) ⟨[], r4, .nilsl, by omega, by simp, hE, by simp, by simp, by simp, .inl ⟨rfl, rfl, rfl⟩⟩ ?_
          clear hE
          rintro n f H ⟨out, r, A, hlt, hol, hE, g0, g2, g3, hor⟩
          have hb1 : (out.length + 1) * 64 ≤ 140737488355328 := by omega
          have hb2 : out.length ≤ 140737488355327 := by omega
          obtain ⟨k, rfl⟩ : ∃ k, n = k + 1 := ⟨n - 1, by omega⟩
          rw [attrsP] at hE
          cases hb : isP 4 [125] r
          · have hs := skip_no (m := m) e 4 [125] r hb
            rw [hb] at hE
            simp only [Bool.false_eq_true, if_false] at hE
            cases ha : attrP e r with
            | error a =>
              have h1 := attr_up (m := m) ha
              simp only [ha, andP] at hE
              subst hE
              simp only [itemRes]
              clear ha hb
              rcases hor with ⟨rfl, rfl, rfl⟩ | ⟨_, g, rfl, rfl⟩
              all_goals repeat' (first
                | apply w_seq
                | apply w_region
                | apply o_end
                | apply t_normal
                | (apply o_val; (focus (first | rfl | (apply g_in; rfl; rfl; (focus (simp [*]; done))))); (focus (simp [*]; rfl)))
                | (apply o_beside fine; (focus (first | rfl | (apply g_in; rfl; rfl; (focus (simp [*]; done))))); (focus (simp [*]; exact ⟨rfl, rfl⟩)); (focus (exact hs)); (focus rfl); (focus rfl); (focus (simp [under_func, under_agg, under_tuple, under_box, *]; done)); (focus (simp only [rowH, List.cons_append, List.nil_append]; rfl)))
                | apply w_skip
                | apply w_block
                | (apply w_true; (focus (simp [*]; done)))
                | apply t_panic
                | apply b_panic
                | (apply s_panic; (focus (first | rfl | (simp [*]; done))))
                | (apply w_drawA; rfl; (focus (decide +kernel)); (focus (simp; rfl)); (focus (simp; rfl)))
                | (apply a_val; (focus (simp; rfl)); (focus (intro u; first | rfl | (apply g_in; rfl; rfl; (focus (simp [*]; done))))); (focus (intro H' u; simp [*]; rfl)); (focus (simp only [List.nil_append, List.cons_append]; rfl)))
                | (apply a_upB fine; (focus (simp; rfl)); (focus (intro u; first | rfl | (apply g_in; rfl; rfl; (focus (simp [*]; done))))); (focus (intro u; simp [*]; exact ⟨rfl, rfl⟩)); (focus (exact h1)); (focus rfl); (focus (simp [under_func, under_agg, under_tuple, under_box]; done)); (focus (first | rfl | (simp only [List.all_cons, List.all_nil, List.length_cons, List.length_nil, Nat.zero_add, Nat.reduceAdd, Bool.and_true, Bool.true_and]; done) | (simp only [List.all_cons, List.all_nil, List.length_cons, List.length_nil, Nat.zero_add, Nat.reduceAdd, Bool.and_true, Bool.true_and]; decide +kernel))); (focus (first | rfl | (simp only [List.all_cons, List.all_nil, List.length_cons, List.length_nil, Nat.zero_add, Nat.reduceAdd, Bool.and_true, Bool.true_and]; done) | (simp only [List.all_cons, List.all_nil, List.length_cons, List.length_nil, Nat.zero_add, Nat.reduceAdd, Bool.and_true, Bool.true_and]; decide +kernel))); (intro f1 H1 hH1 hf1))
                | (apply a_tie; (focus (simp; rfl)); (focus (intro u; first | rfl | (apply g_in; rfl; rfl; (focus (simp [*]; done))))); (focus (intro u; simp [*]; rfl)); (focus (first | rfl | (simp only [List.all_cons, List.all_nil, List.length_cons, List.length_nil, Nat.zero_add, Nat.reduceAdd, Bool.and_true, Bool.true_and]; done) | (simp only [List.all_cons, List.all_nil, List.length_cons, List.length_nil, Nat.zero_add, Nat.reduceAdd, Bool.and_true, Bool.true_and]; decide +kernel))); (focus (simp only [List.nil_append, List.cons_append]; rfl)); (focus (simp; rfl)))
                | fail)
            | ok p =>
              obtain ⟨a, r'⟩ := p
              have h1 := attr_ok (m := m) ha
              have hlen := attrP_len ha
              simp only [ha, andP] at hE
              clear ha hb
              rcases hor with ⟨rfl, rfl, rfl⟩ | ⟨hne, g, rfl, rfl⟩
              · skip
                repeat' (first
                  | apply w_seq
                  | apply w_region
                  | apply o_end
                  | apply t_normal
                  | (apply o_val; (focus (first | rfl | (apply g_in; rfl; rfl; (focus (simp [*]; done))))); (focus (simp [*]; rfl)))
                  | (apply o_beside fine; (focus (first | rfl | (apply g_in; rfl; rfl; (focus (simp [*]; done))))); (focus (simp [*]; exact ⟨rfl, rfl⟩)); (focus (exact hs)); (focus rfl); (focus rfl); (focus (simp [under_func, under_agg, under_tuple, under_box, *]; done)); (focus (simp only [rowH, List.cons_append, List.nil_append]; rfl)))
                  | apply w_skip
                  | apply w_block
                  | apply b_normal
                  | (apply w_true; (focus (simp [*]; done)))
                  | (apply w_drawA; rfl; (focus (decide +kernel)); (focus (simp; rfl)); (focus (simp; rfl)))
                  | (apply a_end; (focus (simp; rfl)))
                  | (apply a_val; (focus (simp; rfl)); (focus (intro u; first | rfl | (apply g_in; rfl; rfl; (focus (simp [*]; done))))); (focus (intro H' u; simp [*]; rfl)); (focus (simp only [List.nil_append, List.cons_append]; rfl)))
                  | (apply a_besideG fine; (focus (simp; rfl)); (focus (intro u; first | rfl | (apply g_in; rfl; rfl; (focus (simp [*]; done))))); (focus (intro u; simp [*]; exact ⟨rfl, rfl⟩)); (focus (exact h1)); (focus rfl); (focus rfl); (focus (simp [under_func, under_agg, under_tuple, under_box, *]; done)); (focus (simp only [rowH, List.cons_append, List.nil_append]; rfl)); (focus (first | rfl | (simp only [List.all_cons, List.all_nil, List.length_cons, List.length_nil, Nat.zero_add, Nat.reduceAdd, Bool.and_true, Bool.true_and]; done) | (simp only [List.all_cons, List.all_nil, List.length_cons, List.length_nil, Nat.zero_add, Nat.reduceAdd, Bool.and_true, Bool.true_and]; decide +kernel))); (focus (first | (simp; done) | (simp only [List.mem_cons, List.not_mem_nil, or_false, forall_eq_or_imp, forall_eq]; (repeat' apply And.intro) <;> first | (left; first | rfl | (simp only [List.length_cons, List.length_nil, Nat.zero_add, Nat.reduceAdd]; decide +kernel)) | (right; apply again_val; rfl; rfl; rfl; (focus (first | exact if_pos (by decide) | exact if_neg (by decide))); (focus (intro u; first | rfl | (apply g_in; rfl; rfl; (focus (simp [*]; done))))); (focus (intro u; first | (simp [*]; done) | (simp [*]; rfl))))))); (focus (simp only [List.nil_append, List.cons_append]; rfl)); (focus (simp; rfl)))
                  | (apply a_tie; (focus (simp; rfl)); (focus (intro u; first | rfl | (apply g_in; rfl; rfl; (focus (simp [*]; done))))); (focus (intro u; simp [*]; rfl)); (focus (first | rfl | (simp only [List.all_cons, List.all_nil, List.length_cons, List.length_nil, Nat.zero_add, Nat.reduceAdd, Bool.and_true, Bool.true_and]; done) | (simp only [List.all_cons, List.all_nil, List.length_cons, List.length_nil, Nat.zero_add, Nat.reduceAdd, Bool.and_true, Bool.true_and]; decide +kernel))); (focus (simp only [List.nil_append, List.cons_append]; rfl)); (focus (simp; rfl)))
                  | (apply a_frz (op := Op.buildSlice _ _ _); (focus (simp; rfl)); (focus (intro u; first | rfl | (apply g_in; rfl; rfl; (focus (simp [*]; done))))); (focus (intro u; rfl)); (focus (intro H' u; simp [*]; refine ⟨_, _, ⟨rfl, rfl⟩, ?_, ?_⟩; (focus (simp; done)); (focus (first | exact Snap.flat (by simp [*]; done) | exact Snap.ref_flat (by simp) rfl rfl rfl (by simp) (by simp [*]; done) | exact Snap.slice_flat (by simp) rfl (by simp; rfl) (by simp) (by simp [*]; done) | exact Snap.slice_flat (by simp) (by simp; exact ⟨rfl, rfl, rfl⟩) (by simp; rfl) (by simp) (by simp [*]; done))))); (focus (simp only [List.nil_append, List.cons_append]; rfl)))
                  | (apply a_mem; (focus (simp; rfl)); (focus (intro u; first | rfl | (apply g_in; rfl; rfl; (focus (simp [*]; done))))); (focus (intro u; rfl)); (focus (intro u; simp [*]; exact ⟨rfl, rfl⟩)); (focus (first | rfl | (simp only [List.all_cons, List.all_nil, List.length_cons, List.length_nil, Nat.zero_add, Nat.reduceAdd, Bool.and_true, Bool.true_and]; done) | (simp only [List.all_cons, List.all_nil, List.length_cons, List.length_nil, Nat.zero_add, Nat.reduceAdd, Bool.and_true, Bool.true_and]; decide +kernel))); (focus (simp only [List.nil_append, List.cons_append]; rfl)); (focus (simp; rfl)))
                  | fail)
                refine ⟨k, by omega, [.cells 0 2 false [[tokL r', .int .i64 e]], .cells 0 17 false [itemZ], .cells 0 17 false [encT ⟨kd, pa, [101, 110, 100, 112, 111, 105, 110, 116]⟩ ++ encT n1 ++ encT o1 ++ encT x2 ++ encT x3 ++ [.slice 3 0 ([a]).length 1, .nilptr]], .cells 1 6 false (([a]).map encA)], 4, [(0, rdR), (2, .ref 1 0 0 0), (3, .ref 2 0 0 0)], by simp, ?_, by simp, ?_, ?_, [a], r', .slice 3 0 ([a]).length 1, by omega, by simp at hol ⊢; omega, hE, by simp [lookF], by simp [lookF], by simp [lookF], .inr ⟨by simp, 1, rfl, rfl⟩⟩
                · simp; done
                · intro b hb
                  simp only [List.mem_cons, List.not_mem_nil, or_false] at hb
                  rcases hb with rfl | rfl | rfl | rfl
                  all_goals first | (simp; done) | (intro x hx d hd; obtain ⟨y, _, rfl⟩ := List.mem_map.1 hx; apply Under.flat; revert hd; revert d; simp; done)
                · intro p hp
                  simp only [List.mem_cons, List.not_mem_nil, or_false] at hp
                  rcases hp with rfl | rfl | rfl
                  all_goals exact .inl ⟨by simp [*], by simp⟩
              · skip
                repeat' (first
                  | apply w_seq
                  | apply w_region
                  | apply o_end
                  | apply t_normal
                  | (apply o_val; (focus (first | rfl | (apply g_in; rfl; rfl; (focus (simp [*]; done))))); (focus (simp [*]; rfl)))
                  | (apply o_beside fine; (focus (first | rfl | (apply g_in; rfl; rfl; (focus (simp [*]; done))))); (focus (simp [*]; exact ⟨rfl, rfl⟩)); (focus (exact hs)); (focus rfl); (focus rfl); (focus (simp [under_func, under_agg, under_tuple, under_box, *]; done)); (focus (simp only [rowH, List.cons_append, List.nil_append]; rfl)))
                  | apply w_skip
                  | apply w_block
                  | apply b_normal
                  | (apply w_true; (focus (simp [*]; done)))
                  | (apply w_drawA; rfl; (focus (decide +kernel)); (focus (simp; rfl)); (focus (simp; rfl)))
                  | (apply a_end; (focus (simp; rfl)))
                  | (apply a_val; (focus (simp; rfl)); (focus (intro u; first | rfl | (apply g_in; rfl; rfl; (focus (simp [*]; done))))); (focus (intro H' u; simp [*]; rfl)); (focus (simp only [List.nil_append, List.cons_append]; rfl)))
                  | (apply a_besideG fine; (focus (simp; rfl)); (focus (intro u; first | rfl | (apply g_in; rfl; rfl; (focus (simp [*]; done))))); (focus (intro u; simp [*]; exact ⟨rfl, rfl⟩)); (focus (exact h1)); (focus rfl); (focus rfl); (focus (simp [under_func, under_agg, under_tuple, under_box, *]; done)); (focus (simp only [rowH, List.cons_append, List.nil_append]; rfl)); (focus (first | rfl | (simp only [List.all_cons, List.all_nil, List.length_cons, List.length_nil, Nat.zero_add, Nat.reduceAdd, Bool.and_true, Bool.true_and]; done) | (simp only [List.all_cons, List.all_nil, List.length_cons, List.length_nil, Nat.zero_add, Nat.reduceAdd, Bool.and_true, Bool.true_and]; decide +kernel))); (focus (first | (simp; done) | (simp only [List.mem_cons, List.not_mem_nil, or_false, forall_eq_or_imp, forall_eq]; (repeat' apply And.intro) <;> first | (left; first | rfl | (simp only [List.length_cons, List.length_nil, Nat.zero_add, Nat.reduceAdd]; decide +kernel)) | (right; apply again_val; rfl; rfl; rfl; (focus (first | exact if_pos (by decide) | exact if_neg (by decide))); (focus (intro u; first | rfl | (apply g_in; rfl; rfl; (focus (simp [*]; done))))); (focus (intro u; first | (simp [*]; done) | (simp [*]; rfl))))))); (focus (simp only [List.nil_append, List.cons_append]; rfl)); (focus (simp; rfl)))
                  | (apply a_tie; (focus (simp; rfl)); (focus (intro u; first | rfl | (apply g_in; rfl; rfl; (focus (simp [*]; done))))); (focus (intro u; simp [*]; rfl)); (focus (first | rfl | (simp only [List.all_cons, List.all_nil, List.length_cons, List.length_nil, Nat.zero_add, Nat.reduceAdd, Bool.and_true, Bool.true_and]; done) | (simp only [List.all_cons, List.all_nil, List.length_cons, List.length_nil, Nat.zero_add, Nat.reduceAdd, Bool.and_true, Bool.true_and]; decide +kernel))); (focus (simp only [List.nil_append, List.cons_append]; rfl)); (focus (simp; rfl)))
                  | (apply a_frz (op := Op.buildSlice _ _ _); (focus (simp; rfl)); (focus (intro u; first | rfl | (apply g_in; rfl; rfl; (focus (simp [*]; done))))); (focus (intro u; rfl)); (focus (intro H' u; simp [*]; refine ⟨_, _, ⟨rfl, rfl⟩, ?_, ?_⟩; (focus (simp; done)); (focus (first | exact Snap.flat (by simp [*]; done) | exact Snap.ref_flat (by simp) rfl rfl rfl (by simp) (by simp [*]; done) | exact Snap.slice_flat (by simp) rfl (by simp; rfl) (by simp) (by simp [*]; done) | exact Snap.slice_flat (by simp) (by simp; exact ⟨rfl, rfl, rfl⟩) (by simp; rfl) (by simp) (by simp [*]; done))))); (focus (simp only [List.nil_append, List.cons_append]; rfl)))
                  | (apply a_mem; (focus (simp; rfl)); (focus (intro u; first | rfl | (apply g_in; rfl; rfl; (focus (simp [*]; done))))); (focus (intro u; rfl)); (focus (intro u; simp [*]; exact ⟨rfl, rfl⟩)); (focus (first | rfl | (simp only [List.all_cons, List.all_nil, List.length_cons, List.length_nil, Nat.zero_add, Nat.reduceAdd, Bool.and_true, Bool.true_and]; done) | (simp only [List.all_cons, List.all_nil, List.length_cons, List.length_nil, Nat.zero_add, Nat.reduceAdd, Bool.and_true, Bool.true_and]; decide +kernel))); (focus (simp only [List.nil_append, List.cons_append]; rfl)); (focus (simp; rfl)))
                  | fail)
                refine ⟨k, by omega, [.cells 0 2 false [[tokL r', .int .i64 e]], .cells 0 17 false [itemZ], .cells 0 17 false [encT ⟨kd, pa, [101, 110, 100, 112, 111, 105, 110, 116]⟩ ++ encT n1 ++ encT o1 ++ encT x2 ++ encT x3 ++ [.slice 3 0 (out ++ [a]).length (g + 1), .nilptr]], .cells (g + 1) 6 false ((out ++ [a]).map encA)], 4, [(0, rdR), (2, .ref 1 0 0 0), (3, .ref 2 0 0 0)], by simp, ?_, by simp, ?_, ?_, out ++ [a], r', .slice 3 0 (out ++ [a]).length (g + 1), by omega, by simp at hol ⊢; omega, hE, by simp [lookF], by simp [lookF], by simp [lookF], .inr ⟨by simp, (g + 1), rfl, rfl⟩⟩
                · simp; done
                · intro b hb
                  simp only [List.mem_cons, List.not_mem_nil, or_false] at hb
                  rcases hb with rfl | rfl | rfl | rfl
                  all_goals first | (simp; done) | (intro x hx d hd; obtain ⟨y, _, rfl⟩ := List.mem_map.1 hx; apply Under.flat; revert hd; revert d; simp; done)
                · intro p hp
                  simp only [List.mem_cons, List.not_mem_nil, or_false] at hp
                  rcases hp with rfl | rfl | rfl
                  all_goals exact .inl ⟨by simp [*], by simp⟩
          · obtain ⟨t, tl, rfl, hk1, hk2, h4⟩ := isP_take (e := e) hb
            have hs := skip_yes (m := m) e 4 [125] _ t tl (by unfold wantP; rw [if_pos hb, h4])
            rw [hb] at hE
            simp only [if_true, List.tail_cons] at hE
            subst hE
            simp only [itemRes]
            clear hb h4 hk1 hk2
            rcases hor with ⟨rfl, rfl, rfl⟩ | ⟨hne, g, rfl, rfl⟩
            · skip
              repeat' (first
                | apply w_seq
                | apply w_region
                | apply o_end
                | apply t_normal
                | (apply o_val; (focus (first | rfl | (apply g_in; rfl; rfl; (focus (simp [*]; done))))); (focus (simp [*]; rfl)))
                | (apply o_beside fine; (focus (first | rfl | (apply g_in; rfl; rfl; (focus (simp [*]; done))))); (focus (simp [*]; exact ⟨rfl, rfl⟩)); (focus (exact hs)); (focus rfl); (focus rfl); (focus (simp [under_func, under_agg, under_tuple, under_box, *]; done)); (focus (simp only [rowH, List.cons_append, List.nil_append]; rfl)))
                | (apply o_mem; (focus (first | rfl | (apply g_in; rfl; rfl; (focus (simp [*]; done))))); rfl; (focus (simp [*]; exact ⟨rfl, rfl⟩)))
                | apply w_ret
                | apply t_ret
                | apply b_ret
                | apply w_exit
                | apply t_exit
                | apply b_here
                | (apply w_false; (focus (simp [*]; done)))
                | fail)
              apply s_ret rfl
              · simp [*]; rfl
              · rfl
              · exact Snap.flat (by simp [attrsD, formO]; done)
            · skip
              repeat' (first
                | apply w_seq
                | apply w_region
                | apply o_end
                | apply t_normal
                | (apply o_val; (focus (first | rfl | (apply g_in; rfl; rfl; (focus (simp [*]; done))))); (focus (simp [*]; rfl)))
                | (apply o_beside fine; (focus (first | rfl | (apply g_in; rfl; rfl; (focus (simp [*]; done))))); (focus (simp [*]; exact ⟨rfl, rfl⟩)); (focus (exact hs)); (focus rfl); (focus rfl); (focus (simp [under_func, under_agg, under_tuple, under_box, *]; done)); (focus (simp only [rowH, List.cons_append, List.nil_append]; rfl)))
                | (apply o_mem; (focus (first | rfl | (apply g_in; rfl; rfl; (focus (simp [*]; done))))); rfl; (focus (simp [*]; exact ⟨rfl, rfl⟩)))
                | apply w_ret
                | apply t_ret
                | apply b_ret
                | apply w_exit
                | apply t_exit
                | apply b_here
                | (apply w_false; (focus (simp [*]; done)))
                | fail)
              apply s_ret rfl
              · simp [*]; rfl
              · rfl
              · simp only [itemD, attrsD_some hne, formO]
                exact snap_tail (l := encT ⟨kd, pa, [101, 110, 100, 112, 111, 105, 110, 116]⟩ ++ encT n1 ++ encT o1 ++ encT x2 ++ encT x3) (by simp) (Snap.slice_flat (by simp) rfl (by simp) (by simp) (by simp)) .nilptr
theorem itemK_none {e : Nat} {w : Tok} {r : List Tok} (h1 : w.text ≠ [111, 114, 105, 103, 105, 110]) (h2 : w.text ≠ [99, 111, 111, 107, 105, 101]) (h3 : w.text ≠ [115, 101, 99, 114, 101, 116]) (h4 : w.text ≠ [110, 101, 116, 119, 111, 114, 107]) (h5 : w.text ≠ [112, 114, 111, 112, 101, 114, 116, 121]) (h6 : w.text ≠ [101, 110, 100, 112, 111, 105, 110, 116]) : itemK e w r = .error w.at_ := by
  unfold itemK
  rw [if_neg h1, if_neg h2, if_neg h3, if_neg h4, if_neg h5, if_neg h6]
theorem item_ok (e : Nat) (ts : List Tok) (hts : ts.length ≤ 1000000) : CallsV (L m) 48 [rdR] (rdH e ts) (Ends 1 (rdH e ts) (itemRes e (itemP e ts))) := by
  unfold itemP
  cases h0 : takeP e 2 ts with
  | error a =>
    simp only [andP]
    refine ends_of_body L_ok (H := rdH e ts) (itemRes_len _ _) (fn := Try.f48) rfl rfl rfl rfl (by kernel_rfl) ?_
    have a0 := take_up (m := m) e 2 ts _ h0
    simp only [itemRes]
    clear h0
    repeat' (first
      | apply w_seq
      | apply w_region
      | apply o_end
      | apply t_normal
      | (apply o_val; (focus (first | rfl | (apply g_in; rfl; rfl; (focus (simp [*]; done))))); (focus (simp [*]; rfl)))
      | (apply o_up fine; (focus (first | rfl | (apply g_in; rfl; rfl; (focus (simp [*]; done))))); (focus (simp [*]; exact ⟨rfl, rfl⟩)); (focus (exact a0)); (focus rfl); (focus (simp [under_func, under_agg, under_tuple, under_box]; done)); (intro H1 hH1))
      | (apply o_mem; (focus (first | rfl | (apply g_in; rfl; rfl; (focus (simp [*]; done))))); rfl; (focus (simp [*]; exact ⟨rfl, rfl⟩)))
      | apply t_panic
      | (apply s_panic; (focus (first | rfl | (simp [*]; done))))
      | fail)
  | ok p =>
    obtain ⟨⟨kd, pa, tx⟩, r⟩ := p
    simp only [andP]
    by_cases h1 : tx = [111, 114, 105, 103, 105, 110]
    · subst h1; exact item_origin h0
    by_cases h2 : tx = [99, 111, 111, 107, 105, 101]
    · subst h2; exact item_cookie h0
    by_cases h3 : tx = [115, 101, 99, 114, 101, 116]
    · subst h3; exact item_secret h0
    by_cases h4 : tx = [110, 101, 116, 119, 111, 114, 107]
    · subst h4; exact item_network h0
    by_cases h5 : tx = [112, 114, 111, 112, 101, 114, 116, 121]
    · subst h5; exact item_property h0
    by_cases h6 : tx = [101, 110, 100, 112, 111, 105, 110, 116]
    · subst h6; exact item_endpoint hts h0
    rw [itemK_none h1 h2 h3 h4 h5 h6]
    refine ends_of_body L_ok (H := rdH e ts) (itemRes_len _ _) (fn := Try.f48) rfl rfl rfl rfl (by kernel_rfl) ?_
    have a0 := take_ok (m := m) e 2 ts _ _ h0
    have b1 : (tx == [111, 114, 105, 103, 105, 110]) = false := by simpa using h1
    have b2 : (tx == [99, 111, 111, 107, 105, 101]) = false := by simpa using h2
    have b3 : (tx == [115, 101, 99, 114, 101, 116]) = false := by simpa using h3
    have b4 : (tx == [110, 101, 116, 119, 111, 114, 107]) = false := by simpa using h4
    have b5 : (tx == [112, 114, 111, 112, 101, 114, 116, 121]) = false := by simpa using h5
    have b6 : (tx == [101, 110, 100, 112, 111, 105, 110, 116]) = false := by simpa using h6
    simp only [itemRes]
    clear h0 h1 h2 h3 h4 h5 h6
    repeat' (first
      | apply w_seq
      | apply w_region
      | apply o_end
      | apply t_normal
      | (apply o_val; (focus (first | rfl | (apply g_in; rfl; rfl; (focus (simp [*]; done))))); (focus (simp [*]; rfl)))
      | (apply o_beside fine; (focus (first | rfl | (apply g_in; rfl; rfl; (focus (simp [*]; done))))); (focus (simp [*]; exact ⟨rfl, rfl⟩)); (focus (exact a0)); (focus rfl); (focus rfl); (focus (simp [under_func, under_agg, under_tuple, under_box, *]; done)); (focus (simp only [rowH, List.cons_append, List.nil_append]; rfl)))
      | (apply o_mem; (focus (first | rfl | (apply g_in; rfl; rfl; (focus (simp [*]; done))))); rfl; (focus (simp [*]; exact ⟨rfl, rfl⟩)))
      | apply w_block
      | (apply w_false; (focus (simp [*]; done)))
      | apply t_panic
      | apply b_panic
      | (apply s_panic; (focus (first | rfl | (simp [*]; done))))
      | (apply o_panic; (focus (first | rfl | (apply g_in; rfl; rfl; (focus (simp [*]; done))))); (focus (simp [*]; first | rfl | exact ⟨rfl, rfl⟩)))
      | fail)
end Go.Proofs.Ytknkkfdkcemolaa.Vm
end
section
/- Walks: all items of a description. -/
set_option linter.unusedSimpArgs false
set_option linter.unusedVariables false
set_option maxRecDepth 100000
set_option maxHeartbeats 4000000
namespace Go.Proofs.Ytknkkfdkcemolaa.Vm
open Go
variable {m : Int}
attribute [local irreducible] wpD opsD thenD blockD planD planA
attribute [local simp] List.take_of_length_le List.drop_of_length_le bne mvD endAt

theorem defer_none (H : Heap) : DefOk (L m) 47 [.ref 1 0 0 0, .ref 2 0 0 0] none H H := by
  refine deferred_of_body L_ok (fn := Try.f47) rfl rfl rfl rfl rfl rfl (by kernel_rfl) ?_
  simp only [recD]
  repeat' (first
    | apply w_seq
    | apply w_region
    | apply o_end
    | apply t_normal
    | (apply o_val; (focus (first | rfl | (apply g_in; rfl; rfl; (focus (simp [*]; done))))); (focus (simp [*]; rfl)))
    | apply w_skip
    | (apply w_false; (focus (simp [*]; done)))
    | fail)
  exact ⟨_, rfl, ⟨_, rfl⟩, rfl⟩
attribute [local simp] List.set_append
theorem defer_some (k0 : Blk) (out : D) (K : Heap) (a : Nat) : DefOk (L m) 47 [.ref 1 0 0 0, .ref 2 0 0 0] (some (stopD a)) (k0 :: .cells 0 1 false [[out]] :: .cells 0 2 false [[.int .i64 0, .int .i64 0]] :: K)
    (k0 :: .cells 0 1 false [[.nilsl]] :: .cells 0 2 false [[.int .i64 4, .int .i64 a]] :: K) := by
  refine deferred_of_body L_ok (fn := Try.f47) rfl rfl rfl rfl rfl rfl (by kernel_rfl) ?_
  simp only [recD]
  repeat' (first
    | apply w_seq
    | apply w_region
    | apply o_end
    | apply t_normal
    | (apply o_val; (focus (first | rfl | (apply g_in; rfl; rfl; (focus (simp [*]; done))))); (focus (simp [*]; rfl)))
    | (apply o_fuse; (focus (first | rfl | (apply g_in; rfl; rfl; (focus (simp [*]; done))))); rfl; (focus (simp [*]; first | rfl | exact ⟨rfl, rfl⟩)); (focus (first | rfl | (apply g_in; rfl; rfl; (focus (simp [*]; done))))); rfl; (focus (simp [*]; first | rfl | exact ⟨rfl, rfl⟩ | exact ⟨rfl, rfl, rfl⟩)); (focus (intro d hd; apply Under.flat; revert hd; revert d; simp; done)))
    | apply w_skip
    | (apply w_true; (focus (simp [*]; done)))
    | (apply w_false; (focus (simp [*]; done)))
    | (apply w_drawA; rfl; (focus (decide +kernel)); (focus (simp; rfl)); (focus (simp; rfl)))
    | (apply a_end; (focus (simp; rfl)))
    | (apply a_val; (focus (simp; rfl)); (focus (intro u; first | rfl | (apply g_in; rfl; rfl; (focus (simp [*]; done))))); (focus (intro H' u; simp [*]; rfl)); (focus (simp only [List.nil_append, List.cons_append]; rfl)))
    | (apply a_mem; (focus (simp; rfl)); (focus (intro u; first | rfl | (apply g_in; rfl; rfl; (focus (simp [*]; done))))); (focus (intro u; rfl)); (focus (intro u; simp [*]; exact ⟨rfl, rfl⟩)); (focus (first | rfl | (simp only [List.all_cons, List.all_nil, List.length_cons, List.length_nil, Nat.zero_add, Nat.reduceAdd, Bool.and_true, Bool.true_and]; done) | (simp only [List.all_cons, List.all_nil, List.length_cons, List.length_nil, Nat.zero_add, Nat.reduceAdd, Bool.and_true, Bool.true_and]; decide +kernel))); (focus (simp only [List.nil_append, List.cons_append]; rfl)); (focus (simp; rfl)))
    | fail)
  exact ⟨_, rfl, ⟨_, rfl⟩, rfl⟩
abbrev itemC (i : ItemT) : List D := encT i.word ++ encT i.name ++ encT i.of_ ++ encT i.caps ++ encT i.text ++ [attrsD i.attrs, formO i.form]
def itemsL : List ItemT → D
  | [] => .nilsl
  | i :: l => .isl 17 ((i :: l).map itemC)
theorem itemsL_some {l : List ItemT} (h : l ≠ []) : itemsL l = .isl 17 (l.map itemC) := by cases l with
  | nil => exact absurd rfl h
  | cons i l => rfl
@[simp] theorem oneD_attrsD (H : Heap) (l : List AttrT) : oneD H (attrsD l) = true := by cases l <;> rfl
@[simp] theorem oneD_formO (H : Heap) (o : Option Tree) : oneD H (formO o) = true := by
  cases o with
  | none => rfl
  | some t => cases t <;> rfl
@[simp] theorem flat_attrsD (l : List AttrT) : Flat (attrsD l) := by
  cases l with
  | nil => exact .nilsl
  | cons a l => simp [attrsD]
@[simp] theorem flat_formO (o : Option Tree) : Flat (formO o) := by
  cases o with
  | none => exact .nilptr
  | some t => exact treeD_flat t
def itemsP (e : Nat) : Nat → List ItemT → List Tok → Except Nat (List ItemT)
  | 0, _, _ => .error 0
  | _ + 1, out, [] => .ok out
  | k + 1, out, t :: r => match itemP e (t :: r) with
    | .error a => .error a
    | .ok (i, r2) => itemsP e k (out ++ [i]) r2
def itemsD : Except Nat (List ItemT) → D
  | .ok l => .tuple [itemsL l, .agg [.int .i64 0, .int .i64 0]]
  | .error a => .tuple [.nilsl, .agg [.int .i64 4, .int .i64 a]]
theorem andP_ok {α β : Type} {x : PR α} {f : α → List Tok → PR β} {b : β} {r : List Tok} (h : andP x f = .ok (b, r)) : ∃ a r1, x = .ok (a, r1) ∧ f a r1 = .ok (b, r) := by
  unfold andP at h
  split at h
  · cases h
  · exact ⟨_, _, rfl, h⟩
theorem takeP_le {e k : Nat} {t : Tok} {ts r : List Tok} (h : takeP e k ts = .ok (t, r)) : r.length ≤ ts.length := by
  rw [(takeP_len h).1]; simp
theorem wantP_le {e k : Nat} {x : List UInt8} {t : Tok} {ts r : List Tok} (h : wantP e k x ts = .ok (t, r)) : r.length ≤ ts.length := takeP_le (wantP_ok h).1
theorem attrsP_le {e : Nat} : ∀ {k : Nat} {out l : List AttrT} {ts r : List Tok}, attrsP e k out ts = .ok (l, r) → r.length ≤ ts.length
  | 0, _, _, _, _, h => by cases h
  | k + 1, out, l, ts, r, h => by
    rw [attrsP] at h
    split at h
    · simp only [Except.ok.injEq, Prod.mk.injEq] at h
      rw [← h.2]
      simp
    · obtain ⟨a, r1, h1, h2⟩ := andP_ok h
      have := attrsP_le h2
      have := attrP_len h1
      omega
theorem itemK_le {e : Nat} {w : Tok} {ts r : List Tok} {i : ItemT} (h : itemK e w ts = .ok (i, r)) : r.length ≤ ts.length := by
  unfold itemK at h
  split at h
  · obtain ⟨a1, r1, h1, h⟩ := andP_ok h
    obtain ⟨a2, r2, h2, h⟩ := andP_ok h
    obtain ⟨a3, r3, h3, h⟩ := andP_ok h
    simp only [Except.ok.injEq, Prod.mk.injEq] at h
    have := takeP_le h1; have := takeP_le h2; have := wantP_le h3
    rw [← h.2]; omega
  split at h
  · obtain ⟨a1, r1, h1, h⟩ := andP_ok h
    obtain ⟨a2, r2, h2, h⟩ := andP_ok h
    obtain ⟨a3, r3, h3, h⟩ := andP_ok h
    simp only [Except.ok.injEq, Prod.mk.injEq] at h
    have := placedP_len h1; have := takeP_le h2; have := wantP_le h3
    rw [← h.2]; omega
  split at h
  · obtain ⟨a1, r1, h1, h⟩ := andP_ok h
    obtain ⟨a3, r3, h3, h⟩ := andP_ok h
    simp only [Except.ok.injEq, Prod.mk.injEq] at h
    have := takeP_le h1; have := wantP_le h3
    rw [← h.2]; omega
  split at h
  · obtain ⟨a3, r3, h3, h⟩ := andP_ok h
    simp only [Except.ok.injEq, Prod.mk.injEq] at h
    have := wantP_le h3
    rw [← h.2]; omega
  split at h
  · obtain ⟨a1, r1, h1, h⟩ := andP_ok h
    obtain ⟨a2, r2, h2, h⟩ := andP_ok h
    obtain ⟨a3, r3, h3, h⟩ := andP_ok h
    obtain ⟨a4, r4, h4, h⟩ := andP_ok h
    simp only [Except.ok.injEq, Prod.mk.injEq] at h
    have := takeP_le h1; have := wantP_le h2; have := formP_len _ _ _ _ _ _ h3; have := wantP_le h4
    rw [← h.2]; omega
  split at h
  · obtain ⟨a1, r1, h1, h⟩ := andP_ok h
    obtain ⟨a2, r2, h2, h⟩ := andP_ok h
    obtain ⟨a3, r3, h3, h⟩ := andP_ok h
    obtain ⟨a4, r4, h4, h⟩ := andP_ok h
    obtain ⟨a5, r5, h5, h⟩ := andP_ok h
    simp only [Except.ok.injEq, Prod.mk.injEq] at h
    have := placedP_len h1; have := takeP_le h2; have := takeP_le h3; have := wantP_le h4; have := attrsP_le h5
    rw [← h.2]; omega
  · cases h
theorem itemP_len {e : Nat} {ts r : List Tok} {i : ItemT} (h : itemP e ts = .ok (i, r)) : r.length < ts.length := by
  unfold itemP at h
  obtain ⟨a1, r1, h1, h⟩ := andP_ok h
  have := itemK_le h
  rw [(takeP_len h1).1]
  simp only [List.length_cons]
  omega
/-- What is left of the small heap when all items are read, or reading was given up. -/
def itemsQ (x : Except Nat (List ItemT)) (r : DRes) (H' : Heap) : Prop := ∃ d0 H2, r = .ret d0 ∧ Drops H' H2 ∧ (∃ g, H2[0]? = some (.gone g)) ∧ Snap (fun r => 1 ≤ r) H2 d0 (itemsD x)
theorem drops_head (b : Blk) (l : Heap) : Drops (b :: l) (.gone b.next :: l) := by
  refine ⟨rfl, fun r k hk => ?_⟩
  cases r with
  | zero => obtain rfl := Option.some.inj hk; exact .inr rfl
  | succ r => exact .inl hk
theorem three {H1 : Heap} {a b : Blk} (h1 : H1[1]? = some a) (h2 : H1[2]? = some b) : ∃ k0 K, H1 = k0 :: a :: b :: K := by
  rcases H1 with _ | ⟨x, _ | ⟨y, _ | ⟨z, K⟩⟩⟩ <;> simp at h1 h2
  subst h1 h2
  exact ⟨_, _, rfl⟩
theorem items_run (e : Nat) (ts : List Tok) (hts : ts.length ≤ 1000000) : CallsV (L m) 31 [rdR] (rdH e ts) (itemsQ (itemsP e (ts.length + 1) [] ts)) := by
  refine calls_of_body_defer L_ok (fn := Try.f31) rfl rfl rfl rfl rfl (by kernel_rfl) (by kernel_rfl) ?_
  generalize hE : itemsP e (ts.length + 1) [] ts = E
  repeat' (first
    | apply w_region
    | apply o_end
    | (apply o_mem; (focus (first | rfl | (apply g_in; rfl; rfl; (focus (simp [*]; done))))); rfl; (focus (simp [*]; exact ⟨rfl, rfl⟩)))
    | fail)
  apply bq_normal (caps := [.ref 1 0 0 0, .ref 2 0 0 0]) rfl
  repeat' (first
    | apply w_seq
    | apply w_block
    | fail)
  refine w_loopT (fun n f H => ∃ (out : List ItemT) (r : List Tok), r.length < n ∧ out.length + r.length ≤ ts.length ∧ itemsP e n out r = E ∧ f 0 = rdR ∧ f 2 = .ref 1 0 0 0 ∧ f 3 = .ref 2 0 0 0 ∧
      ((out = [] ∧ H = [.cells 0 2 false [[tokL r, .int .i64 e]], .cells 0 1 false [[.nilsl]], .cells 0 2 false [[.int .i64 0, .int .i64 0]]]) ∨
       (out ≠ [] ∧ ∃ g, H = [.cells 0 2 false [[tokL r, .int .i64 e]], .cells 0 1 false [[.slice 3 0 out.length g]], .cells 0 2 false [[.int .i64 0, .int .i64 0]], .cells g 17 false (out.map itemC)]))) (ts.length + 1) ⟨[], ts, by omega, by simp, hE, by simp, by simp, by simp, .inl ⟨rfl, rfl⟩⟩ ?_
  clear hE
  rintro n f H ⟨out, r, hlt, hol, hE, g0, g2, g3, hor⟩
  have hb1 : (out.length + 1) * 192 ≤ 140737488355328 := by omega
  have hb2 : out.length ≤ 140737488355327 := by omega
  obtain ⟨k, rfl⟩ : ∃ k, n = k + 1 := ⟨n - 1, by omega⟩
  cases r with
  | nil =>
    rw [itemsP] at hE
    subst hE
    rcases hor with ⟨rfl, rfl⟩ | ⟨hne, g, rfl⟩
    · skip
      repeat' (first
        | apply w_seq
        | apply w_region
        | apply o_end
        | apply t_normal
        | (apply o_val; (focus (first | rfl | (apply g_in; rfl; rfl; (focus (simp [*]; done))))); (focus (simp [*]; rfl)))
        | apply w_ret
        | apply w_exit
        | apply t_exit
        | apply b_here
        | (apply w_false; (focus (simp [*]; done)))
        | (apply w_drawA; rfl; (focus (decide +kernel)); (focus (simp; rfl)); (focus (simp; rfl)))
        | (apply a_end; (focus (simp; rfl)))
        | (apply a_tie; (focus (simp; rfl)); (focus (intro u; first | rfl | (apply g_in; rfl; rfl; (focus (simp [*]; done))))); (focus (intro u; simp [*]; rfl)); (focus (first | rfl | (simp only [List.all_cons, List.all_nil, List.length_cons, List.length_nil, Nat.zero_add, Nat.reduceAdd, Bool.and_true, Bool.true_and]; done) | (simp only [List.all_cons, List.all_nil, List.length_cons, List.length_nil, Nat.zero_add, Nat.reduceAdd, Bool.and_true, Bool.true_and]; decide +kernel))); (focus (simp only [List.nil_append, List.cons_append]; rfl)); (focus (simp; rfl)))
        | (apply a_mem; (focus (simp; rfl)); (focus (intro u; first | rfl | (apply g_in; rfl; rfl; (focus (simp [*]; done))))); (focus (intro u; rfl)); (focus (intro u; simp [*]; exact ⟨rfl, rfl⟩)); (focus (first | rfl | (simp only [List.all_cons, List.all_nil, List.length_cons, List.length_nil, Nat.zero_add, Nat.reduceAdd, Bool.and_true, Bool.true_and]; done) | (simp only [List.all_cons, List.all_nil, List.length_cons, List.length_nil, Nat.zero_add, Nat.reduceAdd, Bool.and_true, Bool.true_and]; decide +kernel))); (focus (simp only [List.nil_append, List.cons_append]; rfl)); (focus (simp; rfl)))
        | (apply a_memG; (focus (simp; rfl)); (focus (intro u; first | rfl | (apply g_in; rfl; rfl; (focus (simp [*]; done))))); (focus (intro u; rfl)); (focus (intro u; simp [*]; exact ⟨rfl, rfl⟩)); (focus (first | rfl | (simp only [List.all_cons, List.all_nil, List.length_cons, List.length_nil, Nat.zero_add, Nat.reduceAdd, Bool.and_true, Bool.true_and]; done) | (simp only [List.all_cons, List.all_nil, List.length_cons, List.length_nil, Nat.zero_add, Nat.reduceAdd, Bool.and_true, Bool.true_and]; decide +kernel))); (focus (first | (simp; done) | (simp only [List.mem_cons, List.not_mem_nil, or_false, forall_eq_or_imp, forall_eq]; (repeat' apply And.intro) <;> first | (left; first | rfl | (simp only [List.length_cons, List.length_nil, Nat.zero_add, Nat.reduceAdd]; decide +kernel)) | (right; apply again_val; rfl; rfl; rfl; (focus (first | exact if_pos (by decide) | exact if_neg (by decide))); (focus (intro u; first | rfl | (apply g_in; rfl; rfl; (focus (simp [*]; done))))); (focus (intro u; first | (simp [*]; done) | (simp [*]; rfl))))))); (focus (simp only [List.nil_append, List.cons_append]; rfl)); (focus (simp; rfl)))
        | fail)
      refine dq_ret (d := .tuple [.nilsl, .agg [.int .i64 0, .int .i64 0]]) (defer_none (m := m) _) ?_ ⟨_, _, rfl, drops_head _ _, ⟨_, rfl⟩, Snap.flat (by simp)⟩
      simp [*]
    · skip
      repeat' (first
        | apply w_seq
        | apply w_region
        | apply o_end
        | apply t_normal
        | (apply o_val; (focus (first | rfl | (apply g_in; rfl; rfl; (focus (simp [*]; done))))); (focus (simp [*]; rfl)))
        | apply w_ret
        | apply w_exit
        | apply t_exit
        | apply b_here
        | (apply w_false; (focus (simp [*]; done)))
        | (apply w_drawA; rfl; (focus (decide +kernel)); (focus (simp; rfl)); (focus (simp; rfl)))
        | (apply a_end; (focus (simp; rfl)))
        | (apply a_tie; (focus (simp; rfl)); (focus (intro u; first | rfl | (apply g_in; rfl; rfl; (focus (simp [*]; done))))); (focus (intro u; simp [*]; rfl)); (focus (first | rfl | (simp only [List.all_cons, List.all_nil, List.length_cons, List.length_nil, Nat.zero_add, Nat.reduceAdd, Bool.and_true, Bool.true_and]; done) | (simp only [List.all_cons, List.all_nil, List.length_cons, List.length_nil, Nat.zero_add, Nat.reduceAdd, Bool.and_true, Bool.true_and]; decide +kernel))); (focus (simp only [List.nil_append, List.cons_append]; rfl)); (focus (simp; rfl)))
        | (apply a_mem; (focus (simp; rfl)); (focus (intro u; first | rfl | (apply g_in; rfl; rfl; (focus (simp [*]; done))))); (focus (intro u; rfl)); (focus (intro u; simp [*]; exact ⟨rfl, rfl⟩)); (focus (first | rfl | (simp only [List.all_cons, List.all_nil, List.length_cons, List.length_nil, Nat.zero_add, Nat.reduceAdd, Bool.and_true, Bool.true_and]; done) | (simp only [List.all_cons, List.all_nil, List.length_cons, List.length_nil, Nat.zero_add, Nat.reduceAdd, Bool.and_true, Bool.true_and]; decide +kernel))); (focus (simp only [List.nil_append, List.cons_append]; rfl)); (focus (simp; rfl)))
        | (apply a_memG; (focus (simp; rfl)); (focus (intro u; first | rfl | (apply g_in; rfl; rfl; (focus (simp [*]; done))))); (focus (intro u; rfl)); (focus (intro u; simp [*]; exact ⟨rfl, rfl⟩)); (focus (first | rfl | (simp only [List.all_cons, List.all_nil, List.length_cons, List.length_nil, Nat.zero_add, Nat.reduceAdd, Bool.and_true, Bool.true_and]; done) | (simp only [List.all_cons, List.all_nil, List.length_cons, List.length_nil, Nat.zero_add, Nat.reduceAdd, Bool.and_true, Bool.true_and]; decide +kernel))); (focus (first | (simp; done) | (simp only [List.mem_cons, List.not_mem_nil, or_false, forall_eq_or_imp, forall_eq]; (repeat' apply And.intro) <;> first | (left; first | rfl | (simp only [List.length_cons, List.length_nil, Nat.zero_add, Nat.reduceAdd]; decide +kernel)) | (right; apply again_val; rfl; rfl; rfl; (focus (first | exact if_pos (by decide) | exact if_neg (by decide))); (focus (intro u; first | rfl | (apply g_in; rfl; rfl; (focus (simp [*]; done))))); (focus (intro u; first | (simp [*]; done) | (simp [*]; rfl))))))); (focus (simp only [List.nil_append, List.cons_append]; rfl)); (focus (simp; rfl)))
        | fail)
      refine dq_ret (d := .tuple [.slice 3 0 out.length g, .agg [.int .i64 0, .int .i64 0]]) (defer_none (m := m) _) ?_ ⟨_, _, rfl, drops_head _ _, ⟨_, rfl⟩, ?_⟩
      · simp [*]
      · simp only [itemsD, itemsL_some hne]
        exact SnapL.tuple ⟨Snap.slice_flat (by simp) rfl (by simp) (by simp) (by simp), Snap.flat (by simp), trivial⟩
  | cons t tl =>
    rw [itemsP] at hE
    have hpos : decide ((0 : Int) < (tl.length : Int) + 1) = true := by simp
    cases ha : itemP e (t :: tl) with
    | error a =>
      have h1 := item_ok (m := m) e (t :: tl) (by omega)
      rw [ha] at h1 hE
      simp only [itemRes] at h1
      simp only at hE
      subst hE
      clear ha
      rcases hor with ⟨rfl, rfl⟩ | ⟨hne, g, rfl⟩
      · skip
        repeat' (first
          | apply w_seq
          | apply w_region
          | apply o_end
          | apply t_normal
          | (apply o_val; (focus (first | rfl | (apply g_in; rfl; rfl; (focus (simp [*]; done))))); (focus (simp [*]; rfl)))
          | apply w_skip
          | apply w_block
          | (apply w_true; (focus (simp [*]; done)))
          | apply t_panic
          | apply b_panic
          | (apply w_drawA; rfl; (focus (decide +kernel)); (focus (simp; rfl)); (focus (simp; rfl)))
          | (apply a_val; (focus (simp; rfl)); (focus (intro u; first | rfl | (apply g_in; rfl; rfl; (focus (simp [*]; done))))); (focus (intro H' u; simp [*]; rfl)); (focus (simp only [List.nil_append, List.cons_append]; rfl)))
          | (apply a_upB fine; (focus (simp; rfl)); (focus (intro u; first | rfl | (apply g_in; rfl; rfl; (focus (simp [*]; done))))); (focus (intro u; simp [*]; exact ⟨rfl, rfl⟩)); (focus (exact h1)); (focus rfl); (focus (simp [under_func, under_agg, under_tuple, under_box]; done)); (focus (first | rfl | (simp only [List.all_cons, List.all_nil, List.length_cons, List.length_nil, Nat.zero_add, Nat.reduceAdd, Bool.and_true, Bool.true_and]; done) | (simp only [List.all_cons, List.all_nil, List.length_cons, List.length_nil, Nat.zero_add, Nat.reduceAdd, Bool.and_true, Bool.true_and]; decide +kernel))); (focus (first | rfl | (simp only [List.all_cons, List.all_nil, List.length_cons, List.length_nil, Nat.zero_add, Nat.reduceAdd, Bool.and_true, Bool.true_and]; done) | (simp only [List.all_cons, List.all_nil, List.length_cons, List.length_nil, Nat.zero_add, Nat.reduceAdd, Bool.and_true, Bool.true_and]; decide +kernel))); (intro f1 H1 hH1 hf1))
          | (apply a_tie; (focus (simp; rfl)); (focus (intro u; first | rfl | (apply g_in; rfl; rfl; (focus (simp [*]; done))))); (focus (intro u; simp [*]; rfl)); (focus (first | rfl | (simp only [List.all_cons, List.all_nil, List.length_cons, List.length_nil, Nat.zero_add, Nat.reduceAdd, Bool.and_true, Bool.true_and]; done) | (simp only [List.all_cons, List.all_nil, List.length_cons, List.length_nil, Nat.zero_add, Nat.reduceAdd, Bool.and_true, Bool.true_and]; decide +kernel))); (focus (simp only [List.nil_append, List.cons_append]; rfl)); (focus (simp; rfl)))
          | fail)
        obtain ⟨k0, K, rfl⟩ := three (hH1 1 _ (Nat.le_refl 1) rfl) (hH1 2 _ (by simp) rfl)
        have q2 : f1 2 = .ref 1 0 0 0 := (hf1 2 (by decide)).trans (by simp [*])
        have q3 : f1 3 = .ref 2 0 0 0 := (hf1 3 (by decide)).trans (by simp [*])
        refine dq_panic (d := .tuple [.nilsl, .agg [.int .i64 4, .int .i64 a]]) (defer_some (m := m) k0 _ K a) ?_ ⟨_, _, rfl, drops_head _ _, ⟨_, rfl⟩, Snap.flat (by simp)⟩
        simp [q2, q3]
      · skip
        repeat' (first
          | apply w_seq
          | apply w_region
          | apply o_end
          | apply t_normal
          | (apply o_val; (focus (first | rfl | (apply g_in; rfl; rfl; (focus (simp [*]; done))))); (focus (simp [*]; rfl)))
          | apply w_skip
          | apply w_block
          | (apply w_true; (focus (simp [*]; done)))
          | apply t_panic
          | apply b_panic
          | (apply w_drawA; rfl; (focus (decide +kernel)); (focus (simp; rfl)); (focus (simp; rfl)))
          | (apply a_val; (focus (simp; rfl)); (focus (intro u; first | rfl | (apply g_in; rfl; rfl; (focus (simp [*]; done))))); (focus (intro H' u; simp [*]; rfl)); (focus (simp only [List.nil_append, List.cons_append]; rfl)))
          | (apply a_upB fine; (focus (simp; rfl)); (focus (intro u; first | rfl | (apply g_in; rfl; rfl; (focus (simp [*]; done))))); (focus (intro u; simp [*]; exact ⟨rfl, rfl⟩)); (focus (exact h1)); (focus rfl); (focus (simp [under_func, under_agg, under_tuple, under_box]; done)); (focus (first | rfl | (simp only [List.all_cons, List.all_nil, List.length_cons, List.length_nil, Nat.zero_add, Nat.reduceAdd, Bool.and_true, Bool.true_and]; done) | (simp only [List.all_cons, List.all_nil, List.length_cons, List.length_nil, Nat.zero_add, Nat.reduceAdd, Bool.and_true, Bool.true_and]; decide +kernel))); (focus (first | rfl | (simp only [List.all_cons, List.all_nil, List.length_cons, List.length_nil, Nat.zero_add, Nat.reduceAdd, Bool.and_true, Bool.true_and]; done) | (simp only [List.all_cons, List.all_nil, List.length_cons, List.length_nil, Nat.zero_add, Nat.reduceAdd, Bool.and_true, Bool.true_and]; decide +kernel))); (intro f1 H1 hH1 hf1))
          | (apply a_tie; (focus (simp; rfl)); (focus (intro u; first | rfl | (apply g_in; rfl; rfl; (focus (simp [*]; done))))); (focus (intro u; simp [*]; rfl)); (focus (first | rfl | (simp only [List.all_cons, List.all_nil, List.length_cons, List.length_nil, Nat.zero_add, Nat.reduceAdd, Bool.and_true, Bool.true_and]; done) | (simp only [List.all_cons, List.all_nil, List.length_cons, List.length_nil, Nat.zero_add, Nat.reduceAdd, Bool.and_true, Bool.true_and]; decide +kernel))); (focus (simp only [List.nil_append, List.cons_append]; rfl)); (focus (simp; rfl)))
          | fail)
        obtain ⟨k0, K, rfl⟩ := three (hH1 1 _ (Nat.le_refl 1) rfl) (hH1 2 _ (by simp) rfl)
        have q2 : f1 2 = .ref 1 0 0 0 := (hf1 2 (by decide)).trans (by simp [*])
        have q3 : f1 3 = .ref 2 0 0 0 := (hf1 3 (by decide)).trans (by simp [*])
        refine dq_panic (d := .tuple [.nilsl, .agg [.int .i64 4, .int .i64 a]]) (defer_some (m := m) k0 _ K a) ?_ ⟨_, _, rfl, drops_head _ _, ⟨_, rfl⟩, Snap.flat (by simp)⟩
        simp [q2, q3]
    | ok p =>
      obtain ⟨i, r'⟩ := p
      have h1 := item_ok (m := m) e (t :: tl) (by omega)
      have hlen := itemP_len ha
      rw [ha] at h1 hE
      simp only [itemRes] at h1
      simp only at hE
      simp only [List.length_cons] at hlt hol hlen
      clear ha
      rcases hor with ⟨rfl, rfl⟩ | ⟨hne, g, rfl⟩
      · skip
        repeat' (first
          | apply w_seq
          | apply w_region
          | apply o_end
          | apply t_normal
          | (apply o_val; (focus (first | rfl | (apply g_in; rfl; rfl; (focus (simp [*]; done))))); (focus (simp [*]; rfl)))
          | apply w_skip
          | apply w_block
          | apply b_normal
          | (apply w_true; (focus (simp [*]; done)))
          | (apply w_drawA; rfl; (focus (decide +kernel)); (focus (simp; rfl)); (focus (simp; rfl)))
          | (apply a_end; (focus (simp; rfl)))
          | (apply a_val; (focus (simp; rfl)); (focus (intro u; first | rfl | (apply g_in; rfl; rfl; (focus (simp [*]; done))))); (focus (intro H' u; simp [*]; rfl)); (focus (simp only [List.nil_append, List.cons_append]; rfl)))
          | (apply a_besideG fine; (focus (simp; rfl)); (focus (intro u; first | rfl | (apply g_in; rfl; rfl; (focus (simp [*]; done))))); (focus (intro u; simp [*]; exact ⟨rfl, rfl⟩)); (focus (exact h1)); (focus rfl); (focus rfl); (focus (simp [under_func, under_agg, under_tuple, under_box, *]; done)); (focus (simp only [rowH, List.cons_append, List.nil_append]; rfl)); (focus (first | rfl | (simp only [List.all_cons, List.all_nil, List.length_cons, List.length_nil, Nat.zero_add, Nat.reduceAdd, Bool.and_true, Bool.true_and]; done) | (simp only [List.all_cons, List.all_nil, List.length_cons, List.length_nil, Nat.zero_add, Nat.reduceAdd, Bool.and_true, Bool.true_and]; decide +kernel))); (focus (first | (simp; done) | (simp only [List.mem_cons, List.not_mem_nil, or_false, forall_eq_or_imp, forall_eq]; (repeat' apply And.intro) <;> first | (left; first | rfl | (simp only [List.length_cons, List.length_nil, Nat.zero_add, Nat.reduceAdd]; decide +kernel)) | (right; apply again_val; rfl; rfl; rfl; (focus (first | exact if_pos (by decide) | exact if_neg (by decide))); (focus (intro u; first | rfl | (apply g_in; rfl; rfl; (focus (simp [*]; done))))); (focus (intro u; first | (simp [*]; done) | (simp [*]; rfl))))))); (focus (simp only [List.nil_append, List.cons_append]; rfl)); (focus (simp; rfl)))
          | (apply a_tie; (focus (simp; rfl)); (focus (intro u; first | rfl | (apply g_in; rfl; rfl; (focus (simp [*]; done))))); (focus (intro u; simp [*]; rfl)); (focus (first | rfl | (simp only [List.all_cons, List.all_nil, List.length_cons, List.length_nil, Nat.zero_add, Nat.reduceAdd, Bool.and_true, Bool.true_and]; done) | (simp only [List.all_cons, List.all_nil, List.length_cons, List.length_nil, Nat.zero_add, Nat.reduceAdd, Bool.and_true, Bool.true_and]; decide +kernel))); (focus (simp only [List.nil_append, List.cons_append]; rfl)); (focus (simp; rfl)))
          | (apply a_frz (op := Op.buildSlice _ _ _); (focus (simp; rfl)); (focus (intro u; first | rfl | (apply g_in; rfl; rfl; (focus (simp [*]; done))))); (focus (intro u; rfl)); (focus (intro H' u; simp [*]; refine ⟨_, _, ⟨rfl, rfl⟩, ?_, ?_⟩; (focus (simp; done)); (focus (first | exact Snap.flat (by simp [*]; done) | exact Snap.ref_flat (by simp) rfl rfl rfl (by simp) (by simp [*]; done) | exact Snap.slice_flat (by simp) rfl (by simp; rfl) (by simp) (by simp [*]; done) | exact Snap.slice_flat (by simp) (by simp; exact ⟨rfl, rfl, rfl⟩) (by simp; rfl) (by simp) (by simp [*]; done))))); (focus (simp only [List.nil_append, List.cons_append]; rfl)))
          | (apply a_mem; (focus (simp; rfl)); (focus (intro u; first | rfl | (apply g_in; rfl; rfl; (focus (simp [*]; done))))); (focus (intro u; rfl)); (focus (intro u; simp [*]; exact ⟨rfl, rfl⟩)); (focus (first | rfl | (simp only [List.all_cons, List.all_nil, List.length_cons, List.length_nil, Nat.zero_add, Nat.reduceAdd, Bool.and_true, Bool.true_and]; done) | (simp only [List.all_cons, List.all_nil, List.length_cons, List.length_nil, Nat.zero_add, Nat.reduceAdd, Bool.and_true, Bool.true_and]; decide +kernel))); (focus (simp only [List.nil_append, List.cons_append]; rfl)); (focus (simp; rfl)))
          | fail)
        refine ⟨k, by omega, [.cells 0 2 false [[tokL r', .int .i64 e]], .cells 0 1 false [[.slice 3 0 ([i]).length 1]], .cells 0 2 false [[.int .i64 0, .int .i64 0]], .cells 1 17 false (([i]).map itemC)], 4, [(0, rdR), (2, .ref 1 0 0 0), (3, .ref 2 0 0 0)], by simp, ?_, by simp, ?_, ?_, [i], r', by omega, by simp at hol ⊢; omega, hE, by simp [lookF], by simp [lookF], by simp [lookF], .inr ⟨by simp, 1, rfl⟩⟩
        · simp; done
        · intro b hb
          simp only [List.mem_cons, List.not_mem_nil, or_false] at hb
          rcases hb with rfl | rfl | rfl | rfl
          all_goals first | (simp; done) | (intro x hx d hd; obtain ⟨y, _, rfl⟩ := List.mem_map.1 hx; apply Under.flat; revert hd; revert d; simp; done)
        · intro p hp
          simp only [List.mem_cons, List.not_mem_nil, or_false] at hp
          rcases hp with rfl | rfl | rfl
          all_goals exact .inl ⟨by simp [*], by simp⟩
      · skip
        repeat' (first
          | apply w_seq
          | apply w_region
          | apply o_end
          | apply t_normal
          | (apply o_val; (focus (first | rfl | (apply g_in; rfl; rfl; (focus (simp [*]; done))))); (focus (simp [*]; rfl)))
          | apply w_skip
          | apply w_block
          | apply b_normal
          | (apply w_true; (focus (simp [*]; done)))
          | (apply w_drawA; rfl; (focus (decide +kernel)); (focus (simp; rfl)); (focus (simp; rfl)))
          | (apply a_end; (focus (simp; rfl)))
          | (apply a_val; (focus (simp; rfl)); (focus (intro u; first | rfl | (apply g_in; rfl; rfl; (focus (simp [*]; done))))); (focus (intro H' u; simp [*]; rfl)); (focus (simp only [List.nil_append, List.cons_append]; rfl)))
          | (apply a_besideG fine; (focus (simp; rfl)); (focus (intro u; first | rfl | (apply g_in; rfl; rfl; (focus (simp [*]; done))))); (focus (intro u; simp [*]; exact ⟨rfl, rfl⟩)); (focus (exact h1)); (focus rfl); (focus rfl); (focus (simp [under_func, under_agg, under_tuple, under_box, *]; done)); (focus (simp only [rowH, List.cons_append, List.nil_append]; rfl)); (focus (first | rfl | (simp only [List.all_cons, List.all_nil, List.length_cons, List.length_nil, Nat.zero_add, Nat.reduceAdd, Bool.and_true, Bool.true_and]; done) | (simp only [List.all_cons, List.all_nil, List.length_cons, List.length_nil, Nat.zero_add, Nat.reduceAdd, Bool.and_true, Bool.true_and]; decide +kernel))); (focus (first | (simp; done) | (simp only [List.mem_cons, List.not_mem_nil, or_false, forall_eq_or_imp, forall_eq]; (repeat' apply And.intro) <;> first | (left; first | rfl | (simp only [List.length_cons, List.length_nil, Nat.zero_add, Nat.reduceAdd]; decide +kernel)) | (right; apply again_val; rfl; rfl; rfl; (focus (first | exact if_pos (by decide) | exact if_neg (by decide))); (focus (intro u; first | rfl | (apply g_in; rfl; rfl; (focus (simp [*]; done))))); (focus (intro u; first | (simp [*]; done) | (simp [*]; rfl))))))); (focus (simp only [List.nil_append, List.cons_append]; rfl)); (focus (simp; rfl)))
          | (apply a_tie; (focus (simp; rfl)); (focus (intro u; first | rfl | (apply g_in; rfl; rfl; (focus (simp [*]; done))))); (focus (intro u; simp [*]; rfl)); (focus (first | rfl | (simp only [List.all_cons, List.all_nil, List.length_cons, List.length_nil, Nat.zero_add, Nat.reduceAdd, Bool.and_true, Bool.true_and]; done) | (simp only [List.all_cons, List.all_nil, List.length_cons, List.length_nil, Nat.zero_add, Nat.reduceAdd, Bool.and_true, Bool.true_and]; decide +kernel))); (focus (simp only [List.nil_append, List.cons_append]; rfl)); (focus (simp; rfl)))
          | (apply a_frz (op := Op.buildSlice _ _ _); (focus (simp; rfl)); (focus (intro u; first | rfl | (apply g_in; rfl; rfl; (focus (simp [*]; done))))); (focus (intro u; rfl)); (focus (intro H' u; simp [*]; refine ⟨_, _, ⟨rfl, rfl⟩, ?_, ?_⟩; (focus (simp; done)); (focus (first | exact Snap.flat (by simp [*]; done) | exact Snap.ref_flat (by simp) rfl rfl rfl (by simp) (by simp [*]; done) | exact Snap.slice_flat (by simp) rfl (by simp; rfl) (by simp) (by simp [*]; done) | exact Snap.slice_flat (by simp) (by simp; exact ⟨rfl, rfl, rfl⟩) (by simp; rfl) (by simp) (by simp [*]; done))))); (focus (simp only [List.nil_append, List.cons_append]; rfl)))
          | (apply a_mem; (focus (simp; rfl)); (focus (intro u; first | rfl | (apply g_in; rfl; rfl; (focus (simp [*]; done))))); (focus (intro u; rfl)); (focus (intro u; simp [*]; exact ⟨rfl, rfl⟩)); (focus (first | rfl | (simp only [List.all_cons, List.all_nil, List.length_cons, List.length_nil, Nat.zero_add, Nat.reduceAdd, Bool.and_true, Bool.true_and]; done) | (simp only [List.all_cons, List.all_nil, List.length_cons, List.length_nil, Nat.zero_add, Nat.reduceAdd, Bool.and_true, Bool.true_and]; decide +kernel))); (focus (simp only [List.nil_append, List.cons_append]; rfl)); (focus (simp; rfl)))
          | fail)
        refine ⟨k, by omega, [.cells 0 2 false [[tokL r', .int .i64 e]], .cells 0 1 false [[.slice 3 0 (out ++ [i]).length (g + 1)]], .cells 0 2 false [[.int .i64 0, .int .i64 0]], .cells (g + 1) 17 false ((out ++ [i]).map itemC)], 4, [(0, rdR), (2, .ref 1 0 0 0), (3, .ref 2 0 0 0)], by simp, ?_, by simp, ?_, ?_, out ++ [i], r', by omega, by simp at hol ⊢; omega, hE, by simp [lookF], by simp [lookF], by simp [lookF], .inr ⟨by simp, g + 1, rfl⟩⟩
        · simp; done
        · intro b hb
          simp only [List.mem_cons, List.not_mem_nil, or_false] at hb
          rcases hb with rfl | rfl | rfl | rfl
          all_goals first | (simp; done) | (intro x hx d hd; obtain ⟨y, _, rfl⟩ := List.mem_map.1 hx; apply Under.flat; revert hd; revert d; simp; done)
        · intro p hp
          simp only [List.mem_cons, List.not_mem_nil, or_false] at hp
          rcases hp with rfl | rfl | rfl
          all_goals exact .inl ⟨by simp [*], by simp⟩
theorem itemsL_flat (l : List ItemT) : Flat (itemsL l) := by
  cases l with
  | nil => exact .nilsl
  | cons i l => simp [itemsL]
theorem itemsD_flat (x : Except Nat (List ItemT)) : Flat (itemsD x) := by
  cases x with
  | error a => simp [itemsD]
  | ok l => simp [itemsD, itemsL_flat]
theorem items_ok (e : Nat) (ts : List Tok) (hts : ts.length ≤ 1000000) : CallsV (L m) 31 [rdR] (rdH e ts) fun r H' => r = .ret (itemsD (itemsP e (ts.length + 1) [] ts)) ∧ ∃ g, H' = [.gone g] := by
  have h1 := (items_run (m := m) e ts hts).drop (Q' := fun r H' => (∃ d0, r = .ret d0 ∧ Snap (fun r => 1 ≤ r) H' d0 (itemsD (itemsP e (ts.length + 1) [] ts))) ∧ ∃ g, H'[0]? = some (.gone g)) (fun r H' hq => by
    obtain ⟨d0, H2, rfl, h2, h3, h4⟩ := hq
    exact ⟨H2, h2, ⟨d0, rfl, h4⟩, h3⟩)
  refine h1.trim fun r H' ⟨⟨d0, hr, hs⟩, g, hg⟩ => ⟨fun i k hi hk => ?_, ?_⟩
  · have hi : i < 1 := hi
    obtain rfl : i = 0 := by omega
    rw [hg] at hk
    obtain rfl := Option.some.inj hk
    trivial
  · subst hr
    refine ⟨_, hs, rfl, g, ?_⟩
    rcases H' with _ | ⟨x, l⟩
    · simp at hg
    · obtain rfl : x = .gone g := by simpa using hg
      rfl
end Go.Proofs.Ytknkkfdkcemolaa.Vm
end
section
/- Walks: how deep a formula is. -/
set_option linter.unusedSimpArgs false
set_option linter.unusedVariables false
set_option maxRecDepth 100000
set_option maxHeartbeats 4000000
namespace Go.Proofs.Ytknkkfdkcemolaa.Vm
open Go
variable {m : Int}
attribute [local irreducible] wpD opsD thenD blockD planD planA LoopD
attribute [local simp] List.take_of_length_le List.drop_of_length_le bne mvD endAt

def depthT : Tree → Nat
  | .leaf _ _ => 1
  | .un _ k => depthT k + 1
  | .bin _ a b => max (depthT a) (depthT b) + 1
theorem depth_ok (t : Tree) (hd : depthT t < 1000000) : Ans (L m) 32 [treeD t] (.int .i64 (depthT t)) := by
  induction t with
  | leaf w n =>
    refine fn_of_body L_ok (fn := Try.f32) rfl rfl rfl rfl (by kernel_rfl) ?_
    rw [treeD]
    repeat' (first
      | apply w_seq
      | apply w_region
      | apply o_end
      | apply t_normal
      | (apply o_val; (focus (first | rfl | (apply g_in; rfl; rfl; (focus (simp [*]; done))))); (focus (simp [*]; rfl)))
      | apply w_skip
      | apply w_block
      | (apply w_false; (focus (simp [*]; done)))
      | fail)
    apply loop_is
    apply loop_unfold
    repeat' (first
      | apply w_seq
      | apply w_region
      | apply o_end
      | apply t_normal
      | (apply o_add; (focus (first | rfl | (apply g_in; rfl; rfl; (focus (simp [*]; done))))); (focus (simp [*]; rfl)); rfl; (focus (simp [*]; rfl)); rfl; (focus (apply wrap_i64 <;> omega)))
      | (apply o_val; (focus (first | rfl | (apply g_in; rfl; rfl; (focus (simp [*]; done))))); (focus (simp [*]; rfl)))
      | apply w_ret
      | apply w_exit
      | apply t_exit
      | apply b_here
      | (apply w_false; (focus (simp [*]; done)))
      | fail)
    · apply f_retf
      · simp [*]; rfl
      · simp
      · rfl
  | un w k ih =>
    have h1 := ih (by simp only [depthT] at hd; omega)
    have hk : depthT k < 1000000 := by simp only [depthT] at hd; omega
    simp only [depthT]
    generalize depthT k = x at h1 hk
    refine fn_of_body L_ok (fn := Try.f32) rfl rfl rfl rfl (by kernel_rfl) ?_
    rw [treeD]
    have hm : (x : Int) ≤ 1000000 := by omega
    repeat' (first
      | apply w_seq
      | apply w_region
      | apply o_end
      | apply t_normal
      | (apply o_val; (focus (first | rfl | (apply g_in; rfl; rfl; (focus (simp [*]; done))))); (focus (simp [*]; rfl)))
      | apply w_skip
      | apply w_block
      | (apply w_false; (focus (simp [*]; done)))
      | fail)
    apply loop_is
    apply loop_unfold
    repeat' (first
      | apply w_seq
      | apply w_region
      | apply o_end
      | apply t_normal
      | (apply o_add; (focus (first | rfl | (apply g_in; rfl; rfl; (focus (simp [*]; done))))); (focus (simp [*]; rfl)); rfl; (focus (simp [*]; rfl)); rfl; (focus (apply wrap_i64 <;> omega)))
      | (apply o_val; (focus (first | rfl | (apply g_in; rfl; rfl; (focus (simp [*]; done))))); (focus (simp [*]; rfl)))
      | (apply o_fn fine; (focus (first | rfl | (apply g_in; rfl; rfl; (focus (simp [*]; done))))); (focus (simp [*]; exact ⟨rfl, rfl⟩)); (focus (exact h1)); (focus (simp [*]; done)))
      | apply w_skip
      | apply w_block
      | apply b_normal
      | (apply w_true; (focus (simp [*]; done)))
      | fail)
    apply loop_unfold
    repeat' (first
      | apply w_seq
      | apply w_region
      | apply o_end
      | apply t_normal
      | (apply o_add; (focus (first | rfl | (apply g_in; rfl; rfl; (focus (simp [*]; done))))); (focus (simp [*]; rfl)); rfl; (focus (simp [*]; rfl)); rfl; (focus (apply wrap_i64 <;> omega)))
      | (apply o_val; (focus (first | rfl | (apply g_in; rfl; rfl; (focus (simp [*]; done))))); (focus (simp [*]; rfl)))
      | apply w_ret
      | apply w_exit
      | apply t_exit
      | apply b_here
      | (apply w_false; (focus (simp [*]; done)))
      | fail)
    apply f_retf
    · simp [*]; rfl
    · simp
    · simp [*]; omega
  | bin w a b iha ihb =>
    have h1 := iha (by simp only [depthT] at hd; omega)
    have h2 := ihb (by simp only [depthT] at hd; omega)
    have hx : depthT a < 1000000 := by simp only [depthT] at hd; omega
    have hy : depthT b < 1000000 := by simp only [depthT] at hd; omega
    simp only [depthT]
    clear hd iha ihb
    generalize depthT a = x at h1 hx ⊢
    generalize depthT b = y at h2 hy ⊢
    refine fn_of_body L_ok (fn := Try.f32) rfl rfl rfl rfl (by kernel_rfl) ?_
    rw [treeD]
    have hm : (x : Int) ≤ 1000000 := by omega
    have hm2 : (y : Int) ≤ 1000000 := by omega
    repeat' (first
      | apply w_seq
      | apply w_region
      | apply o_end
      | apply t_normal
      | (apply o_val; (focus (first | rfl | (apply g_in; rfl; rfl; (focus (simp [*]; done))))); (focus (simp [*]; rfl)))
      | apply w_skip
      | apply w_block
      | (apply w_false; (focus (simp [*]; done)))
      | fail)
    apply loop_is
    apply loop_unfold
    repeat' (first
      | apply w_seq
      | apply w_region
      | apply o_end
      | apply t_normal
      | (apply o_add; (focus (first | rfl | (apply g_in; rfl; rfl; (focus (simp [*]; done))))); (focus (simp [*]; rfl)); rfl; (focus (simp [*]; rfl)); rfl; (focus (apply wrap_i64 <;> omega)))
      | (apply o_val; (focus (first | rfl | (apply g_in; rfl; rfl; (focus (simp [*]; done))))); (focus (simp [*]; rfl)))
      | (apply o_fn fine; (focus (first | rfl | (apply g_in; rfl; rfl; (focus (simp [*]; done))))); (focus (simp [*]; exact ⟨rfl, rfl⟩)); (focus (exact h1)); (focus (simp [*]; done)))
      | apply w_skip
      | apply w_block
      | apply b_normal
      | (apply w_true; (focus (simp [*]; done)))
      | fail)
    apply loop_unfold
    repeat' (first
      | apply w_seq
      | apply w_region
      | apply o_end
      | apply t_normal
      | (apply o_add; (focus (first | rfl | (apply g_in; rfl; rfl; (focus (simp [*]; done))))); (focus (simp [*]; rfl)); rfl; (focus (simp [*]; rfl)); rfl; (focus (apply wrap_i64 <;> omega)))
      | (apply o_val; (focus (first | rfl | (apply g_in; rfl; rfl; (focus (simp [*]; done))))); (focus (simp [*]; rfl)))
      | (apply o_fn fine; (focus (first | rfl | (apply g_in; rfl; rfl; (focus (simp [*]; done))))); (focus (simp [*]; exact ⟨rfl, rfl⟩)); (focus (exact h2)); (focus (simp [*]; done)))
      | apply w_skip
      | apply w_block
      | apply b_normal
      | (apply w_true; (focus (simp [*]; done)))
      | fail)
    apply loop_unfold
    repeat' (first
      | apply w_seq
      | apply w_region
      | apply o_end
      | apply t_normal
      | (apply o_add; (focus (first | rfl | (apply g_in; rfl; rfl; (focus (simp [*]; done))))); (focus (simp [*]; rfl)); rfl; (focus (simp [*]; rfl)); rfl; (focus (apply wrap_i64 <;> omega)))
      | (apply o_val; (focus (first | rfl | (apply g_in; rfl; rfl; (focus (simp [*]; done))))); (focus (simp [*]; rfl)))
      | apply w_ret
      | apply w_exit
      | apply t_exit
      | apply b_here
      | (apply w_false; (focus (simp [*]; done)))
      | fail)
    apply f_retf
    · simp [*]; rfl
    · simp
    · simp [*]; repeat' split
      all_goals omega
end Go.Proofs.Ytknkkfdkcemolaa.Vm
end
section
/- Plain: what is read comes of the tokens: its texts, its size; how it is shown. -/
set_option linter.unusedSimpArgs false
set_option linter.unusedVariables false
namespace Go.Proofs.Ytknkkfdkcemolaa.Vm
open Go
variable {m : Int}

def sizeT : Tree → Nat
  | .leaf _ _ => 1
  | .un _ k => sizeT k + 1
  | .bin _ a b => sizeT a + sizeT b + 1
theorem depth_size (t : Tree) : depthT t ≤ sizeT t := by
  induction t with
  | leaf => exact Nat.le_refl _
  | un w k ih => simp only [depthT, sizeT]; omega
  | bin w a b iha ihb => simp only [depthT, sizeT]; omega
def allT (P : Tok → Prop) : Tree → Prop
  | .leaf w n => P w ∧ P n
  | .un w k => P w ∧ allT P k
  | .bin w a b => P w ∧ allT P a ∧ allT P b
def allI (P : Tok → Prop) (i : ItemT) : Prop := P i.word ∧ P i.name ∧ P i.of_ ∧ P i.caps ∧ P i.text ∧ (∀ a, a ∈ i.attrs → P a.word ∧ P a.arg) ∧ ∀ t, i.form = some t → allT P t
/-- What a list's elements hold to. -/
abbrev Each (P : Tok → Prop) (ts : List Tok) : Prop := ∀ t, t ∈ ts → P t
variable {P : Tok → Prop}
theorem takeP_all {e k : Nat} {t : Tok} {ts r : List Tok} (h : takeP e k ts = .ok (t, r)) (ha : Each P ts) : P t ∧ Each P r := by
  have := (takeP_len h).1
  subst this
  exact ⟨ha t (List.mem_cons_self ..), fun x hx => ha x (List.mem_cons_of_mem _ hx)⟩
theorem wantP_all {e k : Nat} {x : List UInt8} {t : Tok} {ts r : List Tok} (h : wantP e k x ts = .ok (t, r)) (ha : Each P ts) : P t ∧ Each P r := takeP_all (wantP_ok h).1 ha
theorem tail_all {ts : List Tok} (ha : Each P ts) : Each P ts.tail := fun x hx => ha x (List.mem_of_mem_tail hx)
theorem moreP_all {next : List Tok → PR Tree} {e : Nat} {word : List UInt8} (hn : ∀ ts t r, next ts = .ok (t, r) → Each P ts → allT P t ∧ Each P r ∧ sizeT t + r.length ≤ ts.length) : ∀ (k : Nat) (t : Tree) (ts : List Tok) (t' : Tree) (r : List Tok), moreP next e word k t ts = .ok (t', r) → Each P ts → allT P t →
    allT P t' ∧ Each P r ∧ sizeT t' + r.length ≤ sizeT t + ts.length := by
  intro k
  induction k with
  | zero => intro t ts t' r h; cases h
  | succ k ih =>
    intro t ts t' r h ha ht
    rw [moreP] at h
    split at h
    · split at h
      · cases h
      rename_i w r1 h1
      split at h
      · cases h
      rename_i b r2 h2
      obtain ⟨q1, q2⟩ := takeP_all h1 ha
      obtain ⟨q3, q4, q5⟩ := hn _ _ _ h2 q2
      obtain ⟨q6, q7, q8⟩ := ih _ _ _ _ h q4 ⟨q1, ht, q3⟩
      have := congrArg List.length (takeP_len h1).1
      simp only [List.length_cons, sizeT] at this q8
      exact ⟨q6, q7, by omega⟩
    · simp only [Except.ok.injEq, Prod.mk.injEq] at h
      obtain ⟨rfl, rfl⟩ := h
      exact ⟨ht, ha, Nat.le_refl _⟩
theorem formP_all (e : Nat) : ∀ (n l : Nat) (ts : List Tok) (t : Tree) (r : List Tok), formP e n l ts = .ok (t, r) → Each P ts → allT P t ∧ Each P r ∧ sizeT t + r.length ≤ ts.length := by
  intro n
  induction n with
  | zero => intro l ts t r h; cases l <;> cases h
  | succ n ih =>
    intro l ts t r
    have chain : ∀ l word, chainOf (formP e n l) e word ts = .ok (t, r) → Each P ts → allT P t ∧ Each P r ∧ sizeT t + r.length ≤ ts.length := by
      intro l word h ha
      unfold chainOf at h
      split at h
      · cases h
      rename_i t1 r1 h1
      obtain ⟨q1, q2, q3⟩ := ih l _ _ _ h1 ha
      obtain ⟨q4, q5, q6⟩ := moreP_all (ih l) _ _ _ _ _ h q2 q1
      exact ⟨q4, q5, by omega⟩
    have fac : formP e (n + 1) 0 ts = .ok (t, r) → Each P ts → allT P t ∧ Each P r ∧ sizeT t + r.length ≤ ts.length := by
      intro h ha
      rw [formP] at h
      case x_4 => decide
      case x_5 => decide
      split at h
      · rename_i hb
        obtain ⟨u, us, rfl, _⟩ := isP_take (e := e) hb
        split at h
        · cases h
        rename_i t1 r1 h1
        split at h
        · cases h
        rename_i y r2 h2
        simp only [Except.ok.injEq, Prod.mk.injEq] at h
        obtain ⟨rfl, rfl⟩ := h
        obtain ⟨q1, q2, q3⟩ := ih _ _ _ _ h1 (tail_all ha)
        obtain ⟨_, q5⟩ := wantP_all h2 q2
        have := wantP_le h2
        simp only [List.tail_cons, List.length_cons] at q3 ⊢
        exact ⟨q1, q5, by omega⟩
      · split at h
        · cases h
        rename_i w r1 h1
        obtain ⟨q1, q2⟩ := takeP_all h1 ha
        have hl := congrArg List.length (takeP_len h1).1
        simp only [List.length_cons] at hl
        split at h
        · split at h
          · cases h
          rename_i k r2 h2
          simp only [Except.ok.injEq, Prod.mk.injEq] at h
          obtain ⟨rfl, rfl⟩ := h
          obtain ⟨q3, q4, q5⟩ := ih _ _ _ _ h2 q2
          exact ⟨⟨q1, q3⟩, q4, by simp only [sizeT]; omega⟩
        · split at h
          · split at h
            · cases h
            rename_i x r2 h2
            simp only [Except.ok.injEq, Prod.mk.injEq] at h
            obtain ⟨rfl, rfl⟩ := h
            obtain ⟨q3, q4⟩ := takeP_all h2 q2
            have := takeP_le h2
            exact ⟨⟨q1, q3⟩, q4, by simp only [sizeT]; omega⟩
          · cases h
    intro h
    match l with
    | 0 => exact fac h
    | 1 => exact chain 0 _ h
    | 2 => exact chain 1 _ h
    | l + 3 => exact fac h
theorem argP_all {e : Nat} {t x : Tok} {r r2 : List Tok} (h : argP e t r = .ok (x, r2)) (ha : Each P r) (hz : P zeroTok) : P x ∧ Each P r2 := by
  unfold argP at h
  split at h
  · simp only [Except.ok.injEq, Prod.mk.injEq] at h
    obtain ⟨rfl, rfl⟩ := h
    exact ⟨hz, ha⟩
  split at h
  · exact takeP_all h ha
  split at h
  · split at h
    · exact takeP_all h ha
    · exact takeP_all h ha
  split at h
  · exact takeP_all h ha
  · cases h
theorem attrP_all {e : Nat} {ts r : List Tok} {a : AttrT} (h : attrP e ts = .ok (a, r)) (ha : Each P ts) (hz : P zeroTok) : (P a.word ∧ P a.arg) ∧ Each P r := by
  unfold attrP at h
  split at h
  · cases h
  rename_i t r1 h1
  split at h
  · cases h
  rename_i x r2 h2
  split at h
  · cases h
  rename_i y r3 h3
  simp only [Except.ok.injEq, Prod.mk.injEq] at h
  obtain ⟨rfl, rfl⟩ := h
  obtain ⟨q1, q2⟩ := takeP_all h1 ha
  obtain ⟨q3, q4⟩ := argP_all h2 q2 hz
  exact ⟨⟨q1, q3⟩, (wantP_all h3 q4).2⟩
theorem placedP_all {e : Nat} {ts r : List Tok} {p : Tok × Tok} (h : placedP e ts = .ok (p, r)) (ha : Each P ts) : (P p.1 ∧ P p.2) ∧ Each P r := by
  unfold placedP at h
  split at h
  · cases h
  rename_i n r1 h1
  split at h
  · cases h
  rename_i y r2 h2
  split at h
  · cases h
  rename_i o r3 h3
  simp only [Except.ok.injEq, Prod.mk.injEq] at h
  obtain ⟨rfl, rfl⟩ := h
  obtain ⟨q1, q2⟩ := takeP_all h1 ha
  obtain ⟨_, q4⟩ := wantP_all h2 q2
  obtain ⟨q5, q6⟩ := takeP_all h3 q4
  exact ⟨⟨q1, q5⟩, q6⟩
theorem attrsP_all {e : Nat} (hz : P zeroTok) : ∀ {k : Nat} {out l : List AttrT} {ts r : List Tok}, attrsP e k out ts = .ok (l, r) → Each P ts → (∀ a, a ∈ out → P a.word ∧ P a.arg) → (∀ a, a ∈ l → P a.word ∧ P a.arg) ∧ Each P r ∧ l.length + r.length ≤ out.length + ts.length
  | 0, _, _, _, _, h => by cases h
  | k + 1, out, l, ts, r, h => by
    intro ha ho
    rw [attrsP] at h
    split at h
    · simp only [Except.ok.injEq, Prod.mk.injEq] at h
      obtain ⟨rfl, rfl⟩ := h
      exact ⟨ho, tail_all ha, by simp⟩
    · obtain ⟨a, r1, h1, h2⟩ := andP_ok h
      obtain ⟨q1, q2⟩ := attrP_all h1 ha hz
      obtain ⟨q3, q4, q5⟩ := attrsP_all hz h2 q2 (fun x hx => by
        rcases List.mem_append.1 hx with hx | hx
        · exact ho x hx
        · obtain rfl := List.mem_singleton.1 hx
          exact q1)
      have := attrP_len h1
      simp only [List.length_append, List.length_singleton] at q5
      exact ⟨q3, q4, by omega⟩
def sizeI (i : ItemT) : Nat := i.attrs.length + (match i.form with
  | none => 0
  | some t => sizeT t)
theorem itemK_all {e : Nat} {w : Tok} {ts r : List Tok} {i : ItemT} (h : itemK e w ts = .ok (i, r)) (hw : P w) (ha : Each P ts) (hz : P zeroTok) : allI P i ∧ Each P r ∧ sizeI i + r.length ≤ ts.length := by
  have hno : ∀ a, a ∈ ([] : List AttrT) → P a.word ∧ P a.arg := fun a h => by cases h
  have hnf : ∀ t, (none : Option Tree) = some t → allT P t := fun t h => by cases h
  unfold itemK at h
  split at h
  · obtain ⟨a1, r1, h1, h⟩ := andP_ok h
    obtain ⟨a2, r2, h2, h⟩ := andP_ok h
    obtain ⟨a3, r3, h3, h⟩ := andP_ok h
    simp only [Except.ok.injEq, Prod.mk.injEq] at h
    obtain ⟨rfl, rfl⟩ := h
    obtain ⟨q1, q2⟩ := takeP_all h1 ha
    obtain ⟨q3, q4⟩ := takeP_all h2 q2
    have := takeP_le h1; have := takeP_le h2; have := wantP_le h3
    exact ⟨⟨hw, q1, hz, hz, q3, hno, hnf⟩, (wantP_all h3 q4).2, by simp only [sizeI, List.length_nil]; omega⟩
  split at h
  · obtain ⟨a1, r1, h1, h⟩ := andP_ok h
    obtain ⟨a2, r2, h2, h⟩ := andP_ok h
    obtain ⟨a3, r3, h3, h⟩ := andP_ok h
    simp only [Except.ok.injEq, Prod.mk.injEq] at h
    obtain ⟨rfl, rfl⟩ := h
    obtain ⟨q1, q2⟩ := placedP_all h1 ha
    obtain ⟨q3, q4⟩ := takeP_all h2 q2
    have := placedP_len h1; have := takeP_le h2; have := wantP_le h3
    exact ⟨⟨hw, q1.1, q1.2, hz, q3, hno, hnf⟩, (wantP_all h3 q4).2, by simp only [sizeI, List.length_nil]; omega⟩
  split at h
  · obtain ⟨a1, r1, h1, h⟩ := andP_ok h
    obtain ⟨a3, r3, h3, h⟩ := andP_ok h
    simp only [Except.ok.injEq, Prod.mk.injEq] at h
    obtain ⟨rfl, rfl⟩ := h
    obtain ⟨q1, q2⟩ := takeP_all h1 ha
    have := takeP_le h1; have := wantP_le h3
    exact ⟨⟨hw, q1, hz, hz, hz, hno, hnf⟩, (wantP_all h3 q2).2, by simp only [sizeI, List.length_nil]; omega⟩
  split at h
  · obtain ⟨a3, r3, h3, h⟩ := andP_ok h
    simp only [Except.ok.injEq, Prod.mk.injEq] at h
    obtain ⟨rfl, rfl⟩ := h
    have := wantP_le h3
    exact ⟨⟨hw, hz, hz, hz, hz, hno, hnf⟩, (wantP_all h3 ha).2, by simp only [sizeI, List.length_nil]; omega⟩
  split at h
  · obtain ⟨a1, r1, h1, h⟩ := andP_ok h
    obtain ⟨a2, r2, h2, h⟩ := andP_ok h
    obtain ⟨a3, r3, h3, h⟩ := andP_ok h
    obtain ⟨a4, r4, h4, h⟩ := andP_ok h
    simp only [Except.ok.injEq, Prod.mk.injEq] at h
    obtain ⟨rfl, rfl⟩ := h
    obtain ⟨q1, q2⟩ := takeP_all h1 ha
    obtain ⟨_, q4⟩ := wantP_all h2 q2
    obtain ⟨q5, q6, q7⟩ := formP_all _ _ _ _ _ _ h3 q4
    have := takeP_le h1; have := wantP_le h2; have := wantP_le h4
    refine ⟨⟨hw, q1, hz, hz, hz, hno, fun t ht => ?_⟩, (wantP_all h4 q6).2, by simp only [sizeI, List.length_nil]; omega⟩
    obtain rfl := Option.some.inj ht
    exact q5
  split at h
  · obtain ⟨a1, r1, h1, h⟩ := andP_ok h
    obtain ⟨a2, r2, h2, h⟩ := andP_ok h
    obtain ⟨a3, r3, h3, h⟩ := andP_ok h
    obtain ⟨a4, r4, h4, h⟩ := andP_ok h
    obtain ⟨a5, r5, h5, h⟩ := andP_ok h
    simp only [Except.ok.injEq, Prod.mk.injEq] at h
    obtain ⟨rfl, rfl⟩ := h
    obtain ⟨q1, q2⟩ := placedP_all h1 ha
    obtain ⟨q3, q4⟩ := takeP_all h2 q2
    obtain ⟨q5, q6⟩ := takeP_all h3 q4
    obtain ⟨_, q7⟩ := wantP_all h4 q6
    obtain ⟨q8, q9, q10⟩ := attrsP_all hz h5 q7 hno
    have := placedP_len h1; have := takeP_le h2; have := takeP_le h3; have := wantP_le h4
    simp only [List.length_nil] at q10
    exact ⟨⟨hw, q1.1, q1.2, q3, q5, q8, hnf⟩, q9, by simp only [sizeI]; omega⟩
  · cases h
theorem itemP_all {e : Nat} {ts r : List Tok} {i : ItemT} (h : itemP e ts = .ok (i, r)) (ha : Each P ts) (hz : P zeroTok) : allI P i ∧ Each P r ∧ sizeI i + r.length < ts.length := by
  unfold itemP at h
  obtain ⟨a1, r1, h1, h⟩ := andP_ok h
  obtain ⟨q1, q2⟩ := takeP_all h1 ha
  obtain ⟨q3, q4, q5⟩ := itemK_all h q1 q2 hz
  have := congrArg List.length (takeP_len h1).1
  simp only [List.length_cons] at this
  exact ⟨q3, q4, by omega⟩
def sizeL : List ItemT → Nat
  | [] => 0
  | i :: l => sizeI i + 1 + sizeL l
theorem sizeL_app (a b : List ItemT) : sizeL (a ++ b) = sizeL a + sizeL b := by
  induction a with
  | nil => simp [sizeL]
  | cons i a ih => simp only [List.cons_append, sizeL, ih]; omega
theorem itemsP_all {e : Nat} (hz : P zeroTok) : ∀ {k : Nat} {out l : List ItemT} {ts : List Tok}, itemsP e k out ts = .ok l → Each P ts → (∀ i, i ∈ out → allI P i) → (∀ i, i ∈ l → allI P i) ∧ sizeL l ≤ sizeL out + ts.length
  | 0, _, _, _, h => by cases h
  | k + 1, out, l, [], h => by
    intro _ ho
    rw [itemsP] at h
    obtain rfl := Except.ok.inj h
    exact ⟨ho, by simp⟩
  | k + 1, out, l, t :: r, h => by
    intro ha ho
    rw [itemsP] at h
    split at h
    · cases h
    · rename_i i r2 h1
      obtain ⟨q1, q2, q3⟩ := itemP_all h1 ha hz
      obtain ⟨q4, q5⟩ := itemsP_all hz h q2 (fun x hx => by
        rcases List.mem_append.1 hx with hx | hx
        · exact ho x hx
        · obtain rfl := List.mem_singleton.1 hx
          exact q1)
      rw [sizeL_app] at q5
      simp only [sizeL] at q5
      exact ⟨q4, by omega⟩
theorem sizeL_mem {l : List ItemT} {i : ItemT} (h : i ∈ l) : sizeI i < sizeL l := by
  induction l with
  | nil => cases h
  | cons j l ih =>
    simp only [sizeL]
    rcases List.mem_cons.1 h with rfl | h
    · omega
    · have := ih h; omega
theorem sizeL_len (l : List ItemT) : l.length ≤ sizeL l := by
  induction l with
  | nil => exact Nat.le_refl _
  | cons j l ih => simp only [sizeL, List.length_cons]; omega
/-- Tokens are few, and lie in the text. -/
theorem tok_text (s : List UInt8) : (tok s).2.1.length ≤ s.length := by
  cases s with
  | nil => simp [tok]
  | cons c r =>
    unfold tok
    simp only
    repeat' split
    all_goals simp
    all_goals omega
theorem toksF_all (n : Nat) : ∀ (k : Nat) (s : List UInt8) (a : Nat) (out : List Tok), s.length ≤ n → out.length ≤ 2000 → (∀ t, t ∈ out → t.text.length ≤ n) → (toksF k s a out).1.length ≤ 2000 ∧ ∀ t, t ∈ (toksF k s a out).1 → t.text.length ≤ n := by
  intro k
  induction k with
  | zero => intro s a out _ ho ht; exact ⟨ho, ht⟩
  | succ k ih =>
    intro s a out hs ho ht
    cases s with
    | nil => rw [toksF_nil]; exact ⟨ho, ht⟩
    | cons c r =>
      by_cases h1 : (tok (c :: r)).2.2.2 = 0
      · by_cases h2 : out.length = 2000
        · rw [toksF_many h1 h2]; simp
        · rw [toksF_more h1 h2]
          refine ih _ _ _ ?_ ?_ ?_
          · simp only [List.length_drop, List.length_cons] at hs ⊢; omega
          · simp; omega
          · intro t hm
            rcases List.mem_append.1 hm with hm | hm
            · exact ht t hm
            · obtain rfl := List.mem_singleton.1 hm
              exact Nat.le_trans (tok_text _) hs
      · rw [toksF_wrong h1]; simp
theorem toks_all (s : List UInt8) : (toks s).1.length ≤ 2000 ∧ ∀ t, t ∈ (toks s).1 → t.text.length ≤ 8000 := by
  unfold toks
  split
  · simp
  · exact toksF_all 8000 _ _ _ _ (by simp; omega) (by simp) (by simp)
/-! ### a description -/
def depthO : Option Tree → Nat
  | none => 0
  | some t => depthT t
def deepL (l : List ItemT) : Bool := l.any fun i => decide (16 < depthO i.form)
/-- What a text is read to: the items, what is wrong, where. -/
def readP (s : List UInt8) : List ItemT × Nat × Nat :=
  if (toks s).2.1 ≠ 0 then ([], (toks s).2.1, (toks s).2.2)
  else match itemsP s.length ((toks s).1.length + 1) [] (toks s).1 with
    | .error a => ([], 4, a)
    | .ok l => if deepL l then ([], 5, 0) else (l, 0, 0)
theorem readP_all (s : List UInt8) : (∀ i, i ∈ (readP s).1 → allI (fun t => t.text.length ≤ 8000) i) ∧ sizeL (readP s).1 ≤ 2000 := by
  unfold readP
  have h0 := toks_all s
  split
  · simp [sizeL]
  split
  · simp [sizeL]
  · rename_i l hl
    have h1 := itemsP_all (P := fun t => t.text.length ≤ 8000) (by simp [zeroTok]) hl h0.2 (fun i h => by cases h)
    split
    · simp [sizeL]
    · refine ⟨h1.1, ?_⟩
      have := h1.2
      simp only [sizeL] at this
      simp only
      omega
/-! ### how it is shown -/
def quotS (t : Tok) : List UInt8 := if t.kind = 3 then 34 :: t.text ++ [34] else t.text
def attrS (a : AttrT) : List UInt8 := if a.arg.kind = 0 then a.word.text else a.word.text ++ 32 :: quotS a.arg
def treeS : Tree → List UInt8
  | .leaf w n => 40 :: w.text ++ (if n.kind = 0 then [] else 32 :: n.text) ++ [41]
  | .un w k => 40 :: w.text ++ 32 :: treeS k ++ [41]
  | .bin w a b => 40 :: w.text ++ 32 :: treeS a ++ 32 :: treeS b ++ [41]
def wordsS (i : ItemT) : List (List UInt8) :=
  if i.word.text = [111, 114, 105, 103, 105, 110] then [[111, 114, 105, 103, 105, 110], i.name.text, quotS i.text]
  else if i.word.text = [99, 111, 111, 107, 105, 101] then [[99, 111, 111, 107, 105, 101], i.name.text, [97, 116], i.of_.text, quotS i.text]
  else if i.word.text = [101, 110, 100, 112, 111, 105, 110, 116] then [[101, 110, 100, 112, 111, 105, 110, 116], i.name.text, [97, 116], i.of_.text, i.caps.text, quotS i.text]
  else if i.word.text = [110, 101, 116, 119, 111, 114, 107] then [[110, 101, 116, 119, 111, 114, 107]]
  else [i.word.text, i.name.text]
def attrsS (l : List AttrT) : List UInt8 := (l.map fun a => 32 :: 40 :: attrS a ++ [41]).flatten
def lineS (i : ItemT) : List UInt8 := Lib.join (wordsS i) [32] ++ attrsS i.attrs ++ (match i.form with
  | none => []
  | some t => 32 :: treeS t) ++ [10]
def dumpS (l : List ItemT) : List UInt8 := (l.map lineS).flatten
theorem treeS_len {t : Tree} (h : allT (fun t => t.text.length ≤ 8000) t) : (treeS t).length ≤ sizeT t * 16010 := by
  induction t with
  | leaf w n =>
    have h1 := h.1; have h2 := h.2
    simp only at h1 h2
    simp only [treeS, sizeT]
    split <;> simp <;> omega
  | un w k ih =>
    have h1 := h.1
    simp only at h1
    have := ih h.2
    simp only [treeS, sizeT, List.length_append, List.length_cons, List.length_nil]
    omega
  | bin w a b iha ihb =>
    have h1 := h.1
    simp only at h1
    have := iha h.2.1
    have := ihb h.2.2
    simp only [treeS, sizeT, List.length_append, List.length_cons, List.length_nil]
    omega
theorem quotS_len {t : Tok} (h : t.text.length ≤ 8000) : (quotS t).length ≤ 8002 := by
  unfold quotS
  split
  · simp; omega
  · omega
theorem attrS_len {a : AttrT} (h : a.word.text.length ≤ 8000 ∧ a.arg.text.length ≤ 8000) : (attrS a).length ≤ 16010 := by
  have := quotS_len h.2
  have := h.1
  unfold attrS
  split
  · omega
  · simp; omega
theorem attrsS_len {l : List AttrT} (h : ∀ a, a ∈ l → a.word.text.length ≤ 8000 ∧ a.arg.text.length ≤ 8000) : (attrsS l).length ≤ l.length * 16020 := by
  induction l with
  | nil => simp [attrsS]
  | cons a l ih =>
    have h1 := attrS_len (h a (List.mem_cons_self ..))
    have h2 := ih fun x hx => h x (List.mem_cons_of_mem _ hx)
    simp only [attrsS, List.map_cons, List.flatten_cons, List.length_append, List.length_cons, List.length_nil] at h2 ⊢
    omega
end Go.Proofs.Ytknkkfdkcemolaa.Vm
end
section
/- Walks: a description is read. -/
set_option linter.unusedSimpArgs false
set_option linter.unusedVariables false
set_option maxRecDepth 100000
set_option maxHeartbeats 4000000
namespace Go.Proofs.Ytknkkfdkcemolaa.Vm
open Go
variable {m : Int}
attribute [local irreducible] wpD opsD thenD blockD planD planA LoopD
attribute [local simp] List.take_of_length_le List.drop_of_length_le bne mvD itemsL_flat

theorem depth_nil : Ans (L m) 32 [.nilptr] (.int .i64 0) := by
  refine fn_of_body L_ok (fn := Try.f32) rfl rfl rfl rfl (by kernel_rfl) ?_
  repeat' (first
    | apply w_seq
    | apply w_region
    | apply o_end
    | apply t_normal
    | (apply o_val; (focus (first | rfl | (apply g_in; rfl; rfl; (focus (simp [*]; done))))); (focus (simp [*]; rfl)))
    | apply w_ret
    | apply t_ret
    | (apply w_true; (focus (simp [*]; done)))
    | fail)
  · apply f_retf
    · simp [*]; rfl
    · simp
    · rfl
theorem depthO_ok (o : Option Tree) (hd : depthO o < 1000000) : Ans (L m) 32 [formO o] (.int .i64 (depthO o)) := by
  cases o with
  | none => exact depth_nil
  | some t => exact depth_ok t hd
theorem deep_yes {l : List ItemT} {i : Nat} (hi : i < l.length) (h : 16 < depthO (l[i]).form) : deepL l = true := by
  unfold deepL
  rw [List.any_eq_true]
  exact ⟨_, List.getElem_mem hi, by simpa using h⟩
theorem deep_no {l : List ItemT} {i : Nat} (hi : l.length ≤ i) (h : deepL (l.take i) = false) : deepL l = false := by
  rwa [List.take_of_length_le hi] at h
theorem deep_more {l : List ItemT} {i : Nat} (hi : i < l.length) (h : deepL (l.take i) = false) (hd : depthO (l[i]).form ≤ 16) : deepL (l.take (i + 1)) = false := by
  unfold deepL at h ⊢
  rw [List.take_succ_eq_append_getElem hi, List.any_append, h]
  simp
  omega
theorem read_toks (s : List UInt8) (hs : s.length < 1000000) (h : (toks s).2.1 ≠ 0) : Ans (L m) 17 [.str s] (.tuple [.nilsl, wrD (toks s).2.1 (toks s).2.2]) := by
  refine fn_of_body L_ok (fn := Try.f17) rfl rfl rfl rfl (by kernel_rfl) ?_
  have a1 := Tokens_ok (m := m) s hs
  generalize toks s = x at a1 h
  obtain ⟨ts, c, a⟩ := x
  simp only at h
  have hb : ((c : Int) == 0) = false := by simp; omega
  simp only [toksD] at a1
  repeat' (first
    | apply w_seq
    | apply w_region
    | apply o_end
    | apply t_normal
    | (apply o_val; (focus (first | rfl | (apply g_in; rfl; rfl; (focus (simp [*]; done))))); (focus (simp [*]; rfl)))
    | (apply o_fn fine; (focus (first | rfl | (apply g_in; rfl; rfl; (focus (simp [*]; done))))); (focus (simp [*]; exact ⟨rfl, rfl⟩)); (focus (exact a1)); (focus (simp [*]; done)))
    | (apply o_mem; (focus (first | rfl | (apply g_in; rfl; rfl; (focus (simp [*]; done))))); rfl; (focus (simp [*]; exact ⟨rfl, rfl⟩)))
    | apply w_ret
    | apply t_ret
    | (apply w_true; (focus (simp [*]; done)))
    | (apply w_drawN; rfl; (focus (decide +kernel)); (focus (simp; rfl)))
    | (apply a_end; (focus (simp; rfl)))
    | (apply a_val; (focus (simp; rfl)); (focus (intro u; first | rfl | (apply g_in; rfl; rfl; (focus (simp [*]; done))))); (focus (intro H' u; simp [*]; rfl)); (focus (simp only [List.nil_append, List.cons_append]; rfl)))
    | (apply a_tie; (focus (simp; rfl)); (focus (intro u; first | rfl | (apply g_in; rfl; rfl; (focus (simp [*]; done))))); (focus (intro u; simp [*]; rfl)); (focus (first | rfl | (simp only [List.all_cons, List.all_nil, List.length_cons, List.length_nil, Nat.zero_add, Nat.reduceAdd, Bool.and_true, Bool.true_and]; done) | (simp only [List.all_cons, List.all_nil, List.length_cons, List.length_nil, Nat.zero_add, Nat.reduceAdd, Bool.and_true, Bool.true_and]; decide +kernel))); (focus (simp only [List.nil_append, List.cons_append]; rfl)); (focus (simp; rfl)))
    | (apply a_mem; (focus (simp; rfl)); (focus (intro u; first | rfl | (apply g_in; rfl; rfl; (focus (simp [*]; done))))); (focus (intro u; rfl)); (focus (intro u; simp [*]; exact ⟨rfl, rfl⟩)); (focus (first | rfl | (simp only [List.all_cons, List.all_nil, List.length_cons, List.length_nil, Nat.zero_add, Nat.reduceAdd, Bool.and_true, Bool.true_and]; done) | (simp only [List.all_cons, List.all_nil, List.length_cons, List.length_nil, Nat.zero_add, Nat.reduceAdd, Bool.and_true, Bool.true_and]; decide +kernel))); (focus (simp only [List.nil_append, List.cons_append]; rfl)); (focus (simp; rfl)))
    | fail)
  · apply f_retf
    · simp [*]; rfl
    · simp
    · rfl
theorem read_items (s : List UInt8) (hs : s.length < 1000000) (h : (toks s).2.1 = 0) : Ans (L m) 17 [.str s] (.tuple [itemsL (readP s).1, wrD (readP s).2.1 (readP s).2.2]) := by
  refine fn_of_body L_ok (fn := Try.f17) rfl rfl rfl rfl (by kernel_rfl) ?_
  have hall := toks_all s
  have a1 := Tokens_ok (m := m) s hs
  unfold readP
  generalize toks s = x at a1 h hall ⊢
  obtain ⟨ts, c, a⟩ := x
  simp only at h hall
  subst h
  simp only [toksD] at a1
  have a2 := items_ok (m := m) s.length ts (by omega)
  cases hI : itemsP s.length (ts.length + 1) [] ts with
  | error a =>
    rw [hI] at a2
    simp only [itemsD] at a2
    repeat' (first
      | apply w_seq
      | apply w_region
      | apply o_end
      | apply t_normal
      | (apply o_val; (focus (first | rfl | (apply g_in; rfl; rfl; (focus (simp [*]; done))))); (focus (simp [*]; rfl)))
      | (apply o_fn fine; (focus (first | rfl | (apply g_in; rfl; rfl; (focus (simp [*]; done))))); (focus (simp [*]; exact ⟨rfl, rfl⟩)); (focus (exact a1)); (focus (simp [*]; done)))
      | (apply o_amidX fine 2; (focus (first | rfl | (apply g_in; rfl; rfl; (focus (simp [*]; done))))); (focus (simp [*]; exact ⟨rfl, rfl⟩)); (focus (exact a2)); (focus (rintro _ ⟨g, rfl⟩; exact ⟨rfl, by simp [Blk.under]⟩)); (focus (simp [rn, rnL]; done)); (focus rfl); (focus rfl); (focus (simp [under_func, under_agg, under_tuple, *]; done)); (rintro _ ⟨g, rfl⟩; simp only [rowH, List.take_succ_cons, List.take_zero, List.cons_append, List.nil_append]))
      | (apply o_mem; (focus (first | rfl | (apply g_in; rfl; rfl; (focus (simp [*]; done))))); rfl; (focus (simp [*]; exact ⟨rfl, rfl⟩)))
      | apply w_skip
      | apply w_ret
      | apply t_ret
      | (apply w_true; (focus (simp [*]; done)))
      | (apply w_false; (focus (simp [*]; done)))
      | (apply w_drawN; rfl; (focus (decide +kernel)); (focus (simp; rfl)))
      | (apply a_end; (focus (simp; rfl)))
      | (apply a_val; (focus (simp; rfl)); (focus (intro u; first | rfl | (apply g_in; rfl; rfl; (focus (simp [*]; done))))); (focus (intro H' u; simp [*]; rfl)); (focus (simp only [List.nil_append, List.cons_append]; rfl)))
      | (apply a_tie; (focus (simp; rfl)); (focus (intro u; first | rfl | (apply g_in; rfl; rfl; (focus (simp [*]; done))))); (focus (intro u; simp [*]; rfl)); (focus (first | rfl | (simp only [List.all_cons, List.all_nil, List.length_cons, List.length_nil, Nat.zero_add, Nat.reduceAdd, Bool.and_true, Bool.true_and]; done) | (simp only [List.all_cons, List.all_nil, List.length_cons, List.length_nil, Nat.zero_add, Nat.reduceAdd, Bool.and_true, Bool.true_and]; decide +kernel))); (focus (simp only [List.nil_append, List.cons_append]; rfl)); (focus (simp; rfl)))
      | (apply a_mem; (focus (simp; rfl)); (focus (intro u; first | rfl | (apply g_in; rfl; rfl; (focus (simp [*]; done))))); (focus (intro u; rfl)); (focus (intro u; simp [*]; exact ⟨rfl, rfl⟩)); (focus (first | rfl | (simp only [List.all_cons, List.all_nil, List.length_cons, List.length_nil, Nat.zero_add, Nat.reduceAdd, Bool.and_true, Bool.true_and]; done) | (simp only [List.all_cons, List.all_nil, List.length_cons, List.length_nil, Nat.zero_add, Nat.reduceAdd, Bool.and_true, Bool.true_and]; decide +kernel))); (focus (simp only [List.nil_append, List.cons_append]; rfl)); (focus (simp; rfl)))
      | fail)
    · apply f_retf
      · simp [*]; rfl
      · simp
      · rfl
  | ok l =>
    rw [hI] at a2
    simp only [itemsD] at a2
    have hal := itemsP_all (P := fun t => t.text.length ≤ 8000) (by simp [zeroTok]) hI hall.2 (fun i h => by cases h)
    have hdp : ∀ i, i ∈ l → depthO i.form < 1000000 := fun i hi => by
      have h1 := sizeL_mem hi
      have h2 := hal.2
      simp only [sizeL] at h2
      unfold depthO
      split
      · omega
      · rename_i t ht
        have h3 := depth_size t
        simp only [sizeI, ht] at h1
        omega
    have hlen : l.length ≤ 2000 := by
      have h1 := sizeL_len l
      have h2 := hal.2
      simp only [sizeL] at h2
      omega
    clear hal hI
    simp only [ne_eq, not_true_eq_false, if_false]
    by_cases hne : l = []
    · subst hne
      simp only [itemsL] at a2
      repeat' (first
        | apply w_seq
        | apply w_region
        | apply o_end
        | apply t_normal
        | (apply o_val; (focus (first | rfl | (apply g_in; rfl; rfl; (focus (simp [*]; done))))); (focus (simp [*]; rfl)))
        | (apply o_fn fine; (focus (first | rfl | (apply g_in; rfl; rfl; (focus (simp [*]; done))))); (focus (simp [*]; exact ⟨rfl, rfl⟩)); (focus (exact a1)); (focus (simp [*]; done)))
        | (apply o_amidX fine 2; (focus (first | rfl | (apply g_in; rfl; rfl; (focus (simp [*]; done))))); (focus (simp [*]; exact ⟨rfl, rfl⟩)); (focus (exact a2)); (focus (rintro _ ⟨g, rfl⟩; exact ⟨rfl, by simp [Blk.under]⟩)); (focus (simp [rn, rnL]; done)); (focus rfl); (focus rfl); (focus (simp [under_func, under_agg, under_tuple, *]; done)); (rintro _ ⟨g, rfl⟩; simp only [rowH, List.take_succ_cons, List.take_zero, List.cons_append, List.nil_append]))
        | (apply o_mem; (focus (first | rfl | (apply g_in; rfl; rfl; (focus (simp [*]; done))))); rfl; (focus (simp [*]; exact ⟨rfl, rfl⟩)))
        | apply w_skip
        | apply w_block
        | (apply w_false; (focus (simp [*]; done)))
        | fail)
      apply loop_is
      apply loop_unfold
      repeat' (first
        | apply w_seq
        | apply w_region
        | apply o_end
        | apply t_normal
        | (apply o_val; (focus (first | rfl | (apply g_in; rfl; rfl; (focus (simp [*]; done))))); (focus (simp [*]; rfl)))
        | apply w_ret
        | apply w_exit
        | apply t_exit
        | apply b_here
        | (apply w_false; (focus (simp [*]; done)))
        | (apply w_drawN; rfl; (focus (decide +kernel)); (focus (simp; rfl)))
        | (apply a_end; (focus (simp; rfl)))
        | (apply a_val; (focus (simp; rfl)); (focus (intro u; first | rfl | (apply g_in; rfl; rfl; (focus (simp [*]; done))))); (focus (intro H' u; simp [*]; rfl)); (focus (simp only [List.nil_append, List.cons_append]; rfl)))
        | (apply a_tie; (focus (simp; rfl)); (focus (intro u; first | rfl | (apply g_in; rfl; rfl; (focus (simp [*]; done))))); (focus (intro u; simp [*]; rfl)); (focus (first | rfl | (simp only [List.all_cons, List.all_nil, List.length_cons, List.length_nil, Nat.zero_add, Nat.reduceAdd, Bool.and_true, Bool.true_and]; done) | (simp only [List.all_cons, List.all_nil, List.length_cons, List.length_nil, Nat.zero_add, Nat.reduceAdd, Bool.and_true, Bool.true_and]; decide +kernel))); (focus (simp only [List.nil_append, List.cons_append]; rfl)); (focus (simp; rfl)))
        | (apply a_mem; (focus (simp; rfl)); (focus (intro u; first | rfl | (apply g_in; rfl; rfl; (focus (simp [*]; done))))); (focus (intro u; rfl)); (focus (intro u; simp [*]; exact ⟨rfl, rfl⟩)); (focus (first | rfl | (simp only [List.all_cons, List.all_nil, List.length_cons, List.length_nil, Nat.zero_add, Nat.reduceAdd, Bool.and_true, Bool.true_and]; done) | (simp only [List.all_cons, List.all_nil, List.length_cons, List.length_nil, Nat.zero_add, Nat.reduceAdd, Bool.and_true, Bool.true_and]; decide +kernel))); (focus (simp only [List.nil_append, List.cons_append]; rfl)); (focus (simp; rfl)))
        | fail)
      · apply f_retf
        · simp [*]; rfl
        · simp
        · rfl
    · have hL := itemsL_some hne
      rw [hL] at a2
      repeat' (first
        | apply w_seq
        | apply w_region
        | apply o_end
        | apply t_normal
        | (apply o_val; (focus (first | rfl | (apply g_in; rfl; rfl; (focus (simp [*]; done))))); (focus (simp [*]; rfl)))
        | (apply o_fn fine; (focus (first | rfl | (apply g_in; rfl; rfl; (focus (simp [*]; done))))); (focus (simp [*]; exact ⟨rfl, rfl⟩)); (focus (exact a1)); (focus (simp [*]; done)))
        | (apply o_amidX fine 2; (focus (first | rfl | (apply g_in; rfl; rfl; (focus (simp [*]; done))))); (focus (simp [*]; exact ⟨rfl, rfl⟩)); (focus (exact a2)); (focus (rintro _ ⟨g, rfl⟩; exact ⟨rfl, by simp [Blk.under]⟩)); (focus (simp [rn, rnL]; done)); (focus rfl); (focus rfl); (focus (simp [under_func, under_agg, under_tuple, *]; done)); (rintro _ ⟨g, rfl⟩; simp only [rowH, List.take_succ_cons, List.take_zero, List.cons_append, List.nil_append]))
        | (apply o_mem; (focus (first | rfl | (apply g_in; rfl; rfl; (focus (simp [*]; done))))); rfl; (focus (simp [*]; exact ⟨rfl, rfl⟩)))
        | apply w_skip
        | apply w_block
        | (apply w_false; (focus (simp [*]; done)))
        | fail)
      clear a1 a2
      refine w_loopT (fun n f H => ∃ (i : Nat), i ≤ l.length ∧ n = l.length - i ∧ deepL (l.take i) = false ∧ H = [.cells 0 2 false [[.int .i64 0, .int .i64 0]], .cells 0 2 false [[.int .i64 0, .int .i64 0]], .gone g] ∧ f 3 = .ref 0 0 0 0 ∧ f 5 = .ref 1 0 0 0 ∧ f 7 = .isl 17 (l.map itemC) ∧ f 33 = .isl 17 (l.map itemC) ∧ f 34 = .int .i64 l.length ∧ f 35 = .int .i64 i) l.length ⟨0, by simp, by simp, rfl, by simp, by simp, by simp, by simp, by simp, by simp, by simp⟩ ?_
      rintro n f H ⟨i, hi, rfl, hp, rfl, g3, g5, g7, g33, g34, g35⟩
      repeat' (first
        | apply w_seq
        | apply w_region
        | apply o_end
        | apply t_normal
        | (apply o_add; (focus (first | rfl | (apply g_in; rfl; rfl; (focus (simp [*]; done))))); (focus (simp [*]; rfl)); rfl; (focus (simp [*]; rfl)); rfl; (focus (apply wrap_i64 <;> omega)))
        | (apply o_val; (focus (first | rfl | (apply g_in; rfl; rfl; (focus (simp [*]; done))))); (focus (simp [*]; rfl)))
        | (apply o_fn fine; (focus (first | rfl | (apply g_in; rfl; rfl; (focus (simp [*]; done))))); (focus (simp [*]; exact ⟨rfl, rfl⟩)); (focus (exact depthO_ok _ (hdp _ (List.getElem_mem _)))); (focus (simp [*]; done)))
        | (apply o_mem; (focus (first | rfl | (apply g_in; rfl; rfl; (focus (simp [*]; done))))); rfl; (focus (simp [*]; exact ⟨rfl, rfl⟩)))
        | apply w_skip
        | apply w_block
        | apply b_normal
        | apply w_ret
        | apply t_ret
        | apply b_ret
        | apply w_exit
        | apply t_exit
        | apply b_here
        | ((apply w_cond; (focus (simp [*]; rfl)); rfl) <;> (intro hc; have hc' := hc; try simp at hc'))
        | (apply w_drawN; rfl; (focus (decide +kernel)); (focus (simp; rfl)))
        | (apply a_end; (focus (simp; rfl)))
        | (apply a_val; (focus (simp; rfl)); (focus (intro u; first | rfl | (apply g_in; rfl; rfl; (focus (simp [*]; done))))); (focus (intro H' u; simp [*]; rfl)); (focus (simp only [List.nil_append, List.cons_append]; rfl)))
        | (apply a_tie; (focus (simp; rfl)); (focus (intro u; first | rfl | (apply g_in; rfl; rfl; (focus (simp [*]; done))))); (focus (intro u; simp [*]; rfl)); (focus (first | rfl | (simp only [List.all_cons, List.all_nil, List.length_cons, List.length_nil, Nat.zero_add, Nat.reduceAdd, Bool.and_true, Bool.true_and]; done) | (simp only [List.all_cons, List.all_nil, List.length_cons, List.length_nil, Nat.zero_add, Nat.reduceAdd, Bool.and_true, Bool.true_and]; decide +kernel))); (focus (simp only [List.nil_append, List.cons_append]; rfl)); (focus (simp; rfl)))
        | (apply a_mem; (focus (simp; rfl)); (focus (intro u; first | rfl | (apply g_in; rfl; rfl; (focus (simp [*]; done))))); (focus (intro u; rfl)); (focus (intro u; simp [*]; exact ⟨rfl, rfl⟩)); (focus (first | rfl | (simp only [List.all_cons, List.all_nil, List.length_cons, List.length_nil, Nat.zero_add, Nat.reduceAdd, Bool.and_true, Bool.true_and]; done) | (simp only [List.all_cons, List.all_nil, List.length_cons, List.length_nil, Nat.zero_add, Nat.reduceAdd, Bool.and_true, Bool.true_and]; decide +kernel))); (focus (simp only [List.nil_append, List.cons_append]; rfl)); (focus (simp; rfl)))
        | fail)
      · apply f_retf
        · simp [*]; rfl
        · simp
        · rw [deep_yes (by assumption) (by omega)]; rfl
      · refine ⟨l.length - (i + 1), by omega, [.cells 0 2 false [[.int .i64 0, .int .i64 0]], .cells 0 2 false [[.int .i64 0, .int .i64 0]], .gone g], 3, [(3, .ref 0 0 0 0), (5, .ref 1 0 0 0), (7, .isl 17 (l.map itemC)), (33, .isl 17 (l.map itemC)), (34, .int .i64 l.length), (35, .int .i64 ((i + 1 : Nat) : Int))],
          by simp, rfl, by simp, ?_, ?_, i + 1, by omega, rfl, deep_more (by assumption) hp (by omega), rfl, by simp [lookF], by simp [lookF], by simp [lookF], by simp [lookF], by simp [lookF], by simp [lookF]⟩
        · intro b hb
          simp only [List.mem_cons, List.not_mem_nil, or_false] at hb
          rcases hb with rfl | rfl | rfl
          all_goals simp [Blk.under]
        · intro p hp
          simp only [List.mem_cons, List.not_mem_nil, or_false] at hp
          rcases hp with rfl | rfl | rfl | rfl | rfl | rfl
          all_goals exact .inl ⟨by simp [*], by simp⟩
      · apply f_retf
        · simp [*]; rfl
        · simp [itemsL_flat]
        · rw [deep_no (by assumption) hp]; simp [hL]
theorem Read_ok (s : List UInt8) (hs : s.length < 1000000) : Ans (L m) 17 [.str s] (.tuple [itemsL (readP s).1, wrD (readP s).2.1 (readP s).2.2]) := by
  by_cases h : (toks s).2.1 = 0
  · exact read_items s hs h
  · have := read_toks (m := m) s hs h
    unfold readP
    rw [if_pos h]
    exact this
end Go.Proofs.Ytknkkfdkcemolaa.Vm
end
section
/- A strings.Builder's methods, with all that they turn. -/
set_option linter.unusedVariables false
set_option linter.unusedSimpArgs false
namespace Go.Proofs.Ytknkkfdkcemolaa.Vm
open Go Go.RowKit Go.Shelf

set_option maxHeartbeats 1000000 in
set_option maxRecDepth 100000 in
theorem copyCheck_used (b : Nat) (w : World) (h0 : w.cell? ⟨b, 0, none⟩ = some (.pointer (some ⟨b, 0, none⟩))) :
    Calls Try.prog 33 #[.pointer (some ⟨b, 0, none⟩)] w fun e w' => e = .returned (.tuple #[]) ∧ w' = w := by
  obtain ⟨j, hj, _⟩ := Option.map_eq_some_iff.1 Try.Builder_Extra_169.sizeBuilder
  have mixed := Try.lays169.mixed
  have t57 := Try.underlying57; have a57 := Try.isAgg57; have z57 := Try.sizeOf57; have v57 := Try.zeroValue57; have u57 := run_underlying Try.underlying57
  have t55 := Try.underlying55; have a55 := Try.isAgg55; have z55 := Try.sizeOf55; have v55 := Try.zeroValue55; have u55 := run_underlying Try.underlying55
  have t110 := Try.underlying110; have a110 := Try.isAgg110; have z110 := Try.sizeOf110; have v110 := Try.zeroValue110; have u110 := run_underlying Try.underlying110
  go_enter Try.func33, Try.ntmps33
  go_wp2
  rw [Lib.run_neq_ptr_same w _ t55 hj]
  go_wp2
  go_end0
  exact ⟨rfl, rfl⟩

set_option maxHeartbeats 1000000 in
set_option maxRecDepth 100000 in
theorem copyCheck_fresh (b : Nat) (w : World) (h0 : w.cell? ⟨b, 0, none⟩ = some (.pointer none)) (hsh : w.shape? b = some (57, 2)) (hfz : w.frozen? ⟨b, 0, none⟩ = false) :
    Calls Try.prog 33 #[.pointer (some ⟨b, 0, none⟩)] w fun e w' => e = .returned (.tuple #[]) ∧ w' = w.setCell ⟨b, 0, none⟩ (.pointer (some ⟨b, 0, none⟩)) := by
  obtain ⟨j, hj, hjs⟩ := Option.map_eq_some_iff.1 Try.Builder_Extra_169.sizeBuilder
  have mixed := Try.lays169.mixed
  have t57 := Try.underlying57; have a57 := Try.isAgg57; have z57 := Try.sizeOf57; have v57 := Try.zeroValue57; have u57 := run_underlying Try.underlying57
  have t55 := Try.underlying55; have a55 := Try.isAgg55; have z55 := Try.sizeOf55; have v55 := Try.zeroValue55; have u55 := run_underlying Try.underlying55
  have t110 := Try.underlying110; have a110 := Try.isAgg110; have z110 := Try.sizeOf110; have v110 := Try.zeroValue110; have u110 := run_underlying Try.underlying110
  go_enter Try.func33, Try.ntmps33
  go_wp2
  rw [Lib.run_to_unsafe w ⟨b, 0, none⟩ t55 t110 hj (by rw [hjs]; decide) hsh (Nat.zero_lt_succ 1)]
  simp only [Result.andThen]
  rw [Oper.upon_value]
  go_wp2
  rw [run_callFunc_extern Try.func49 (by kernel_rfl) (by kernel_rfl) (by kernel_rfl) (e := Extern.AbiNoEscape.same) (by kernel_rfl)]
  rw [Lib.run_noEscape]
  simp only [Result.andThen]
  rw [Oper.upon_value]
  go_wp2
  rw [Lib.run_from_unsafe w ⟨b, 0, none⟩ t110 t55 hj hsh Try.Builder_Extra_169.liesBuilder]
  simp only [Result.andThen]
  rw [Oper.upon_value]
  go_wp2
  go_end0
  exact ⟨rfl, rfl⟩

/-- Where an append to a builder's bytes lays them: where they lay, or in a new block. -/
theorem append_bld {P : Program} {w : World} (t u ty e : TypeId) (i : TypeInfo) (ht : P.underlying t = some (.slice e)) (hu : P.underlying u = some .string) (hi : P.info? e = some i) (hz : i.zero = some (.int .u8 0))
    (hsize : i.size = 1) (hby : i.bytes = 1) (v : Value) (n : Nat) (xs : List Value) (hown : w.ownsRow 0 e 1 v n xs) (s : ByteArray) (hbytes : n + s.size ≤ 140737488355328) :
    ∃ v' w', (Builtin.append_ #[t, u] ty #[v, .string s]).run P w = .ok v' w' ∧ w'.ownsRow 0 e 1 v' (n + s.size) (xs ++ Lib.strCells s) ∧ w.grownBy w' v.ownBlock ∧
      (v' = .slice none 0 0 ↔ v = .slice none 0 0 ∧ s.size = 0) ∧ ∀ g, v'.ownBlock = some g → v.ownBlock = some g ∨ w.heap.size ≤ g := by
  have h63 : n + s.size ≤ maxLen := by unfold maxLen; omega
  obtain ⟨v', w', hr, h2, h3, h4⟩ := Lib.run_append_own_string (P := P) w 0 t u ty e i ht hu hi hz hsize hby v n xs hown s h63 hbytes (Nat.zero_le _)
  refine ⟨v', w', hr, h2, h3, h4, ?_⟩
  have hxl : xs.length = n := by simpa using hown.1
  rcases hown.2 with ⟨rfl, rfl⟩ | ⟨g, cap, cur, rfl, hbg, hg, hnc, hcm, hcs, htake⟩
  · by_cases hm : s.size = 0
    · rw [h4.2 ⟨rfl, hm⟩]
      intro g hg
      simp [Value.ownBlock] at hg
    · have hr' := run_append_nil_string (P := P) w t u ty e i (.int .u8 0) ht hu hi hz s (by omega) (by omega) (by rw [hby]; omega)
      rw [hr] at hr'
      injection hr' with e1 e2
      subst e1
      intro g hg
      simp only [Value.ownBlock, Option.some.injEq] at hg
      subst hg
      exact .inr (Nat.le_refl _)
  · by_cases hroom : n + s.size ≤ cap
    · have hcs' : cur.size = cap := by simpa using hcs
      have hr' := Lib.run_append_room_string (P := P) w t u ty e i ht hu hi hsize g n cap cur hg s hroom (by omega)
      rw [hr] at hr'
      injection hr' with e1 e2
      subst e1
      exact fun _ h => .inl h
    · have holds : ∀ j u, xs[j]? = some u → w.cell? ((⟨g, 0, none⟩ : Addr).add j) = some u := hown.cells (g := g) rfl
      have hr' := Lib.run_append_grow_string (P := P) w t u ty e i (.int .u8 0) ht hu hi hz ⟨g, 0, none⟩ n cap xs (by rw [hsize]; simpa using hxl) holds s (by omega) (by omega) (by rw [hby]; exact growslice_fits (by omega) (by omega))
      rw [hr] at hr'
      injection hr' with e1 e2
      subst e1
      intro g hg
      simp only [Value.ownBlock, Option.some.injEq] at hg
      subst hg
      exact .inr (Nat.le_refl _)
theorem wpList_append_bld {P : Program} {w : World} {ops : Array Oper} {rest : List Oper} {o : Oper} {a : Act} {Q : Exit → Act → World → Prop} (hgd : o.guard = none) (sl x : Operand) (t u : TypeId)
    (ho : o.op = .call { callee := .builtin .append, args := #[sl, x], argTypes := #[t, u] })
    (e : TypeId) (i : TypeInfo) (ht : P.underlying t = some (.slice e)) (hu : P.underlying u = some .string) (hi : P.info? e = some i) (hz : i.zero = some (.int .u8 0))
    (hsize : i.size = 1) (hby : i.bytes = 1)
    (v : Value) (n : Nat) (xs : List Value) (hs : a.eval sl = v) (hown : w.ownsRow 0 e 1 v n xs) (s : ByteArray) (hx : a.eval x = .string s) (hbytes : n + s.size ≤ 140737488355328)
    (h : ∀ v' w', w'.ownsRow 0 e 1 v' (n + s.size) (xs ++ Lib.strCells s) → w.grownBy w' v.ownBlock → (v' = .slice none 0 0 ↔ v = .slice none 0 0 ∧ s.size = 0) → (∀ g, v'.ownBlock = some g → v.ownBlock = some g ∨ w.heap.size ≤ g) → wpList P ops Q rest (a.put o.dst v') w') : wpList P ops Q (o :: rest) a w := by
  refine wpList_plain hgd fun K hK => ?_
  obtain ⟨v', w', hr, h2, h3, h4, h5⟩ := append_bld (P := P) (w := w) t u o.type e i ht hu hi hz hsize hby v n xs hown s hbytes
  unfold Oper.wp execOp
  simp only [ho, resolve, invoke, builtin, Sem.run_bind, Sem.run_pure, Result.andThen_ok, List.map_toArray, List.map_cons, List.map_nil, hs, hx, hr]
  exact hK _ _ (h v' w' h2 h3 h4 h5)
/-- From w to w' nothing turned but these blocks, and what is new. -/
structure But (w w' : World) (x y : Nat) : Prop where
  os : w'.os = w.os
  tape : w'.tape = w.tape
  output : w'.output = w.output
  size : w.heap.size ≤ w'.heap.size
  block : ∀ k, k < w.heap.size → k ≠ x → k ≠ y → w'.heap[k]? = w.heap[k]?
theorem setCell_heap {w : World} {b o : Nat} {v : Value} {k : Nat} (h : k ≠ b) : (w.setCell ⟨b, o, none⟩ v).heap[k]? = w.heap[k]? := by
  simp [World.setCell, Array.getElem?_modify, Ne.symm h]
theorem copyCheck_run {m : Nat × Nat} {w : World} {p v : Value} (hp : p = Value.pointer none ∨ p = Value.pointer (some ⟨m.1, 0, none⟩)) (hb : w.heap[m.1]? = some (.cells #[p, v] 57 (0, 0))) :
    Calls Try.prog 33 #[.pointer (some ⟨m.1, 0, none⟩)] w fun e w' => e = .returned (.tuple #[]) ∧ w'.heap[m.1]? = some (.cells #[.pointer (some ⟨m.1, 0, none⟩), v] 57 (0, 0)) ∧ w'.heap.size = w.heap.size ∧ But w w' m.1 m.1 := by
  rcases hp with rfl | rfl
  · refine (copyCheck_fresh m.1 w (by rw [Lib.cell_of_heap hb]; rfl) (by simp [World.shape?, hb]) (Lib.frozen_of_heap hb 0)).mono ?_
    rintro e w' ⟨rfl, rfl⟩
    refine ⟨rfl, ?_, by simp [World.setCell], ⟨rfl, rfl, rfl, by simp [World.setCell], fun k _ hk _ => setCell_heap hk⟩⟩
    simp [World.setCell, Array.getElem?_modify, hb]
  · refine (copyCheck_used m.1 w (by rw [Lib.cell_of_heap hb]; rfl)).mono ?_
    rintro e w' ⟨rfl, rfl⟩
    exact ⟨rfl, hb, rfl, ⟨rfl, rfl, rfl, Nat.le_refl _, fun _ _ _ _ => rfl⟩⟩

set_option maxHeartbeats 4000000 in
set_option maxRecDepth 100000 in
theorem writeString_run {m : Nat × Nat} {w : World} {l : List UInt8} (s : ByteArray) (h : BldOk w m 57 5 l) (hlen : l.length + s.size ≤ 140737488355328) :
    Calls Try.prog 18 #[.pointer (some ⟨m.1, 0, none⟩), .string s] w fun e w' => e = .returned (.tuple #[.int .i64 s.size, .nilIface]) ∧
      ∃ m2, BldOk w' (m.1, m2) 57 5 (l ++ s.data.toList) ∧ (m2 = m.1 ∨ m2 = m.2 ∨ w.heap.size ≤ m2) ∧ But w w' m.1 m.2 := by
  obtain ⟨p, v, hp, hb, hown, hne, hm2, hz0⟩ := h
  have hlt := (Array.getElem?_eq_some_iff.1 hb).1
  obtain ⟨i0, hi, hz, hz1, hz2⟩ := info_parts Try.Builder_Extra_169.infoByte
  have mixed := Try.lays169.mixed
  have t57 := Try.underlying57; have a57 := Try.isAgg57; have z57 := Try.sizeOf57; have v57 := Try.zeroValue57; have u57 := run_underlying Try.underlying57
  have t55 := Try.underlying55; have a55 := Try.isAgg55; have z55 := Try.sizeOf55; have v55 := Try.zeroValue55; have u55 := run_underlying Try.underlying55
  have t47 := Try.underlying47; have a47 := Try.isAgg47; have z47 := Try.sizeOf47; have v47 := Try.zeroValue47; have u47 := run_underlying Try.underlying47
  have t3 := Try.underlying3; have a3 := Try.isAgg3; have z3 := Try.sizeOf3; have v3 := Try.zeroValue3; have u3 := run_underlying Try.underlying3
  have t9 := Try.underlying9; have a9 := Try.isAgg9; have z9 := Try.sizeOf9; have v9 := Try.zeroValue9; have u9 := run_underlying Try.underlying9
  have t5 := Try.underlying5; have a5 := Try.isAgg5; have z5 := Try.sizeOf5; have v5 := Try.zeroValue5; have u5 := run_underlying Try.underlying5
  have ecc : ∀ args w, (callFunc 33 args).run Try.prog w = .ok (.enter 33 args) w := enters_of Try.func33 (by kernel_rfl) rfl
  go_enter Try.func18, Try.ntmps18
  go_wp2_with (go_at_fn 33; refine (copyCheck_run (m := m) hp hb).mono ?_)
  rintro e w1 ⟨rfl, hbk, hs1, hbut⟩
  have hown1 : w1.ownsRow 0 5 1 v l.length (Lib.byteCells l) := by
    refine ⟨hown.1, ?_⟩
    rcases hown.2 with h8 | ⟨g, cap, cur, rfl, hbg, hg, rest⟩
    · exact .inl h8
    · refine .inr ⟨g, cap, cur, rfl, hbg, ?_, rest⟩
      have hgm : g ≠ m.1 := fun he => hne (by simp [Value.ownBlock, he])
      rw [hbut.block g (Array.getElem?_eq_some_iff.1 hg).1 hgm hgm]
      exact hg
  have c0 : w1.cell? ⟨m.1, 0, none⟩ = some (.pointer (some ⟨m.1, 0, none⟩)) := by rw [Lib.cell_of_heap hbk]; rfl
  have c1 : w1.cell? ⟨m.1, 1, none⟩ = some v := by rw [Lib.cell_of_heap hbk]; rfl
  go_wp2_with (at_builtin; refine wpList_append_bld rfl _ _ 47 9 rfl 5 i0 t47 t9 hi hz hz1 hz2 _ _ _ rfl hown1 s rfl hlen ?_)
  intro v' w2 hown' hgrow hnil hplace
  have hb2 : w2.heap[m.1]? = some (.cells #[.pointer (some ⟨m.1, 0, none⟩), v] 57 (0, 0)) := by
    rw [hgrow.block m.1 (by omega) (fun e => hne e.symm)]
    exact hbk
  have d0 : w2.cell? ⟨m.1, 0, none⟩ = some (.pointer (some ⟨m.1, 0, none⟩)) := by rw [Lib.cell_of_heap hb2]; rfl
  have d1 : w2.cell? ⟨m.1, 1, none⟩ = some v := by rw [Lib.cell_of_heap hb2]; rfl
  have f1 : w2.frozen? ⟨m.1, 1, none⟩ = false := Lib.frozen_of_heap hb2 1
  obtain ⟨ao, n', cap, rfl⟩ : ∃ ao n' cap, v' = .slice ao n' cap := by
    rcases hown'.2 with ⟨hv, _⟩ | ⟨g, cap, cur, hv, _⟩
    · exact ⟨_, _, _, hv⟩
    · exact ⟨_, _, _, hv⟩
  go_wp2
  go_ret2
  have hlt1 : m.1 < w1.heap.size := by omega
  have hown2 : w2.ownsRow 0 5 1 (.slice ao n' cap) (l ++ s.data.toList).length (Lib.byteCells (l ++ s.data.toList)) := by
    rw [Lib.byteCells_append, ← Lib.strCells_eq]
    simpa using hown'
  have hne2 : (Value.slice ao n' cap).ownBlock ≠ some m.1 := Lib.ownBlock_ne hown2 hb2 (by decide)
  refine ⟨rfl, ((Value.slice ao n' cap).ownBlock).getD m.1, ⟨_, _, .inr rfl, ?_, ?_, hne2, ?_, ?_⟩, ?_, ?_⟩
  · simp [World.setCell, Array.getElem?_modify, hb2]
  · exact hown2.kept (row := some m.1) ⟨rfl, rfl, rfl, by simp [World.setCell], fun k _ hk => setCell_heap (fun e => hk (by rw [e]))⟩ (.inr hne2)
  · cases hq : (Value.slice ao n' cap).ownBlock with
    | none => exact .inr ⟨rfl, rfl⟩
    | some g => exact .inl rfl
  · intro h0
    have h1 : l = [] ∧ s.data.toList = [] := List.append_eq_nil_iff.1 h0
    refine hnil.2 ⟨hz0 h1.1, ?_⟩
    have := congrArg List.length h1.2
    simpa using this
  · cases hq : (Value.slice ao n' cap).ownBlock with
    | none => exact .inl rfl
    | some g =>
      rcases hplace g hq with h1 | h1
      · rcases hm2 with h2 | ⟨h2, _⟩
        · rw [h2] at h1
          obtain rfl := Option.some.inj h1
          exact .inr (.inl rfl)
        · rw [h2] at h1
          cases h1
      · exact .inr (.inr (by simpa using (by omega : w.heap.size ≤ g)))
  · refine ⟨hgrow.os.trans hbut.os, hgrow.tape.trans hbut.tape, hgrow.output.trans hbut.output, by have := hgrow.size; simp [World.setCell]; omega, fun k hk h1 h2 => ?_⟩
    rw [setCell_heap h1, hgrow.block k (by omega) (fun he => ?_), hbut.block k hk h1 h1]
    rcases hm2 with h3 | ⟨h3, _⟩
    · rw [h3] at he
      exact h2 (Option.some.inj he)
    · rw [h3] at he
      cases he
end Go.Proofs.Ytknkkfdkcemolaa.Vm
end
section
/- A strings.Builder's methods as contracts: it is a place of the small heap that holds bytes. -/
set_option linter.unusedVariables false
set_option linter.unusedSimpArgs false
namespace Go.Proofs.Ytknkkfdkcemolaa.Vm
open Go Go.RowKit Go.Shelf
variable {mx : Int}

set_option maxHeartbeats 2000000 in
set_option maxRecDepth 100000 in
theorem string_run {m : Nat × Nat} {w : World} {l : List UInt8} (h : BldOk w m 57 5 l) :
    Calls Try.prog 23 #[.pointer (some ⟨m.1, 0, none⟩)] w fun e w' => e = .returned (.string ⟨l.toArray⟩) ∧ But w w' m.1 m.2 := by
  obtain ⟨p, v, hp, hb, hown, hne, hm2, hz0⟩ := h
  have mixed := Try.lays169.mixed
  have t57 := Try.underlying57; have a57 := Try.isAgg57; have z57 := Try.sizeOf57; have v57 := Try.zeroValue57; have u57 := run_underlying Try.underlying57
  have t55 := Try.underlying55; have a55 := Try.isAgg55; have z55 := Try.sizeOf55; have v55 := Try.zeroValue55; have u55 := run_underlying Try.underlying55
  have t47 := Try.underlying47; have a47 := Try.isAgg47; have z47 := Try.sizeOf47; have v47 := Try.zeroValue47; have u47 := run_underlying Try.underlying47
  have t94 := Try.underlying94; have a94 := Try.isAgg94; have z94 := Try.sizeOf94; have v94 := Try.zeroValue94; have u94 := run_underlying Try.underlying94
  have t3 := Try.underlying3; have a3 := Try.isAgg3; have z3 := Try.sizeOf3; have v3 := Try.zeroValue3; have u3 := run_underlying Try.underlying3
  have t9 := Try.underlying9; have a9 := Try.isAgg9; have z9 := Try.sizeOf9; have v9 := Try.zeroValue9; have u9 := run_underlying Try.underlying9
  have t5 := Try.underlying5; have a5 := Try.isAgg5; have z5 := Try.sizeOf5; have v5 := Try.zeroValue5; have u5 := run_underlying Try.underlying5
  by_cases h0 : l = []
  · obtain rfl := hz0 h0
    subst h0
    have hUS : ∀ (W : World) (q : Option Addr), (Builtin.unsafeString_ #[94, 3] 9 #[.pointer q, .int .i64 0]).run Try.prog W = .ok (.string .empty) W := fun W q => Lib.run_unsafeString_none W _ _ _ q
    have c1 : w.drew.cell? ⟨m.1, 1, none⟩ = some (.slice none 0 0) := by
      have : w.drew.heap[m.1]? = some (.cells #[p, .slice none 0 0] 57 (0, 0)) := hb
      rw [Lib.cell_of_heap this]; rfl
    have hSD : (Builtin.unsafeSliceData_ #[47] 94 #[.slice none 0 0]).run Try.prog w.drew = .ok (.pointer none) w.drew := rfl
    clear hp hne hm2 hown
    go_enter Try.func23, Try.ntmps23
    go_wp2
    go_region_o
    all_goals (go_wp2; go_ret; exact ⟨rfl, ⟨rfl, rfl, rfl, Nat.le_refl _, fun _ _ _ _ => rfl⟩⟩)
  · have hl0 : l.length ≠ 0 := by simpa using h0
    obtain ⟨g, cap, cur, rfl, hbg, hg, hnc, hcm, hcs, htake⟩ : ∃ g cap cur, v = .slice (some ⟨g, 0, none⟩) l.length cap ∧ 0 ≤ g ∧ w.heap[g]? = some (.cells cur 5 (0, 0)) ∧ l.length ≤ cap ∧ cap ≤ maxLen ∧ cur.size = cap * 1 ∧ cur.toList.take (l.length * 1) = Lib.byteCells l := by
      rcases hown.2 with ⟨_, hz⟩ | ⟨g, cap, cur, hv, r⟩
      · exact absurd hz hl0
      · exact ⟨g, cap, cur, hv, r⟩
    have hgm : g = m.2 := by
      rcases hm2 with h1 | ⟨h1, _⟩
      · simpa [Value.ownBlock] using h1
      · simp [Value.ownBlock] at h1
    have c1 : w.drew.cell? ⟨m.1, 1, none⟩ = some (.slice (some ⟨g, 0, none⟩) l.length cap) := by
      have : w.drew.heap[m.1]? = some (.cells #[p, .slice (some ⟨g, 0, none⟩) l.length cap] 57 (0, 0)) := hb
      rw [Lib.cell_of_heap this]; rfl
    have hSD : (Builtin.unsafeSliceData_ #[47] 94 #[.slice (some ⟨g, 0, none⟩) l.length cap]).run Try.prog w.drew = .ok (.pointer (some ⟨g, 0, none⟩)) w.drew :=
      Lib.run_unsafeSliceData_row _ _ _ _ _ _ (by omega)
    have hUS : (Builtin.unsafeString_ #[94, 3] 9 #[.pointer (some ⟨g, 0, none⟩), .int .i64 l.length]).run Try.prog w.drew = .ok (.string ⟨l.toArray⟩) (w.drew.freeze ⟨g, 0, none⟩ l.length) := by
      refine Lib.run_unsafeString_row w.drew 94 3 9 5 t94 (by kernel_rfl) g cur.size (by have hg' : w.drew.heap[g]? = some (.cells cur 5 (0, 0)) := hg; simp [World.shape?, hg']) l h0 (by omega) (by unfold maxLen at hcm; omega) ?_
      intro j x hx
      have := hown.cells (g := g) rfl j (.int .u8 x.toNat) (by simp [Lib.byteCells, hx])
      exact this
    clear hp hne hm2
    have hfr : But w (w.drew.freeze ⟨g, 0, none⟩ l.length) m.1 m.2 := by
      have h1 := Lib.below_freeze (Below.drew (Below.refl g w)) (p := ⟨g, 0, none⟩) (Nat.le_refl g) l.length
      refine ⟨h1.os, h1.tape, h1.output, h1.size, fun k hk _ hk2 => ?_⟩
      unfold World.freeze
      split
      · rfl
      · simp only [Array.getElem?_modify]
        rw [if_neg (by rw [hgm]; exact Ne.symm hk2)]
        rfl
    clear hgm
    go_enter Try.func23, Try.ntmps23
    go_wp2
    go_region_o
    all_goals (go_wp2; go_ret; exact ⟨rfl, hfr⟩)

/-- A place that holds a strings.Builder with these bytes. -/
abbrev bld (l : List UInt8) : Blk := .map 0 false [(.int .i64 1, .tuple [.int .i64 57, .int .i64 5, .str l])]
theorem bld_ok {c : Cx} (inv : Inv c) {r : Nat} {l : List UInt8} (h : c.hp[r]? = some (bld l)) : BldOk c.w (c.mu r) 57 5 l := (inv.blk r _ h).1
theorem put_bld {c : Cx} (inv : Inv c) {r : Nat} {l l' : List UInt8} (h : c.hp[r]? = some (bld l)) {w' : World} {m2 : Nat} (hb : BldOk w' ((c.mu r).1, m2) 57 5 l')
    (hm : m2 = (c.mu r).1 ∨ m2 = (c.mu r).2 ∨ c.w.heap.size ≤ m2) (hbut : But c.w w' (c.mu r).1 (c.mu r).2) : Inv (c.put r (bld l') ((c.mu r).1, m2) w') ∧ Le c (c.put r (bld l') ((c.mu r).1, m2) w') := by
  refine put_ok inv h rfl hbut.os hbut.tape hbut.output hbut.size (fun b hb hne => hbut.block b hb (fun he => hne rfl (.inl he.symm)) (fun he => hne rfl (.inr he.symm))) (fun b _ hat => ?_) (Nat.le_refl _) ⟨fun g sz ro xs he => (by cases he), fun g ro es he _ => ?_⟩ (fun le => ?_)
  · rcases hat with hat | hat
    · exact .inl ⟨rfl, .inl hat⟩
    · have hat' : m2 = b := hat
      subst hat'
      rcases hm with h1 | h1 | h1
      · exact .inl ⟨rfl, .inl h1.symm⟩
      · exact .inl ⟨rfl, .inr h1.symm⟩
      · exact .inr h1
  · cases he
    exact ⟨_, _, rfl, rfl, rfl⟩
  · have h0 := (inv.blk r _ h).2.2 rfl
    refine ⟨?_, (fun h => nomatch h), fun _ => ?_⟩
    · simp only [Cx.put, upd_same]
      exact hb
    · simp only [Cx.put, upd_same]
      refine ⟨h0.1, fun hi => ?_⟩
      rcases hm with h1 | h1 | h1
      · exact h0.1 (h1 ▸ hi)
      · exact h0.2 (h1 ▸ hi)
      · exact absurd (inv.imlt _ hi) (by omega)
theorem writeString_ok (l s : List UInt8) (h : l.length + s.length ≤ 140737488355328) :
    CallsV (L mx) 18 [.map 0 0, .str s] [bld l] (Turns (.tuple [.int .i64 s.length, .niliface]) [bld (l ++ s)]) := by
  refine ⟨⟨_, Try.func18, rfl, by kernel_rfl⟩, fun c vs inv hc hg hsz hargs => ?_⟩
  have hget : c.hp[0]? = some (bld l) := by rw [hc]; rfl
  obtain ⟨t, ht, rfl⟩ := rep_str (hargs 1 _ rfl)
  have h0 : vs.getD 0 undef = .pointer (some ⟨(c.mu 0).1, 0, none⟩) := by
    have := hargs 0 _ rfl
    generalize vs.getD 0 undef = q at this ⊢
    cases this with
    | map _ _ _ _ _ hv => exact hv _ _ hget
  rw [args_two hsz, h0, ht]
  refine (writeString_run t (bld_ok inv hget) (by simpa using h)).mono fun e w' ⟨he, m2, h1, h2, h3⟩ => ?_
  obtain ⟨i1, l1⟩ := put_bld inv hget h1 h2 h3
  refine ⟨.ret _, _, ⟨rfl, ?_⟩, rfl, i1, l1, ?_⟩
  · simp only [Cx.put, hc]
    rfl
  · subst he
    refine .tuple _ _ rfl fun i d hd => ?_
    match i, hd with
    | 0, hd => obtain rfl := Option.some.inj hd; simpa using Rep.int IntKind.i64 (t.size : Int)
    | 1, hd => obtain rfl := Option.some.inj hd; exact .niliface
theorem string_ok (l : List UInt8) : CallsV (L mx) 23 [.map 0 0] [bld l] (Turns (.str l) [.gone 1]) := by
  refine ⟨⟨_, Try.func23, rfl, by kernel_rfl⟩, fun c vs inv hc hg hsz hargs => ?_⟩
  have hget : c.hp[0]? = some (bld l) := by rw [hc]; rfl
  have h0 : vs.getD 0 undef = .pointer (some ⟨(c.mu 0).1, 0, none⟩) := by
    have := hargs 0 _ rfl
    generalize vs.getD 0 undef = q at this ⊢
    cases this with
    | map _ _ _ _ _ hv => exact hv _ _ hget
  rw [args_one hsz, h0]
  refine (string_run (bld_ok inv hget)).mono fun e w' ⟨he, hbut⟩ => ?_
  obtain ⟨i1, l1⟩ := put_ok inv (k' := .gone 1) (m := c.mu 0) hget rfl hbut.os hbut.tape hbut.output hbut.size (fun b hb hne => hbut.block b hb (fun he => hne rfl (.inl he.symm)) (fun he => hne rfl (.inr he.symm))) (fun b ha _ => by cases ha) (Nat.le_refl _)
    ⟨fun g sz ro xs he => (by cases he), fun g ro es he => (by cases he)⟩ (fun _ => trivial)
  refine ⟨.ret _, _, ⟨rfl, ?_⟩, rfl, i1, l1, ?_⟩
  · simp only [Cx.put, hc]
    rfl
  · subst he
    exact .str _ _ rfl
end Go.Proofs.Ytknkkfdkcemolaa.Vm
end
section
/- Walks: how parts of a description are shown. -/
set_option linter.unusedSimpArgs false
set_option linter.unusedVariables false
set_option maxRecDepth 100000
set_option maxHeartbeats 4000000
namespace Go.Proofs.Ytknkkfdkcemolaa.Vm
open Go
variable {m : Int}
attribute [local irreducible] wpD opsD thenD blockD planD planA LoopD
attribute [local simp] List.take_of_length_le List.drop_of_length_le bne mvD

theorem Quoted_ok (t : Tok) (ht : t.text.length ≤ 8000) : Ans (L m) 35 [.agg (encT t)] (.str (quotS t)) := by
  refine fn_of_body L_ok (fn := Try.f35) rfl rfl rfl rfl (by kernel_rfl) ?_
  obtain ⟨k, a, x⟩ := t
  simp only at ht
  by_cases hk : k = 3
  · subst hk
    repeat' (first
      | apply w_seq
      | apply w_region
      | apply o_end
      | apply t_normal
      | (apply o_cat; (focus (first | rfl | (apply g_in; rfl; rfl; (focus (simp [*]; done))))); (focus (simp [*]; rfl)); rfl; (focus (simp [*]; rfl)); rfl; (focus (first | omega | (simp; omega))); (focus (first | (simp; rfl) | rfl)))
      | (apply o_val; (focus (first | rfl | (apply g_in; rfl; rfl; (focus (simp [*]; done))))); (focus (simp [*]; rfl)))
      | (apply o_mem; (focus (first | rfl | (apply g_in; rfl; rfl; (focus (simp [*]; done))))); rfl; (focus (simp [*]; exact ⟨rfl, rfl⟩)))
      | apply w_ret
      | apply t_ret
      | (apply w_true; (focus (simp [*]; done)))
      | fail)
    · apply f_retf
      · simp [*]; rfl
      · simp
      · rfl
  · have hb : ((k : Int) == 3) = false := by simp; omega
    repeat' (first
      | apply w_seq
      | apply w_region
      | apply o_end
      | apply t_normal
      | (apply o_val; (focus (first | rfl | (apply g_in; rfl; rfl; (focus (simp [*]; done))))); (focus (simp [*]; rfl)))
      | (apply o_mem; (focus (first | rfl | (apply g_in; rfl; rfl; (focus (simp [*]; done))))); rfl; (focus (simp [*]; exact ⟨rfl, rfl⟩)))
      | apply w_skip
      | apply w_ret
      | (apply w_false; (focus (simp [*]; done)))
      | fail)
    · apply f_retf
      · simp [*]; rfl
      · simp
      · simp [quotS, hk]
theorem Show_ok (t : AttrT) (h1 : t.word.text.length ≤ 8000) (h2 : t.arg.text.length ≤ 8000) : Ans (L m) 21 [.agg (encA t)] (.str (attrS t)) := by
  refine fn_of_body L_ok (fn := Try.f21) rfl rfl rfl rfl (by kernel_rfl) ?_
  obtain ⟨w, g⟩ := t
  simp only at h1 h2
  have hq := Quoted_ok (m := m) g h2
  have hl := quotS_len h2
  by_cases hk : g.kind = 0
  · have hb : ((g.kind : Int) == 0) = true := by simp [hk]
    repeat' (first
      | apply w_seq
      | apply w_region
      | apply o_end
      | apply t_normal
      | (apply o_val; (focus (first | rfl | (apply g_in; rfl; rfl; (focus (simp [*]; done))))); (focus (simp [*]; rfl)))
      | (apply o_mem; (focus (first | rfl | (apply g_in; rfl; rfl; (focus (simp [*]; done))))); rfl; (focus (simp [*]; exact ⟨rfl, rfl⟩)))
      | apply w_ret
      | apply t_ret
      | (apply w_true; (focus (simp [*]; done)))
      | fail)
    · apply f_retf
      · simp [*]; rfl
      · simp
      · simp [attrS, hk]
  · have hb : ((g.kind : Int) == 0) = false := by simp; omega
    have hc1 : w.text.length ≤ 9223372036854775806 := by omega
    have hc2 : w.text.length + 1 + (quotS g).length ≤ 9223372036854775807 := by omega
    repeat' (first
      | apply w_seq
      | apply w_region
      | apply o_end
      | apply t_normal
      | (apply o_val; (focus (first | rfl | (apply g_in; rfl; rfl; (focus (simp [*]; done))))); (focus (simp [*]; rfl)))
      | (apply o_mem; (focus (first | rfl | (apply g_in; rfl; rfl; (focus (simp [*]; done))))); rfl; (focus (simp [*]; exact ⟨rfl, rfl⟩)))
      | apply w_skip
      | apply w_ret
      | (apply w_false; (focus (simp [*]; done)))
      | (apply w_drawA; rfl; (focus (decide +kernel)); (focus (simp; rfl)); (focus (simp; rfl)))
      | (apply a_end; (focus (simp; rfl)))
      | (apply a_val; (focus (simp; rfl)); (focus (intro u; first | rfl | (apply g_in; rfl; rfl; (focus (simp [*]; done))))); (focus (intro H' u; simp [*]; rfl)); (focus (simp only [List.nil_append, List.cons_append]; rfl)))
      | (apply a_fn fine; (focus (simp; rfl)); (focus (intro u; first | rfl | (apply g_in; rfl; rfl; (focus (simp [*]; done))))); (focus (intro u; simp [*]; exact ⟨rfl, rfl⟩)); (focus (exact hq)); (focus (simp [*]; done)); (focus (simp only [List.nil_append, List.cons_append]; rfl)))
      | (apply a_tie; (focus (simp; rfl)); (focus (intro u; first | rfl | (apply g_in; rfl; rfl; (focus (simp [*]; done))))); (focus (intro u; simp [*]; rfl)); (focus (first | rfl | (simp only [List.all_cons, List.all_nil, List.length_cons, List.length_nil, Nat.zero_add, Nat.reduceAdd, Bool.and_true, Bool.true_and]; done) | (simp only [List.all_cons, List.all_nil, List.length_cons, List.length_nil, Nat.zero_add, Nat.reduceAdd, Bool.and_true, Bool.true_and]; decide +kernel))); (focus (simp only [List.nil_append, List.cons_append]; rfl)); (focus (simp; rfl)))
      | fail)
    · apply f_retf
      · simp [*]; rfl
      · simp
      · simp [attrS, hk]
abbrev textsD (l : List (List UInt8)) : D := .isl 1 (l.map fun x => [.str x])
theorem Words_ok (i : ItemT) (h : allI (fun t => t.text.length ≤ 8000) i) : Ans (L m) 20 [itemD i] (textsD (wordsS i)) := by
  refine fn_of_body L_ok (fn := Try.f20) rfl rfl rfl rfl (by kernel_rfl) ?_
  have hq := Quoted_ok (m := m) i.text h.2.2.2.2.1
  clear h
  unfold wordsS
  obtain ⟨⟨wk, wa, wt⟩, n, o, c, x, al, fo⟩ := i
  simp only at hq ⊢
  by_cases h1 : wt = [111, 114, 105, 103, 105, 110]
  · subst h1
    rw [if_pos rfl]
    repeat' (first
      | apply w_seq
      | apply w_region
      | apply o_end
      | apply t_normal
      | (apply o_val; (focus (first | rfl | (apply g_in; rfl; rfl; (focus (simp [*]; done))))); (focus (simp [*]; rfl)))
      | (apply o_frz; (focus (first | rfl | (apply g_in; rfl; rfl; (focus (simp [*]; done))))); rfl; (focus (simp [*]; exact ⟨rfl, rfl⟩)); (focus (simp; done)); (focus (first | exact Snap.flat (by simp [*]; done) | exact Snap.ref_flat (by simp) rfl rfl rfl (by simp) (by simp [*]; done) | exact Snap.slice_flat (by simp) rfl (by simp; rfl) (by simp) (by simp [*]; done) | exact Snap.slice_flat (by simp) (by simp; exact ⟨rfl, rfl, rfl⟩) (by simp; rfl) (by simp) (by simp [*]; done))))
      | apply w_block
      | apply w_ret
      | apply t_ret
      | apply b_ret
      | (apply w_true; (focus (simp [*]; done)))
      | (apply w_drawA; rfl; (focus (decide +kernel)); (focus (simp; rfl)); (focus (simp; rfl)))
      | (apply a_end; (focus (simp; rfl)))
      | (apply a_val; (focus (simp; rfl)); (focus (intro u; first | rfl | (apply g_in; rfl; rfl; (focus (simp [*]; done))))); (focus (intro H' u; simp [*]; rfl)); (focus (simp only [List.nil_append, List.cons_append]; rfl)))
      | (apply a_fn fine; (focus (simp; rfl)); (focus (intro u; first | rfl | (apply g_in; rfl; rfl; (focus (simp [*]; done))))); (focus (intro u; simp [*]; exact ⟨rfl, rfl⟩)); (focus (exact hq)); (focus (simp [*]; done)); (focus (simp only [List.nil_append, List.cons_append]; rfl)))
      | (apply a_frz; (focus (simp; rfl)); (focus (intro u; first | rfl | (apply g_in; rfl; rfl; (focus (simp [*]; done))))); (focus (intro u; rfl)); (focus (intro H' u; simp [*]; refine ⟨_, _, ⟨rfl, rfl⟩, ?_, ?_⟩; (focus (simp; done)); (focus (first | exact Snap.flat (by simp [*]; done) | exact Snap.ref_flat (by simp) rfl rfl rfl (by simp) (by simp [*]; done) | exact Snap.slice_flat (by simp) rfl (by simp; rfl) (by simp) (by simp [*]; done) | exact Snap.slice_flat (by simp) (by simp; exact ⟨rfl, rfl, rfl⟩) (by simp; rfl) (by simp) (by simp [*]; done))))); (focus (simp only [List.nil_append, List.cons_append]; rfl)))
      | fail)
    · apply f_retf
      · simp [*]; rfl
      · simp
      · rfl
  rw [if_neg h1]
  have b1 : (wt == [111, 114, 105, 103, 105, 110]) = false := by simpa using h1
  clear h1
  by_cases h2 : wt = [99, 111, 111, 107, 105, 101]
  · subst h2
    rw [if_pos rfl]
    repeat' (first
      | apply w_seq
      | apply w_region
      | apply o_end
      | apply t_normal
      | (apply o_val; (focus (first | rfl | (apply g_in; rfl; rfl; (focus (simp [*]; done))))); (focus (simp [*]; rfl)))
      | (apply o_frz; (focus (first | rfl | (apply g_in; rfl; rfl; (focus (simp [*]; done))))); rfl; (focus (simp [*]; exact ⟨rfl, rfl⟩)); (focus (simp; done)); (focus (first | exact Snap.flat (by simp [*]; done) | exact Snap.ref_flat (by simp) rfl rfl rfl (by simp) (by simp [*]; done) | exact Snap.slice_flat (by simp) rfl (by simp; rfl) (by simp) (by simp [*]; done) | exact Snap.slice_flat (by simp) (by simp; exact ⟨rfl, rfl, rfl⟩) (by simp; rfl) (by simp) (by simp [*]; done))))
      | apply w_block
      | apply w_ret
      | apply t_ret
      | apply b_ret
      | (apply w_true; (focus (simp [*]; done)))
      | (apply w_false; (focus (simp [*]; done)))
      | (apply w_drawA; rfl; (focus (decide +kernel)); (focus (simp; rfl)); (focus (simp; rfl)))
      | (apply a_end; (focus (simp; rfl)))
      | (apply a_val; (focus (simp; rfl)); (focus (intro u; first | rfl | (apply g_in; rfl; rfl; (focus (simp [*]; done))))); (focus (intro H' u; simp [*]; rfl)); (focus (simp only [List.nil_append, List.cons_append]; rfl)))
      | (apply a_fn fine; (focus (simp; rfl)); (focus (intro u; first | rfl | (apply g_in; rfl; rfl; (focus (simp [*]; done))))); (focus (intro u; simp [*]; exact ⟨rfl, rfl⟩)); (focus (exact hq)); (focus (simp [*]; done)); (focus (simp only [List.nil_append, List.cons_append]; rfl)))
      | (apply a_frz; (focus (simp; rfl)); (focus (intro u; first | rfl | (apply g_in; rfl; rfl; (focus (simp [*]; done))))); (focus (intro u; rfl)); (focus (intro H' u; simp [*]; refine ⟨_, _, ⟨rfl, rfl⟩, ?_, ?_⟩; (focus (simp; done)); (focus (first | exact Snap.flat (by simp [*]; done) | exact Snap.ref_flat (by simp) rfl rfl rfl (by simp) (by simp [*]; done) | exact Snap.slice_flat (by simp) rfl (by simp; rfl) (by simp) (by simp [*]; done) | exact Snap.slice_flat (by simp) (by simp; exact ⟨rfl, rfl, rfl⟩) (by simp; rfl) (by simp) (by simp [*]; done))))); (focus (simp only [List.nil_append, List.cons_append]; rfl)))
      | fail)
    · apply f_retf
      · simp [*]; rfl
      · simp
      · rfl
  rw [if_neg h2]
  have b2 : (wt == [99, 111, 111, 107, 105, 101]) = false := by simpa using h2
  clear h2
  by_cases h3 : wt = [101, 110, 100, 112, 111, 105, 110, 116]
  · subst h3
    rw [if_pos rfl]
    repeat' (first
      | apply w_seq
      | apply w_region
      | apply o_end
      | apply t_normal
      | (apply o_val; (focus (first | rfl | (apply g_in; rfl; rfl; (focus (simp [*]; done))))); (focus (simp [*]; rfl)))
      | (apply o_frz; (focus (first | rfl | (apply g_in; rfl; rfl; (focus (simp [*]; done))))); rfl; (focus (simp [*]; exact ⟨rfl, rfl⟩)); (focus (simp; done)); (focus (first | exact Snap.flat (by simp [*]; done) | exact Snap.ref_flat (by simp) rfl rfl rfl (by simp) (by simp [*]; done) | exact Snap.slice_flat (by simp) rfl (by simp; rfl) (by simp) (by simp [*]; done) | exact Snap.slice_flat (by simp) (by simp; exact ⟨rfl, rfl, rfl⟩) (by simp; rfl) (by simp) (by simp [*]; done))))
      | apply w_block
      | apply w_ret
      | apply t_ret
      | apply b_ret
      | (apply w_true; (focus (simp [*]; done)))
      | (apply w_false; (focus (simp [*]; done)))
      | (apply w_drawA; rfl; (focus (decide +kernel)); (focus (simp; rfl)); (focus (simp; rfl)))
      | (apply a_end; (focus (simp; rfl)))
      | (apply a_val; (focus (simp; rfl)); (focus (intro u; first | rfl | (apply g_in; rfl; rfl; (focus (simp [*]; done))))); (focus (intro H' u; simp [*]; rfl)); (focus (simp only [List.nil_append, List.cons_append]; rfl)))
      | (apply a_fn fine; (focus (simp; rfl)); (focus (intro u; first | rfl | (apply g_in; rfl; rfl; (focus (simp [*]; done))))); (focus (intro u; simp [*]; exact ⟨rfl, rfl⟩)); (focus (exact hq)); (focus (simp [*]; done)); (focus (simp only [List.nil_append, List.cons_append]; rfl)))
      | (apply a_frz; (focus (simp; rfl)); (focus (intro u; first | rfl | (apply g_in; rfl; rfl; (focus (simp [*]; done))))); (focus (intro u; rfl)); (focus (intro H' u; simp [*]; refine ⟨_, _, ⟨rfl, rfl⟩, ?_, ?_⟩; (focus (simp; done)); (focus (first | exact Snap.flat (by simp [*]; done) | exact Snap.ref_flat (by simp) rfl rfl rfl (by simp) (by simp [*]; done) | exact Snap.slice_flat (by simp) rfl (by simp; rfl) (by simp) (by simp [*]; done) | exact Snap.slice_flat (by simp) (by simp; exact ⟨rfl, rfl, rfl⟩) (by simp; rfl) (by simp) (by simp [*]; done))))); (focus (simp only [List.nil_append, List.cons_append]; rfl)))
      | fail)
    · apply f_retf
      · simp [*]; rfl
      · simp
      · rfl
  rw [if_neg h3]
  have b3 : (wt == [101, 110, 100, 112, 111, 105, 110, 116]) = false := by simpa using h3
  clear h3
  by_cases h4 : wt = [110, 101, 116, 119, 111, 114, 107]
  · subst h4
    rw [if_pos rfl]
    repeat' (first
      | apply w_seq
      | apply w_region
      | apply o_end
      | apply t_normal
      | (apply o_val; (focus (first | rfl | (apply g_in; rfl; rfl; (focus (simp [*]; done))))); (focus (simp [*]; rfl)))
      | (apply o_frz; (focus (first | rfl | (apply g_in; rfl; rfl; (focus (simp [*]; done))))); rfl; (focus (simp [*]; exact ⟨rfl, rfl⟩)); (focus (simp; done)); (focus (first | exact Snap.flat (by simp [*]; done) | exact Snap.ref_flat (by simp) rfl rfl rfl (by simp) (by simp [*]; done) | exact Snap.slice_flat (by simp) rfl (by simp; rfl) (by simp) (by simp [*]; done) | exact Snap.slice_flat (by simp) (by simp; exact ⟨rfl, rfl, rfl⟩) (by simp; rfl) (by simp) (by simp [*]; done))))
      | apply w_block
      | apply w_ret
      | apply t_ret
      | apply b_ret
      | (apply w_true; (focus (simp [*]; done)))
      | (apply w_false; (focus (simp [*]; done)))
      | fail)
    · apply f_retf
      · simp [*]; rfl
      · simp
      · rfl
  rw [if_neg h4]
  have b4 : (wt == [110, 101, 116, 119, 111, 114, 107]) = false := by simpa using h4
  clear h4
  repeat' (first
    | apply w_seq
    | apply w_region
    | apply o_end
    | apply t_normal
    | (apply o_val; (focus (first | rfl | (apply g_in; rfl; rfl; (focus (simp [*]; done))))); (focus (simp [*]; rfl)))
    | (apply o_frz; (focus (first | rfl | (apply g_in; rfl; rfl; (focus (simp [*]; done))))); rfl; (focus (simp [*]; exact ⟨rfl, rfl⟩)); (focus (simp; done)); (focus (first | exact Snap.flat (by simp [*]; done) | exact Snap.ref_flat (by simp) rfl rfl rfl (by simp) (by simp [*]; done) | exact Snap.slice_flat (by simp) rfl (by simp; rfl) (by simp) (by simp [*]; done) | exact Snap.slice_flat (by simp) (by simp; exact ⟨rfl, rfl, rfl⟩) (by simp; rfl) (by simp) (by simp [*]; done))))
    | apply w_skip
    | apply w_block
    | apply b_normal
    | apply w_ret
    | (apply w_false; (focus (simp [*]; done)))
    | fail)
  · apply f_retf
    · simp [*]; rfl
    · simp
    · rfl
/-- Texts with another one between them. -/
theorem Join_ok (ws : List (List UInt8)) (sep : List UInt8) (hne : ws ≠ []) (hl : (Lib.join ws sep).length ≤ 140737488355328) (hn : ws.length ≤ 140737488355328) : Ans (L m) 19 [textsD ws, .str sep] (.str (Lib.join ws sep)) := by
  refine ext_below ⟨_, Try.func19, rfl, by kernel_rfl⟩ fun c vs inv hg hsz hargs => ⟨.string ⟨(Lib.join ws sep).toArray⟩, fun _ => .str _ _ (by simp), ?_⟩
  obtain ⟨t, ht, rfl⟩ := rep_str (hargs 1 _ rfl)
  have h0 : Rep c (vs.getD 0 undef) (.isl 1 (ws.map fun x => [D.str x])) := hargs 0 _ rfl
  rw [args_two hsz, ht]
  generalize vs.getD 0 undef = q at h0 ⊢
  have hpos : ws.length ≠ 0 := by simpa using hne
  generalize hx : (ws.map fun x => [D.str x]) = xs at h0
  have hxl : xs.length = ws.length := by rw [← hx]; simp
  cases h0 with
  | islnil => simp at hxl; exact absurd hxl.symm hpos
  | isl0 => simp at hxl; exact absurd hxl.symm hpos
  | isl b off n cap _ _ f hn hcap hi hs hc h1 hh =>
  subst hn
  have hget : ∀ (j : Nat) (x : List UInt8), ws[j]? = some x → xs[j]? = some [.str x] := fun j x hj => by rw [← hx, List.getElem?_map, hj]; rfl
  have hcell : ∀ (j : Nat) (x : List UInt8), ws[j]? = some x → c.w.cell? ⟨b, off + j, none⟩ = some (.string ⟨x.toArray⟩) := fun j x hj => by
    have h2 := hc j _ 0 _ (hget j x hj) rfl
    have h3 := hh j _ 0 _ (hget j x hj) rfl
    obtain ⟨s, hs1, hs2⟩ := rep_str h3
    rw [hs1] at h2
    have : s = ⟨x.toArray⟩ := by
      cases s
      simp only [ByteArray.mk.injEq]
      apply Array.toList_inj.1
      simpa using hs2
    simp only [Nat.mul_one, Nat.add_zero] at h2
    rw [h2, this]
  have e1 : (ws.map fun l => (⟨l.toArray⟩ : ByteArray)).map (·.data.toList) = ws := by simp [Function.comp_def]
  have key := Try.strings_Join b off cap (ws.map fun l => ⟨l.toArray⟩) t c.w (fun j x hj => by
    rw [List.getElem?_map] at hj
    obtain ⟨l, hl1, rfl⟩ := Option.map_eq_some_iff.1 hj
    exact hcell j l hl1) (inv.imlt _ hi) (by simpa using hn) (by simpa [hxl] using hcap) (by rw [e1]; exact hl)
  rw [e1] at key
  show Calls Try.prog _ _ _ _
  simpa [hxl] using key
theorem lineS_len {i : ItemT} (h : allI (fun t => t.text.length ≤ 8000) i) (hs : sizeI i ≤ 2000) : (Lib.join (wordsS i) [32]).length ≤ 40000 ∧ (wordsS i) ≠ [] ∧ (wordsS i).length ≤ 6 := by
  have h1 : i.word.text.length ≤ 8000 := h.1
  have h2 : i.name.text.length ≤ 8000 := h.2.1
  have h3 : i.of_.text.length ≤ 8000 := h.2.2.1
  have h4 : i.caps.text.length ≤ 8000 := h.2.2.2.1
  have h5 : i.text.text.length ≤ 8000 := h.2.2.2.2.1
  have hq := quotS_len h5
  unfold wordsS
  repeat' split
  all_goals simp [Lib.join, List.intercalate]
  all_goals omega
/-! ### formulas -/
abbrev bR : D := .map 0 0
theorem dump_leaf (w n : Tok) (l : List UInt8) (h1 : w.text.length ≤ 8000) (h2 : n.text.length ≤ 8000) (hl : l.length ≤ 100000000000) : CallsV (L m) 22 [treeD (.leaf w n), bR] [bld l] (Turns (.tuple []) [bld (l ++ treeS (.leaf w n))]) := by
  refine turns_of_body L_ok (fn := Try.f22) rfl rfl rfl rfl (by kernel_rfl) ?_
  rw [treeD]
  have c1 : w.text.length ≤ 9223372036854775806 := by omega
  have c2 : n.text.length ≤ 9223372036854775806 := by omega
  have w1 := fun (l s : List UInt8) (h : l.length + s.length ≤ 140737488355328) => writeString_ok (mx := m) l s h
  by_cases hk : n.kind = 0
  · have hb : ((n.kind : Int) == 0) = true := by simp [hk]
    simp only [treeS, hk, if_true]
    have a1 := w1 l (40 :: w.text) (by simp; omega)
    have a2 := w1 (l ++ 40 :: w.text) [41] (by simp; omega)
    clear w1
    repeat' (first
      | apply w_seq
      | apply w_region
      | apply o_end
      | apply t_normal
      | (apply o_cat; (focus (first | rfl | (apply g_in; rfl; rfl; (focus (simp [*]; done))))); (focus (simp [*]; rfl)); rfl; (focus (simp [*]; rfl)); rfl; (focus (first | omega | (simp; omega))); (focus (first | (simp; rfl) | rfl)))
      | (apply o_val; (focus (first | rfl | (apply g_in; rfl; rfl; (focus (simp [*]; done))))); (focus (simp [*]; rfl)))
      | (apply o_turns; (focus (first | rfl | (apply g_in; rfl; rfl; (focus (simp [*]; done))))); (focus (simp [*]; exact ⟨rfl, rfl⟩)); (focus (exact a1)))
      | apply w_skip
      | apply w_block
      | (apply w_false; (focus (simp [*]; done)))
      | fail)
    apply loop_is
    apply loop_unfold
    repeat' (first
      | apply w_seq
      | apply w_region
      | apply o_end
      | apply t_normal
      | (apply o_val; (focus (first | rfl | (apply g_in; rfl; rfl; (focus (simp [*]; done))))); (focus (simp [*]; rfl)))
      | (apply o_turns; (focus (first | rfl | (apply g_in; rfl; rfl; (focus (simp [*]; done))))); (focus (simp [*]; exact ⟨rfl, rfl⟩)); (focus (exact a2)))
      | apply w_exit
      | apply t_exit
      | apply b_here
      | (apply w_false; (focus (simp [*]; done)))
      | fail)
    exact t_normT rfl rfl (by simp)
  · have hb : ((n.kind : Int) == 0) = false := by simp; omega
    simp only [treeS, hk, if_false]
    have a1 := w1 l (40 :: w.text) (by simp; omega)
    have a2 := w1 (l ++ 40 :: w.text) (32 :: n.text) (by simp; omega)
    have a3 := w1 (l ++ 40 :: w.text ++ 32 :: n.text) [41] (by simp; omega)
    clear w1
    repeat' (first
      | apply w_seq
      | apply w_region
      | apply o_end
      | apply t_normal
      | (apply o_cat; (focus (first | rfl | (apply g_in; rfl; rfl; (focus (simp [*]; done))))); (focus (simp [*]; rfl)); rfl; (focus (simp [*]; rfl)); rfl; (focus (first | omega | (simp; omega))); (focus (first | (simp; rfl) | rfl)))
      | (apply o_val; (focus (first | rfl | (apply g_in; rfl; rfl; (focus (simp [*]; done))))); (focus (simp [*]; rfl)))
      | (apply o_turns; (focus (first | rfl | (apply g_in; rfl; rfl; (focus (simp [*]; done))))); (focus (simp [*]; exact ⟨rfl, rfl⟩)); (focus (exact a1)))
      | (apply o_turns; (focus (first | rfl | (apply g_in; rfl; rfl; (focus (simp [*]; done))))); (focus (simp [*]; exact ⟨rfl, rfl⟩)); (focus (exact a2)))
      | apply w_block
      | (apply w_true; (focus (simp [*]; done)))
      | fail)
    apply loop_is
    apply loop_unfold
    repeat' (first
      | apply w_seq
      | apply w_region
      | apply o_end
      | apply t_normal
      | (apply o_val; (focus (first | rfl | (apply g_in; rfl; rfl; (focus (simp [*]; done))))); (focus (simp [*]; rfl)))
      | (apply o_turns; (focus (first | rfl | (apply g_in; rfl; rfl; (focus (simp [*]; done))))); (focus (simp [*]; exact ⟨rfl, rfl⟩)); (focus (exact a3)))
      | apply w_exit
      | apply t_exit
      | apply b_here
      | (apply w_false; (focus (simp [*]; done)))
      | fail)
    exact t_normT rfl rfl (by simp)
theorem dump_ok (t : Tree) : ∀ (l : List UInt8), allT (fun t => t.text.length ≤ 8000) t → l.length + (treeS t).length ≤ 100000000000 → CallsV (L m) 22 [treeD t, bR] [bld l] (Turns (.tuple []) [bld (l ++ treeS t)]) := by
  induction t with
  | leaf w n => intro l ha hl; exact dump_leaf w n l ha.1 ha.2 (by omega)
  | un w k ih =>
    intro l ha hl
    have h1 : w.text.length ≤ 8000 := ha.1
    have w1 := fun (l s : List UInt8) (h : l.length + s.length ≤ 140737488355328) => writeString_ok (mx := m) l s h
    simp only [treeS, List.length_append, List.length_cons, List.length_nil] at hl
    have a1 := w1 l (40 :: w.text) (by simp; omega)
    have a2 := w1 (l ++ 40 :: w.text) [32] (by simp; omega)
    have a3 := ih (l ++ 40 :: w.text ++ [32]) ha.2 (by simp; omega)
    have a4 := w1 (l ++ 40 :: w.text ++ [32] ++ treeS k) [41] (by simp; omega)
    have c1 : w.text.length ≤ 9223372036854775806 := by omega
    refine turns_of_body L_ok (fn := Try.f22) rfl rfl rfl rfl (by kernel_rfl) ?_
    obtain ⟨ck, hck⟩ := isTree_ex k
    rw [treeD, show treeD k = .box ck from hck]
    simp only [zeroTok]
    rw [show treeD k = .box ck from hck] at a3
    simp only [treeS]
    generalize treeS k = sk at a3 a4 hl ⊢
    clear w1 ih ha hl hck
    repeat' (first
      | apply w_seq
      | apply w_region
      | apply o_end
      | apply t_normal
      | (apply o_cat; (focus (first | rfl | (apply g_in; rfl; rfl; (focus (simp [*]; done))))); (focus (simp [*]; rfl)); rfl; (focus (simp [*]; rfl)); rfl; (focus (first | omega | (simp; omega))); (focus (first | (simp; rfl) | rfl)))
      | (apply o_val; (focus (first | rfl | (apply g_in; rfl; rfl; (focus (simp [*]; done))))); (focus (simp [*]; rfl)))
      | (apply o_turns; (focus (first | rfl | (apply g_in; rfl; rfl; (focus (simp [*]; done))))); (focus (simp [*]; exact ⟨rfl, rfl⟩)); (focus (exact a1)))
      | apply w_skip
      | apply w_block
      | (apply w_false; (focus (simp [*]; done)))
      | fail)
    apply loop_is
    apply loop_unfold
    repeat' (first
      | apply w_seq
      | apply w_region
      | apply o_end
      | apply t_normal
      | (apply o_add; (focus (first | rfl | (apply g_in; rfl; rfl; (focus (simp [*]; done))))); (focus (simp [*]; rfl)); rfl; (focus (simp [*]; rfl)); rfl; (focus (apply wrap_i64 <;> omega)))
      | (apply o_val; (focus (first | rfl | (apply g_in; rfl; rfl; (focus (simp [*]; done))))); (focus (simp [*]; rfl)))
      | (apply o_turns; (focus (first | rfl | (apply g_in; rfl; rfl; (focus (simp [*]; done))))); (focus (simp [*]; exact ⟨rfl, rfl⟩)); (focus (exact a2)))
      | (apply o_turns; (focus (first | rfl | (apply g_in; rfl; rfl; (focus (simp [*]; done))))); (focus (simp [*]; exact ⟨rfl, rfl⟩)); (focus (exact a3)))
      | apply w_skip
      | apply w_block
      | apply b_normal
      | (apply w_true; (focus (simp [*]; done)))
      | fail)
    apply loop_unfold
    repeat' (first
      | apply w_seq
      | apply w_region
      | apply o_end
      | apply t_normal
      | (apply o_val; (focus (first | rfl | (apply g_in; rfl; rfl; (focus (simp [*]; done))))); (focus (simp [*]; rfl)))
      | (apply o_turns; (focus (first | rfl | (apply g_in; rfl; rfl; (focus (simp [*]; done))))); (focus (simp [*]; exact ⟨rfl, rfl⟩)); (focus (exact a4)))
      | apply w_exit
      | apply t_exit
      | apply b_here
      | (apply w_false; (focus (simp [*]; done)))
      | fail)
    exact t_normT rfl rfl (by simp)
  | bin w a b iha ihb =>
    intro l ha hl
    have h1 : w.text.length ≤ 8000 := ha.1
    have w1 := fun (l s : List UInt8) (h : l.length + s.length ≤ 140737488355328) => writeString_ok (mx := m) l s h
    simp only [treeS, List.length_append, List.length_cons, List.length_nil] at hl
    have a1 := w1 l (40 :: w.text) (by simp; omega)
    have a2 := w1 (l ++ 40 :: w.text) [32] (by simp; omega)
    have a3 := iha (l ++ 40 :: w.text ++ [32]) ha.2.1 (by simp; omega)
    have a4 := w1 (l ++ 40 :: w.text ++ [32] ++ treeS a) [32] (by simp; omega)
    have a5 := ihb (l ++ 40 :: w.text ++ [32] ++ treeS a ++ [32]) ha.2.2 (by simp; omega)
    have a6 := w1 (l ++ 40 :: w.text ++ [32] ++ treeS a ++ [32] ++ treeS b) [41] (by simp; omega)
    have c1 : w.text.length ≤ 9223372036854775806 := by omega
    refine turns_of_body L_ok (fn := Try.f22) rfl rfl rfl rfl (by kernel_rfl) ?_
    obtain ⟨ca, hca⟩ := isTree_ex a
    obtain ⟨cb, hcb⟩ := isTree_ex b
    rw [treeD, show treeD a = .box ca from hca, show treeD b = .box cb from hcb]
    simp only [zeroTok]
    rw [show treeD a = .box ca from hca] at a3
    rw [show treeD b = .box cb from hcb] at a5
    simp only [treeS]
    generalize treeS a = sa at a3 a4 a5 a6 hl ⊢
    generalize treeS b = sb at a5 a6 hl ⊢
    clear w1 iha ihb ha hl hca hcb
    repeat' (first
      | apply w_seq
      | apply w_region
      | apply o_end
      | apply t_normal
      | (apply o_cat; (focus (first | rfl | (apply g_in; rfl; rfl; (focus (simp [*]; done))))); (focus (simp [*]; rfl)); rfl; (focus (simp [*]; rfl)); rfl; (focus (first | omega | (simp; omega))); (focus (first | (simp; rfl) | rfl)))
      | (apply o_val; (focus (first | rfl | (apply g_in; rfl; rfl; (focus (simp [*]; done))))); (focus (simp [*]; rfl)))
      | (apply o_turns; (focus (first | rfl | (apply g_in; rfl; rfl; (focus (simp [*]; done))))); (focus (simp [*]; exact ⟨rfl, rfl⟩)); (focus (exact a1)))
      | apply w_skip
      | apply w_block
      | (apply w_false; (focus (simp [*]; done)))
      | fail)
    apply loop_is
    apply loop_unfold
    repeat' (first
      | apply w_seq
      | apply w_region
      | apply o_end
      | apply t_normal
      | (apply o_add; (focus (first | rfl | (apply g_in; rfl; rfl; (focus (simp [*]; done))))); (focus (simp [*]; rfl)); rfl; (focus (simp [*]; rfl)); rfl; (focus (apply wrap_i64 <;> omega)))
      | (apply o_val; (focus (first | rfl | (apply g_in; rfl; rfl; (focus (simp [*]; done))))); (focus (simp [*]; rfl)))
      | (apply o_turns; (focus (first | rfl | (apply g_in; rfl; rfl; (focus (simp [*]; done))))); (focus (simp [*]; exact ⟨rfl, rfl⟩)); (focus (exact a2)))
      | (apply o_turns; (focus (first | rfl | (apply g_in; rfl; rfl; (focus (simp [*]; done))))); (focus (simp [*]; exact ⟨rfl, rfl⟩)); (focus (exact a3)))
      | apply w_skip
      | apply w_block
      | apply b_normal
      | (apply w_true; (focus (simp [*]; done)))
      | fail)
    apply loop_unfold
    repeat' (first
      | apply w_seq
      | apply w_region
      | apply o_end
      | apply t_normal
      | (apply o_add; (focus (first | rfl | (apply g_in; rfl; rfl; (focus (simp [*]; done))))); (focus (simp [*]; rfl)); rfl; (focus (simp [*]; rfl)); rfl; (focus (apply wrap_i64 <;> omega)))
      | (apply o_val; (focus (first | rfl | (apply g_in; rfl; rfl; (focus (simp [*]; done))))); (focus (simp [*]; rfl)))
      | (apply o_turns; (focus (first | rfl | (apply g_in; rfl; rfl; (focus (simp [*]; done))))); (focus (simp [*]; exact ⟨rfl, rfl⟩)); (focus (exact a4)))
      | (apply o_turns; (focus (first | rfl | (apply g_in; rfl; rfl; (focus (simp [*]; done))))); (focus (simp [*]; exact ⟨rfl, rfl⟩)); (focus (exact a5)))
      | apply w_skip
      | apply w_block
      | apply b_normal
      | (apply w_true; (focus (simp [*]; done)))
      | fail)
    apply loop_unfold
    repeat' (first
      | apply w_seq
      | apply w_region
      | apply o_end
      | apply t_normal
      | (apply o_val; (focus (first | rfl | (apply g_in; rfl; rfl; (focus (simp [*]; done))))); (focus (simp [*]; rfl)))
      | (apply o_turns; (focus (first | rfl | (apply g_in; rfl; rfl; (focus (simp [*]; done))))); (focus (simp [*]; exact ⟨rfl, rfl⟩)); (focus (exact a6)))
      | apply w_exit
      | apply t_exit
      | apply b_here
      | (apply w_false; (focus (simp [*]; done)))
      | fail)
    exact t_normT rfl rfl (by simp)
end Go.Proofs.Ytknkkfdkcemolaa.Vm
end
section
/- Walks: a description's dump, and where its items begin. -/
set_option linter.unusedSimpArgs false
set_option linter.unusedVariables false
set_option maxRecDepth 100000
set_option maxHeartbeats 4000000
namespace Go.Proofs.Ytknkkfdkcemolaa.Vm
open Go
variable {m : Int}
attribute [local irreducible] wpD opsD thenD blockD planD planA LoopD
attribute [local simp] List.take_of_length_le List.drop_of_length_le bne mvD itemsL_flat

@[simp] theorem bld_under (n : Nat) (l : List UInt8) : (bld l).under n := by
  intro e he
  obtain rfl := List.mem_singleton.1 he
  refine ⟨.int _ _, .tuple _ fun d hd => ?_⟩
  simp only [List.mem_cons, List.not_mem_nil, or_false] at hd
  rcases hd with rfl | rfl | rfl
  · exact .int _ _
  · exact .int _ _
  · exact .str _
attribute [local simp] under_map
theorem readP_wrong {s : List UInt8} : (readP s).2.1 ≠ 0 → (readP s).1 = [] := by
  unfold readP
  split
  · intro _; rfl
  split
  · intro _; rfl
  · split
    · intro _; rfl
    · intro h; exact absurd rfl h
theorem lineS_len2 {i : ItemT} (h : allI (fun t => t.text.length ≤ 8000) i) (hs : sizeI i ≤ 2000) : (lineS i).length ≤ (sizeI i + 1) * 50000 := by
  have h1 := (lineS_len h hs).1
  have h2 := attrsS_len h.2.2.2.2.2.1
  have h3 := h.2.2.2.2.2.2
  unfold lineS
  unfold sizeI at hs ⊢
  cases hf : i.form with
  | none =>
    rw [hf] at hs
    simp only at hs
    simp only [List.length_append, List.length_nil, List.length_cons]
    omega
  | some t =>
    rw [hf] at hs
    simp only at hs
    have h4 := treeS_len (h3 t hf)
    simp only [List.length_append, List.length_nil, List.length_cons]
    omega
theorem dumpS_len {l : List ItemT} (h : ∀ i, i ∈ l → allI (fun t => t.text.length ≤ 8000) i) : sizeL l ≤ 2000 → (dumpS l).length ≤ sizeL l * 50000 := by
  induction l with
  | nil => intro _; simp [dumpS]
  | cons x l ih =>
    intro hs
    simp only [sizeL] at hs
    have h1 := ih (fun i hi => h i (List.mem_cons_of_mem _ hi)) (by omega)
    have h2 := lineS_len2 (h x (List.mem_cons_self ..)) (by omega)
    simp only [dumpS, List.map_cons, List.flatten_cons, List.length_append, sizeL] at h1 ⊢
    omega
theorem sizeL_take {l : List ItemT} {i : Nat} (hi : i < l.length) : sizeL (l.take i) + sizeI l[i] + 1 ≤ sizeL l := by
  have h1 : l = l.take i ++ l[i] :: l.drop (i + 1) := by simp
  have h2 := congrArg sizeL h1
  rw [sizeL_app] at h2
  simp only [sizeL] at h2
  omega
theorem dumpS_take {l : List ItemT} {i : Nat} (hi : i < l.length) : dumpS (l.take (i + 1)) = dumpS (l.take i) ++ lineS l[i] := by
  unfold dumpS
  rw [List.take_succ_eq_append_getElem hi, List.map_append, List.flatten_append]
  simp only [List.map_cons, List.map_nil, List.flatten_cons, List.flatten_nil, List.append_nil]
theorem attrsS_take {l : List AttrT} {i : Nat} (hi : i < l.length) : attrsS (l.take (i + 1)) = attrsS (l.take i) ++ (32 :: 40 :: attrS l[i] ++ [41]) := by
  unfold attrsS
  rw [List.take_succ_eq_append_getElem hi, List.map_append, List.flatten_append]
  simp only [List.map_cons, List.map_nil, List.flatten_cons, List.flatten_nil, List.append_nil]
theorem Dump_ok (s : List UInt8) (hs : s.length < 1000000) : Ans (L m) 10 [.str s] (.tuple [.str (dumpS (readP s).1), wrD (readP s).2.1 (readP s).2.2]) := by
  refine fn_of_body L_ok (fn := Try.f10) rfl rfl rfl rfl (by kernel_rfl) ?_
  have a1 := Read_ok (m := m) s hs
  obtain ⟨hall, hsz⟩ := readP_all s
  generalize readP s = x at a1 hall hsz ⊢
  obtain ⟨l, c, a⟩ := x
  simp only at a1 hall hsz ⊢
  have hS : ∀ (b0 b1 : Blk) (acc : List UInt8), b0.under 0 → b1.under 0 → CallsV (L m) 23 [.map 2 0] [b0, b1, bld acc] (Turns (.str acc) [b0, b1, .gone 1]) := fun b0 b1 acc h0 h1 => by
    have := (string_ok (mx := m) acc).amid fine rfl (by intro a ha; obtain rfl := List.mem_singleton.1 ha; exact .map _ _ (by simp)) (by
      intro k hk
      obtain rfl := List.mem_singleton.1 hk
      intro e he
      obtain rfl := List.mem_singleton.1 he
      exact ⟨.int _ _, .tuple _ fun d hd => by
        simp only [List.mem_cons, List.not_mem_nil, or_false] at hd
        rcases hd with rfl | rfl | rfl
        · exact .int _ _
        · exact .int _ _
        · exact .str _⟩) (by
      intro k hk
      obtain rfl := List.mem_singleton.1 hk
      trivial) (.str _) [b0, b1] []
    simpa [rn] using this
  by_cases hne : l = []
  · subst hne
    simp only [itemsL] at a1
    have hs1 := hS (.cells 0 2 false [[.int .i64 0, .int .i64 0]]) (.cells 0 2 false [[.int .i64 c, .int .i64 a]]) [] (by simp) (by simp)
    repeat' (first
      | apply w_seq
      | apply w_region
      | apply o_end
      | apply t_normal
      | (apply o_val; (focus (first | rfl | (apply g_in; rfl; rfl; (focus (simp [*]; done))))); (focus (simp [*]; rfl)))
      | (apply o_fn fine; (focus (first | rfl | (apply g_in; rfl; rfl; (focus (simp [*]; done))))); (focus (simp [*]; exact ⟨rfl, rfl⟩)); (focus (exact a1)); (focus (simp [*]; done)))
      | (apply o_bld (t := 57) (e := 5); (focus (first | rfl | (apply g_in; rfl; rfl; (focus (simp [*]; done))))); (focus (simp; done)); (focus (simp; done)))
      | (apply o_mem; (focus (first | rfl | (apply g_in; rfl; rfl; (focus (simp [*]; done))))); rfl; (focus (simp [*]; exact ⟨rfl, rfl⟩)))
      | apply w_block
      | fail)
    apply loop_is
    apply loop_unfold
    repeat' (first
      | apply w_seq
      | apply w_region
      | apply o_end
      | apply t_normal
      | (apply o_val; (focus (first | rfl | (apply g_in; rfl; rfl; (focus (simp [*]; done))))); (focus (simp [*]; rfl)))
      | apply w_ret
      | apply w_exit
      | apply t_exit
      | apply b_here
      | (apply w_false; (focus (simp [*]; done)))
      | (apply w_drawN; rfl; (focus (decide +kernel)); (focus (simp; rfl)))
      | (apply a_end; (focus (simp; rfl)))
      | (apply a_val; (focus (simp; rfl)); (focus (intro u; first | rfl | (apply g_in; rfl; rfl; (focus (simp [*]; done))))); (focus (intro H' u; simp [*]; rfl)); (focus (simp only [List.nil_append, List.cons_append]; rfl)))
      | (apply a_turns; (focus (simp; rfl)); (focus (intro u; first | rfl | (apply g_in; rfl; rfl; (focus (simp [*]; done))))); (focus (intro u; simp [*]; exact ⟨rfl, rfl⟩)); (focus (exact hs1)); (focus (first | rfl | (simp only [List.all_cons, List.all_nil, List.length_cons, List.length_nil, Nat.zero_add, Nat.reduceAdd, Bool.and_true, Bool.true_and]; done) | (simp only [List.all_cons, List.all_nil, List.length_cons, List.length_nil, Nat.zero_add, Nat.reduceAdd, Bool.and_true, Bool.true_and]; decide +kernel))); (focus (simp only [List.nil_append, List.cons_append]; rfl)); (focus (simp; rfl)))
      | (apply a_mem; (focus (simp; rfl)); (focus (intro u; first | rfl | (apply g_in; rfl; rfl; (focus (simp [*]; done))))); (focus (intro u; rfl)); (focus (intro u; simp [*]; exact ⟨rfl, rfl⟩)); (focus (first | rfl | (simp only [List.all_cons, List.all_nil, List.length_cons, List.length_nil, Nat.zero_add, Nat.reduceAdd, Bool.and_true, Bool.true_and]; done) | (simp only [List.all_cons, List.all_nil, List.length_cons, List.length_nil, Nat.zero_add, Nat.reduceAdd, Bool.and_true, Bool.true_and]; decide +kernel))); (focus (simp only [List.nil_append, List.cons_append]; rfl)); (focus (simp; rfl)))
      | (apply a_tieG; (focus (simp; rfl)); (focus (intro u; first | rfl | (apply g_in; rfl; rfl; (focus (simp [*]; done))))); (focus (intro u; simp [*]; rfl)); (focus (simp only [List.mem_cons, List.not_mem_nil, or_false, forall_eq_or_imp, forall_eq]; (repeat' apply And.intro) <;> first | (left; (first | rfl | (simp only [List.all_cons, List.all_nil, List.length_cons, List.length_nil, Nat.zero_add, Nat.reduceAdd, Bool.and_true, Bool.true_and]; done) | (simp only [List.all_cons, List.all_nil, List.length_cons, List.length_nil, Nat.zero_add, Nat.reduceAdd, Bool.and_true, Bool.true_and]; decide +kernel))) | (right; intro u; simp [*]; done) | (right; intro u; simp [*]; rfl))); (focus (simp only [List.nil_append, List.cons_append]; rfl)); (focus (simp; rfl)))
      | fail)
    · apply f_retf
      · simp [*]; rfl
      · simp
      · rfl
  · have hL := itemsL_some hne
    rw [hL] at a1
    clear hL
    have hlen := sizeL_len l
    have hs1 := hS (.cells 0 2 false [[.int .i64 0, .int .i64 0]]) (.cells 0 2 false [[.int .i64 c, .int .i64 a]]) (dumpS l) (by simp) (by simp)
    clear hS
    repeat' (first
      | apply w_seq
      | apply w_region
      | apply o_end
      | apply t_normal
      | (apply o_val; (focus (first | rfl | (apply g_in; rfl; rfl; (focus (simp [*]; done))))); (focus (simp [*]; rfl)))
      | (apply o_fn fine; (focus (first | rfl | (apply g_in; rfl; rfl; (focus (simp [*]; done))))); (focus (simp [*]; exact ⟨rfl, rfl⟩)); (focus (exact a1)); (focus (simp [*]; done)))
      | (apply o_bld (t := 57) (e := 5); (focus (first | rfl | (apply g_in; rfl; rfl; (focus (simp [*]; done))))); (focus (simp; done)); (focus (simp; done)))
      | (apply o_mem; (focus (first | rfl | (apply g_in; rfl; rfl; (focus (simp [*]; done))))); rfl; (focus (simp [*]; exact ⟨rfl, rfl⟩)))
      | apply w_block
      | fail)
    clear a1
    refine w_loopT (fun n f H => ∃ (i : Nat), i ≤ l.length ∧ n = l.length - i ∧ H = [.cells 0 2 false [[.int .i64 0, .int .i64 0]], .cells 0 2 false [[.int .i64 c, .int .i64 a]], bld (dumpS (l.take i))] ∧ f 3 = .ref 0 0 0 0 ∧ f 5 = .ref 1 0 0 0 ∧ f 6 = .map 2 0 ∧ f 16 = .isl 17 (l.map itemC) ∧ f 17 = .int .i64 l.length ∧ f 18 = .int .i64 i) l.length ⟨0, by simp, by simp, rfl, by simp, by simp, by simp, by simp, by simp, by simp⟩ ?_
    rintro n f H ⟨i, hi, rfl, rfl, g3, g5, g6, g16, g17, g18⟩
    by_cases hlt : i < l.length
    · have hc : decide ((i : Int) < (l.length : Int)) = true := by simp; omega
      have hd0 := dumpS_len (l := l.take i) (fun x hx => hall x (List.mem_of_mem_take hx)) (by have := sizeL_take hlt; omega)
      have hz0 : sizeL (l.take i) + sizeI l[i] + 1 ≤ 2000 := by
        have := sizeL_take hlt
        omega
      have hxa := hall _ (List.getElem_mem hlt)
      have hE : dumpS (l.take (i + 1)) = dumpS (l.take i) ++ lineS l[i] := dumpS_take hlt
      have hsI : sizeI l[i] ≤ 2000 := by omega
      obtain ⟨hj1, hj2, hj3⟩ := lineS_len hxa hsI
      have hw := Words_ok (m := m) _ hxa
      have hj := Join_ok (m := m) (wordsS l[i]) [32] hj2 (by omega) (by omega)
      have q1 := writeString_ok (mx := m) (dumpS (l.take i)) (Lib.join (wordsS l[i]) [32]) (by omega)
      have hxal : ∀ a, a ∈ (l[i]).attrs → a.word.text.length ≤ 8000 ∧ a.arg.text.length ≤ 8000 := hxa.2.2.2.2.2.1
      have hxt : ∀ t, (l[i]).form = some t → allT (fun t => t.text.length ≤ 8000) t := hxa.2.2.2.2.2.2
      clear hs1
      unfold lineS at hE
      unfold sizeI at hsI hz0
      have hwS : wordsS l[i] = wordsS l[i] := rfl
      generalize hW : wordsS l[i] = W at hj1 hj2 hj3 hw hj q1 hE
      clear hxa hj2 hj3 hwS
      clear hW
      rcases hx : l[i] with ⟨w, n, o, cc, t, al, fo⟩
      rw [hx] at hw hE hsI hz0 hxal hxt
      simp only at hw hE hsI hz0 hxal hxt
      have hmono : (dumpS (l.take i)).length ≤ 100000000 := by omega
      generalize dumpS (l.take i) = D0 at hE q1 hmono ⊢
      generalize hJ : Lib.join W [32] = J at hE q1 hj hj1
      clear hJ hd0 hz0
      repeat' (first
        | apply w_seq
        | apply w_region
        | apply o_end
        | apply t_normal
        | (apply o_val; (focus (first | rfl | (apply g_in; rfl; rfl; (focus (simp [*]; done))))); (focus (simp [*]; rfl)))
        | (apply o_fuse; (focus (first | rfl | (apply g_in; rfl; rfl; (focus (simp [*]; done))))); rfl; (focus (simp [*]; first | rfl | exact ⟨rfl, rfl⟩)); (focus (first | rfl | (apply g_in; rfl; rfl; (focus (simp [*]; done))))); rfl; (focus (simp [*]; first | rfl | exact ⟨rfl, rfl⟩ | exact ⟨rfl, rfl, rfl⟩)); (focus (intro d hd; apply Under.flat; revert hd; revert d; simp; done)))
        | (apply o_fn fine; (focus (first | rfl | (apply g_in; rfl; rfl; (focus (simp [*]; done))))); (focus (simp [*]; exact ⟨rfl, rfl⟩)); (focus (exact hw)); (focus (simp [*]; done)))
        | (apply o_fn fine; (focus (first | rfl | (apply g_in; rfl; rfl; (focus (simp [*]; done))))); (focus (simp [*]; exact ⟨rfl, rfl⟩)); (focus (exact hj)); (focus (simp [*]; done)))
        | (apply o_amid fine 2; (focus (first | rfl | (apply g_in; rfl; rfl; (focus (simp [*]; done))))); (focus (simp [*]; exact ⟨rfl, rfl⟩)); (focus (exact q1)); (focus (simp [rn, rnL]; done)); (focus rfl); (focus rfl); (focus rfl); (focus (simp [under_func, under_agg, under_tuple]; done)); (focus (simp only [rowH, List.take_succ_cons, List.take_zero, List.cons_append, List.nil_append]; rfl)))
        | apply w_skip
        | apply w_block
        | (apply w_true; (focus (simp [*]; done)))
        | fail)
      cases al with
      | nil =>
        simp only [List.length_nil] at hsI
        repeat' (first
          | apply o_end
          | apply t_normal
          | (apply o_val; (focus (first | rfl | (apply g_in; rfl; rfl; (focus (simp [*]; done))))); (focus (simp [*]; rfl)))
          | apply w_block
          | fail)
        apply loop_is
        apply loop_unfold
        repeat' (first
          | apply w_seq
          | apply w_region
          | apply o_end
          | apply t_normal
          | (apply o_val; (focus (first | rfl | (apply g_in; rfl; rfl; (focus (simp [*]; done))))); (focus (simp [*]; rfl)))
          | apply w_exit
          | apply t_exit
          | apply b_here
          | (apply w_false; (focus (simp [*]; done)))
          | fail)
        clear q1 hj
        cases fo with
        | none =>
          have q5 := writeString_ok (mx := m) (D0 ++ J) [10] (by simp; omega)
          simp only [attrsS, List.map_nil, List.flatten_nil, List.append_nil] at hE
          simp only [formO]
          repeat' (first
            | apply w_region
            | apply o_end
            | apply t_normal
            | (apply o_add; (focus (first | rfl | (apply g_in; rfl; rfl; (focus (simp [*]; done))))); (focus (simp [*]; rfl)); rfl; (focus (simp [*]; rfl)); rfl; (focus (apply wrap_i64 <;> omega)))
            | (apply o_val; (focus (first | rfl | (apply g_in; rfl; rfl; (focus (simp [*]; done))))); (focus (simp [*]; rfl)))
            | (apply o_amid fine 2; (focus (first | rfl | (apply g_in; rfl; rfl; (focus (simp [*]; done))))); (focus (simp [*]; exact ⟨rfl, rfl⟩)); (focus (exact q5)); (focus (simp [rn, rnL]; done)); (focus rfl); (focus rfl); (focus rfl); (focus (simp [under_func, under_agg, under_tuple]; done)); (focus (simp only [rowH, List.take_succ_cons, List.take_zero, List.cons_append, List.nil_append]; rfl)))
            | apply w_skip
            | apply b_normal
            | (apply w_false; (focus (simp [*]; done)))
            | fail)
          refine ⟨l.length - (i + 1), by omega, [.cells 0 2 false [[.int .i64 0, .int .i64 0]], .cells 0 2 false [[.int .i64 c, .int .i64 a]], bld (dumpS (l.take (i + 1)))], 3, [(3, .ref 0 0 0 0), (5, .ref 1 0 0 0), (6, .map 2 0), (16, .isl 17 (l.map itemC)), (17, .int .i64 l.length), (18, .int .i64 ((i + 1 : Nat) : Int))],
            by simp, by rw [hE]; simp, by simp, ?_, ?_, i + 1, by omega, rfl, rfl, by simp [lookF], by simp [lookF], by simp [lookF], by simp [lookF], by simp [lookF], by simp [lookF]⟩
          · intro b hb
            simp only [List.mem_cons, List.not_mem_nil, or_false] at hb
            rcases hb with rfl | rfl | rfl
            · simp
            · simp
            · exact bld_under _ _
          · intro p hp
            simp only [List.mem_cons, List.not_mem_nil, or_false] at hp
            rcases hp with rfl | rfl | rfl | rfl | rfl | rfl
            all_goals exact .inl ⟨by simp [*], by simp⟩
        | some t0 =>
          have hta := hxt t0 rfl
          have htl := treeS_len hta
          simp only at hsI
          have q5 := writeString_ok (mx := m) (D0 ++ J) [32] (by simp; omega)
          have q6 := dump_ok (m := m) t0 (D0 ++ J ++ [32]) hta (by simp; omega)
          have q7 := writeString_ok (mx := m) (D0 ++ J ++ [32] ++ treeS t0) [10] (by simp; omega)
          simp only [attrsS, List.map_nil, List.flatten_nil, List.append_nil] at hE
          simp only [formO]
          obtain ⟨ct, hct⟩ := isTree_ex t0
          have hft := treeD_flat t0
          rw [show treeD t0 = .box ct from hct] at q6 hft
          rw [show treeD t0 = .box ct from hct]
          have hrn : rnL (fun x => x + 2) ct = ct := by
            have h1 := rn_under (ι := fun x => x + 2) (n := 0) (fun j hj => by omega) (Under.flat (n := 0) hft)
            simpa [rn] using h1
          generalize treeS t0 = st at q6 q7 hE htl
          clear hct hxt
          repeat' (first
            | apply w_seq
            | apply w_region
            | apply o_end
            | apply t_normal
            | (apply o_add; (focus (first | rfl | (apply g_in; rfl; rfl; (focus (simp [*]; done))))); (focus (simp [*]; rfl)); rfl; (focus (simp [*]; rfl)); rfl; (focus (apply wrap_i64 <;> omega)))
            | (apply o_val; (focus (first | rfl | (apply g_in; rfl; rfl; (focus (simp [*]; done))))); (focus (simp [*]; rfl)))
            | (apply o_amid fine 2; (focus (first | rfl | (apply g_in; rfl; rfl; (focus (simp [*]; done))))); (focus (simp [*]; exact ⟨rfl, rfl⟩)); (focus (exact q5)); (focus (simp [rn, rnL, *]; done)); (focus rfl); (focus rfl); (focus rfl); (focus (simp [under_func, under_agg, under_tuple, *]; done)); (focus (simp only [rowH, List.take_succ_cons, List.take_zero, List.cons_append, List.nil_append]; rfl)))
            | (apply o_amid fine 2; (focus (first | rfl | (apply g_in; rfl; rfl; (focus (simp [*]; done))))); (focus (simp [*]; exact ⟨rfl, rfl⟩)); (focus (exact q6)); (focus (simp [rn, rnL, *]; done)); (focus rfl); (focus rfl); (focus rfl); (focus (simp [under_func, under_agg, under_tuple, *]; done)); (focus (simp only [rowH, List.take_succ_cons, List.take_zero, List.cons_append, List.nil_append]; rfl)))
            | (apply o_amid fine 2; (focus (first | rfl | (apply g_in; rfl; rfl; (focus (simp [*]; done))))); (focus (simp [*]; exact ⟨rfl, rfl⟩)); (focus (exact q7)); (focus (simp [rn, rnL, *]; done)); (focus rfl); (focus rfl); (focus rfl); (focus (simp [under_func, under_agg, under_tuple, *]; done)); (focus (simp only [rowH, List.take_succ_cons, List.take_zero, List.cons_append, List.nil_append]; rfl)))
            | apply b_normal
            | (apply w_true; (focus (simp [*]; done)))
            | fail)
          refine ⟨l.length - (i + 1), by omega, [.cells 0 2 false [[.int .i64 0, .int .i64 0]], .cells 0 2 false [[.int .i64 c, .int .i64 a]], bld (dumpS (l.take (i + 1)))], 3, [(3, .ref 0 0 0 0), (5, .ref 1 0 0 0), (6, .map 2 0), (16, .isl 17 (l.map itemC)), (17, .int .i64 l.length), (18, .int .i64 ((i + 1 : Nat) : Int))],
            by simp, by rw [hE]; simp, by simp, ?_, ?_, i + 1, by omega, rfl, rfl, by simp [lookF], by simp [lookF], by simp [lookF], by simp [lookF], by simp [lookF], by simp [lookF]⟩
          · intro b hb
            simp only [List.mem_cons, List.not_mem_nil, or_false] at hb
            rcases hb with rfl | rfl | rfl
            · simp
            · simp
            · exact bld_under _ _
          · intro p hp
            simp only [List.mem_cons, List.not_mem_nil, or_false] at hp
            rcases hp with rfl | rfl | rfl | rfl | rfl | rfl
            all_goals exact .inl ⟨by simp [*], by simp⟩
      | cons a0 al =>
        have hAD := attrsD_some (l := a0 :: al) (by simp)
        generalize a0 :: al = A at hx hw hE hsI hxal hAD
        simp only [itemD, hAD] at hw
        have hAl := attrsS_len hxal
        repeat' (first
          | apply o_end
          | apply t_normal
          | (apply o_val; (focus (first | rfl | (apply g_in; rfl; rfl; (focus (simp [*]; done))))); (focus (simp [*]; rfl)))
          | apply w_block
          | fail)
        clear q1 hj hw
        refine w_loopT (fun kk f H => ∃ (j : Nat), j ≤ A.length ∧ kk = A.length - j ∧ H = [.cells 0 2 false [[.int .i64 0, .int .i64 0]], .cells 0 2 false [[.int .i64 c, .int .i64 a]], bld (D0 ++ J ++ attrsS (A.take j))] ∧ f 3 = .ref 0 0 0 0 ∧ f 5 = .ref 1 0 0 0 ∧ f 6 = .map 2 0 ∧ f 16 = .isl 17 (l.map itemC) ∧ f 17 = .int .i64 l.length ∧ f 18 = .int .i64 i ∧
          f 8 = .box (encT w ++ encT n ++ encT o ++ encT cc ++ encT t ++ [.isl 6 (A.map encA), formO fo]) ∧ f 27 = .isl 6 (A.map encA) ∧ f 28 = .int .i64 A.length ∧ f 29 = .int .i64 j) A.length ⟨0, by simp, by simp, by simp [attrsS], by simp [*], by simp [*], by simp [*], by simp [*], by simp [*], by simp [*], by simp [*], by simp [*], by simp [*], by simp [*]⟩ ?_
        clear g3 g5 g6 g16 g17 g18 hx
        rintro k f H ⟨j, hj, rfl, rfl, g3, g5, g6, g16, g17, g18, g8, g27, g28, g29⟩
        by_cases hjl : j < A.length
        · have hcj : decide ((j : Int) < (A.length : Int)) = true := by simp; omega
          have hAE : attrsS (A.take (j + 1)) = attrsS (A.take j) ++ (32 :: 40 :: attrS A[j] ++ [41]) := attrsS_take hjl
          have hAm : (attrsS (A.take j)).length ≤ 100000000 := by
            have h1 := attrsS_len (l := A.take j) (fun x hx => hxal x (List.mem_of_mem_take hx))
            have h2 : (A.take j).length ≤ 2000 := by simp; omega
            omega
          have hm := hxal _ (List.getElem_mem hjl)
          have hSl := attrS_len hm
          have hs2 := Show_ok (m := m) A[j] hm.1 hm.2
          have q2 := writeString_ok (mx := m) (D0 ++ J ++ attrsS (A.take j)) (32 :: 40 :: attrS A[j] ++ [41]) (by simp; omega)
          clear hm
          rcases hxj : A[j] with ⟨w1, v1⟩
          rw [hxj] at hAE hSl hs2 q2
          generalize attrS ⟨w1, v1⟩ = sa at hAE hSl hs2 q2
          generalize attrsS (A.take j) = sA at hAE q2 hAm ⊢
          have c1 : sa.length ≤ 9223372036854775805 := by omega
          have c2 : sa.length ≤ 9223372036854775804 := by omega
          have c3 : sa.length + 1 + 1 ≤ 9223372036854775806 := by omega
          have c4 : sa.length + 1 + 1 + 1 ≤ 9223372036854775807 := by omega
          repeat' (first
            | apply w_seq
            | apply w_region
            | apply o_end
            | apply t_normal
            | (apply o_add; (focus (first | rfl | (apply g_in; rfl; rfl; (focus (simp [*]; done))))); (focus (simp [*]; rfl)); rfl; (focus (simp [*]; rfl)); rfl; (focus (apply wrap_i64 <;> omega)))
            | (apply o_cat; (focus (first | rfl | (apply g_in; rfl; rfl; (focus (simp [*]; done))))); (focus (simp [*]; rfl)); rfl; (focus (simp [*]; rfl)); rfl; (focus (first | omega | (simp; omega))); (focus (first | (simp; rfl) | rfl)))
            | (apply o_val; (focus (first | rfl | (apply g_in; rfl; rfl; (focus (simp [*]; done))))); (focus (simp [*]; rfl)))
            | (apply o_fuse; (focus (first | rfl | (apply g_in; rfl; rfl; (focus (simp [*]; done))))); rfl; (focus (simp [*]; first | rfl | exact ⟨rfl, rfl⟩)); (focus (first | rfl | (apply g_in; rfl; rfl; (focus (simp [*]; done))))); rfl; (focus (simp [*]; first | rfl | exact ⟨rfl, rfl⟩ | exact ⟨rfl, rfl, rfl⟩)); (focus (intro d hd; apply Under.flat; revert hd; revert d; simp; done)))
            | (apply o_fn fine; (focus (first | rfl | (apply g_in; rfl; rfl; (focus (simp [*]; done))))); (focus (simp [*]; exact ⟨rfl, rfl⟩)); (focus (exact hs2)); (focus (simp [*]; done)))
            | (apply o_amid fine 2; (focus (first | rfl | (apply g_in; rfl; rfl; (focus (simp [*]; done))))); (focus (simp [*]; exact ⟨rfl, rfl⟩)); (focus (exact q2)); (focus (simp [rn, rnL]; done)); (focus rfl); (focus rfl); (focus rfl); (focus (simp [under_func, under_agg, under_tuple]; done)); (focus (simp only [rowH, List.take_succ_cons, List.take_zero, List.cons_append, List.nil_append]; rfl)))
            | apply w_skip
            | apply w_block
            | apply b_normal
            | (apply w_true; (focus (simp [*]; done)))
            | fail)
          refine ⟨A.length - (j + 1), by omega, [.cells 0 2 false [[.int .i64 0, .int .i64 0]], .cells 0 2 false [[.int .i64 c, .int .i64 a]], bld (D0 ++ J ++ attrsS (A.take (j + 1)))], 3, [(3, .ref 0 0 0 0), (5, .ref 1 0 0 0), (6, .map 2 0), (16, .isl 17 (l.map itemC)), (17, .int .i64 l.length), (18, .int .i64 i), (8, .box (encT w ++ encT n ++ encT o ++ encT cc ++ encT t ++ [.isl 6 (A.map encA), formO fo])), (27, .isl 6 (A.map encA)), (28, .int .i64 A.length), (29, .int .i64 ((j + 1 : Nat) : Int))],
            by simp, by rw [hAE]; simp, by simp, ?_, ?_, j + 1, by omega, rfl, rfl, by simp [lookF], by simp [lookF], by simp [lookF], by simp [lookF], by simp [lookF], by simp [lookF], by simp [lookF], by simp [lookF], by simp [lookF], by simp [lookF]⟩
          · intro b hb
            simp only [List.mem_cons, List.not_mem_nil, or_false] at hb
            rcases hb with rfl | rfl | rfl
            · simp
            · simp
            · exact bld_under _ _
          · intro p hp
            simp only [List.mem_cons, List.not_mem_nil, or_false] at hp
            rcases hp with rfl | rfl | rfl | rfl | rfl | rfl | rfl | rfl | rfl | rfl
            all_goals exact .inl ⟨by simp [*], by simp⟩
        · have hcj : decide ((j : Int) < (A.length : Int)) = false := by simp; omega
          rw [show A.take j = A from List.take_of_length_le (by omega)]
          repeat' (first
            | apply w_seq
            | apply w_region
            | apply o_end
            | apply t_normal
            | (apply o_val; (focus (first | rfl | (apply g_in; rfl; rfl; (focus (simp [*]; done))))); (focus (simp [*]; rfl)))
            | apply w_exit
            | apply t_exit
            | apply b_here
            | (apply w_false; (focus (simp [*]; done)))
            | fail)
          clear g27 g28 g29 hAD hcj hjl hj
          cases fo with
          | none =>
            have q5 := writeString_ok (mx := m) (D0 ++ J ++ attrsS A) [10] (by simp; omega)
            simp only [List.append_nil] at hE
            simp only [formO] at g8 ⊢
            repeat' (first
              | apply w_region
              | apply o_end
              | apply t_normal
              | (apply o_add; (focus (first | rfl | (apply g_in; rfl; rfl; (focus (simp [*]; done))))); (focus (simp [*]; rfl)); rfl; (focus (simp [*]; rfl)); rfl; (focus (apply wrap_i64 <;> omega)))
              | (apply o_val; (focus (first | rfl | (apply g_in; rfl; rfl; (focus (simp [*]; done))))); (focus (simp [*]; rfl)))
              | (apply o_amid fine 2; (focus (first | rfl | (apply g_in; rfl; rfl; (focus (simp [*]; done))))); (focus (simp [*]; exact ⟨rfl, rfl⟩)); (focus (exact q5)); (focus (simp [rn, rnL]; done)); (focus rfl); (focus rfl); (focus rfl); (focus (simp [under_func, under_agg, under_tuple]; done)); (focus (simp only [rowH, List.take_succ_cons, List.take_zero, List.cons_append, List.nil_append]; rfl)))
              | apply w_skip
              | apply b_normal
              | (apply w_false; (focus (simp [*]; done)))
              | fail)
            refine ⟨l.length - (i + 1), by omega, [.cells 0 2 false [[.int .i64 0, .int .i64 0]], .cells 0 2 false [[.int .i64 c, .int .i64 a]], bld (dumpS (l.take (i + 1)))], 3, [(3, .ref 0 0 0 0), (5, .ref 1 0 0 0), (6, .map 2 0), (16, .isl 17 (l.map itemC)), (17, .int .i64 l.length), (18, .int .i64 ((i + 1 : Nat) : Int))],
              by simp, by rw [hE]; simp, by simp, ?_, ?_, i + 1, by omega, rfl, rfl, by simp [lookF], by simp [lookF], by simp [lookF], by simp [lookF], by simp [lookF], by simp [lookF]⟩
            · intro b hb
              simp only [List.mem_cons, List.not_mem_nil, or_false] at hb
              rcases hb with rfl | rfl | rfl
              · simp
              · simp
              · exact bld_under _ _
            · intro p hp
              simp only [List.mem_cons, List.not_mem_nil, or_false] at hp
              rcases hp with rfl | rfl | rfl | rfl | rfl | rfl
              all_goals exact .inl ⟨by simp [*], by simp⟩
          | some t0 =>
            have hta := hxt t0 rfl
            have htl := treeS_len hta
            simp only at hsI
            have q5 := writeString_ok (mx := m) (D0 ++ J ++ attrsS A) [32] (by simp; omega)
            have q6 := dump_ok (m := m) t0 (D0 ++ J ++ attrsS A ++ [32]) hta (by simp; omega)
            have q7 := writeString_ok (mx := m) (D0 ++ J ++ attrsS A ++ [32] ++ treeS t0) [10] (by simp; omega)
            simp only [List.append_nil] at hE
            simp only [formO] at g8 ⊢
            obtain ⟨ct, hct⟩ := isTree_ex t0
            have hft := treeD_flat t0
            rw [show treeD t0 = .box ct from hct] at q6 hft
            rw [show treeD t0 = .box ct from hct] at g8 ⊢
            have hrn : rnL (fun x => x + 2) ct = ct := by
              have h1 := rn_under (ι := fun x => x + 2) (n := 0) (fun j hj => by omega) (Under.flat (n := 0) hft)
              simpa [rn] using h1
            generalize treeS t0 = st at q6 q7 hE htl
            clear hct hxt
            repeat' (first
              | apply w_seq
              | apply w_region
              | apply o_end
              | apply t_normal
              | (apply o_add; (focus (first | rfl | (apply g_in; rfl; rfl; (focus (simp [*]; done))))); (focus (simp [*]; rfl)); rfl; (focus (simp [*]; rfl)); rfl; (focus (apply wrap_i64 <;> omega)))
              | (apply o_val; (focus (first | rfl | (apply g_in; rfl; rfl; (focus (simp [*]; done))))); (focus (simp [*]; rfl)))
              | (apply o_amid fine 2; (focus (first | rfl | (apply g_in; rfl; rfl; (focus (simp [*]; done))))); (focus (simp [*]; exact ⟨rfl, rfl⟩)); (focus (exact q5)); (focus (simp [rn, rnL, *]; done)); (focus rfl); (focus rfl); (focus rfl); (focus (simp [under_func, under_agg, under_tuple, *]; done)); (focus (simp only [rowH, List.take_succ_cons, List.take_zero, List.cons_append, List.nil_append]; rfl)))
              | (apply o_amid fine 2; (focus (first | rfl | (apply g_in; rfl; rfl; (focus (simp [*]; done))))); (focus (simp [*]; exact ⟨rfl, rfl⟩)); (focus (exact q6)); (focus (simp [rn, rnL, *]; done)); (focus rfl); (focus rfl); (focus rfl); (focus (simp [under_func, under_agg, under_tuple, *]; done)); (focus (simp only [rowH, List.take_succ_cons, List.take_zero, List.cons_append, List.nil_append]; rfl)))
              | (apply o_amid fine 2; (focus (first | rfl | (apply g_in; rfl; rfl; (focus (simp [*]; done))))); (focus (simp [*]; exact ⟨rfl, rfl⟩)); (focus (exact q7)); (focus (simp [rn, rnL, *]; done)); (focus rfl); (focus rfl); (focus rfl); (focus (simp [under_func, under_agg, under_tuple, *]; done)); (focus (simp only [rowH, List.take_succ_cons, List.take_zero, List.cons_append, List.nil_append]; rfl)))
              | apply b_normal
              | (apply w_true; (focus (simp [*]; done)))
              | fail)
            refine ⟨l.length - (i + 1), by omega, [.cells 0 2 false [[.int .i64 0, .int .i64 0]], .cells 0 2 false [[.int .i64 c, .int .i64 a]], bld (dumpS (l.take (i + 1)))], 3, [(3, .ref 0 0 0 0), (5, .ref 1 0 0 0), (6, .map 2 0), (16, .isl 17 (l.map itemC)), (17, .int .i64 l.length), (18, .int .i64 ((i + 1 : Nat) : Int))],
              by simp, by rw [hE]; simp, by simp, ?_, ?_, i + 1, by omega, rfl, rfl, by simp [lookF], by simp [lookF], by simp [lookF], by simp [lookF], by simp [lookF], by simp [lookF]⟩
            · intro b hb
              simp only [List.mem_cons, List.not_mem_nil, or_false] at hb
              rcases hb with rfl | rfl | rfl
              · simp
              · simp
              · exact bld_under _ _
            · intro p hp
              simp only [List.mem_cons, List.not_mem_nil, or_false] at hp
              rcases hp with rfl | rfl | rfl | rfl | rfl | rfl
              all_goals exact .inl ⟨by simp [*], by simp⟩
    · have hc : decide ((i : Int) < (l.length : Int)) = false := by simp; omega
      rw [show l.take i = l from List.take_of_length_le (by omega)]
      repeat' (first
        | apply w_seq
        | apply w_region
        | apply o_end
        | apply t_normal
        | (apply o_val; (focus (first | rfl | (apply g_in; rfl; rfl; (focus (simp [*]; done))))); (focus (simp [*]; rfl)))
        | apply w_ret
        | apply w_exit
        | apply t_exit
        | apply b_here
        | (apply w_false; (focus (simp [*]; done)))
        | (apply w_drawN; rfl; (focus (decide +kernel)); (focus (simp; rfl)))
        | (apply a_end; (focus (simp; rfl)))
        | (apply a_val; (focus (simp; rfl)); (focus (intro u; first | rfl | (apply g_in; rfl; rfl; (focus (simp [*]; done))))); (focus (intro H' u; simp [*]; rfl)); (focus (simp only [List.nil_append, List.cons_append]; rfl)))
        | (apply a_turns; (focus (simp; rfl)); (focus (intro u; first | rfl | (apply g_in; rfl; rfl; (focus (simp [*]; done))))); (focus (intro u; simp [*]; exact ⟨rfl, rfl⟩)); (focus (exact hs1)); (focus (first | rfl | (simp only [List.all_cons, List.all_nil, List.length_cons, List.length_nil, Nat.zero_add, Nat.reduceAdd, Bool.and_true, Bool.true_and]; done) | (simp only [List.all_cons, List.all_nil, List.length_cons, List.length_nil, Nat.zero_add, Nat.reduceAdd, Bool.and_true, Bool.true_and]; decide +kernel))); (focus (simp only [List.nil_append, List.cons_append]; rfl)); (focus (simp; rfl)))
        | (apply a_mem; (focus (simp; rfl)); (focus (intro u; first | rfl | (apply g_in; rfl; rfl; (focus (simp [*]; done))))); (focus (intro u; rfl)); (focus (intro u; simp [*]; exact ⟨rfl, rfl⟩)); (focus (first | rfl | (simp only [List.all_cons, List.all_nil, List.length_cons, List.length_nil, Nat.zero_add, Nat.reduceAdd, Bool.and_true, Bool.true_and]; done) | (simp only [List.all_cons, List.all_nil, List.length_cons, List.length_nil, Nat.zero_add, Nat.reduceAdd, Bool.and_true, Bool.true_and]; decide +kernel))); (focus (simp only [List.nil_append, List.cons_append]; rfl)); (focus (simp; rfl)))
        | (apply a_tieG; (focus (simp; rfl)); (focus (intro u; first | rfl | (apply g_in; rfl; rfl; (focus (simp [*]; done))))); (focus (intro u; simp [*]; rfl)); (focus (simp only [List.mem_cons, List.not_mem_nil, or_false, forall_eq_or_imp, forall_eq]; (repeat' apply And.intro) <;> first | (left; (first | rfl | (simp only [List.all_cons, List.all_nil, List.length_cons, List.length_nil, Nat.zero_add, Nat.reduceAdd, Bool.and_true, Bool.true_and]; done) | (simp only [List.all_cons, List.all_nil, List.length_cons, List.length_nil, Nat.zero_add, Nat.reduceAdd, Bool.and_true, Bool.true_and]; decide +kernel))) | (right; intro u; simp [*]; done) | (right; intro u; simp [*]; rfl))); (focus (simp only [List.nil_append, List.cons_append]; rfl)); (focus (simp; rfl)))
        | fail)
      · apply f_retf
        · simp [*]; rfl
        · simp
        · rfl
end Go.Proofs.Ytknkkfdkcemolaa.Vm
end
section
/- Walks: where a description's items begin; the same numbers. -/
set_option linter.unusedSimpArgs false
set_option linter.unusedVariables false
set_option maxRecDepth 100000
set_option maxHeartbeats 4000000
namespace Go.Proofs.Ytknkkfdkcemolaa.Vm
open Go
variable {m : Int}
attribute [local irreducible] wpD opsD thenD blockD planD planA LoopD
attribute [local simp] List.take_of_length_le List.drop_of_length_le bne mvD itemsL_flat

theorem SameInts_ok (a b : List Int) (ha : a.length < 1000000000000) : Ans (L m) 14 [intsL a, intsL b] (.bool (a == b)) := by
  refine fn_of_body L_ok (fn := Try.f14) rfl rfl rfl rfl (by kernel_rfl) ?_
  by_cases hl : a.length = b.length
  · have hli : (a.length : Int) = (b.length : Int) := by omega
    repeat' (first
      | apply w_seq
      | apply w_region
      | apply o_end
      | apply t_normal
      | (apply o_val; (focus (first | rfl | (apply g_in; rfl; rfl; (focus (simp [*]; done))))); (focus (simp [*]; rfl)))
      | apply w_skip
      | apply w_block
      | (apply w_false; (focus (simp [*]; done)))
      | fail)
    refine w_loop (fun n f H => ∃ (i : Nat), i ≤ a.length ∧ n = a.length - i ∧ H = [] ∧ a.take i = b.take i ∧ f 0 = intsL a ∧ f 1 = intsL b ∧ f 5 = .int .i64 i) a.length ⟨0, by simp⟩ ?_
    rintro n f H ⟨i, hi, rfl, rfl, hp, h0, h1, h5⟩
    by_cases hlt : i < a.length
    · have hlt2 : i < b.length := by omega
      clear hl hli
      by_cases he : a[i] = b[i]
      · have hp2 : a.take (i + 1) = b.take (i + 1) := by
          rw [List.take_succ_eq_append_getElem hlt, List.take_succ_eq_append_getElem hlt2, hp, he]
        clear hp
        repeat' (first
          | apply w_seq
          | apply w_region
          | apply o_end
          | apply t_normal
          | (apply o_add; (focus (first | rfl | (apply g_in; rfl; rfl; (focus (simp [*]; done))))); (focus (simp [*]; rfl)); rfl; (focus (simp [*]; rfl)); rfl; (focus (apply wrap_i64 <;> omega)))
          | (apply o_val; (focus (first | rfl | (apply g_in; rfl; rfl; (focus (simp [*]; done))))); (focus (simp [*]; rfl)))
          | apply w_skip
          | apply w_block
          | apply b_normal
          | (apply w_true; (focus (simp [*]; done)))
          | (apply w_false; (focus (simp [*]; done)))
          | (apply w_drawA; rfl; (focus (decide +kernel)); (focus (simp; rfl)); (focus (simp; rfl)))
          | (apply a_end; (focus (simp; rfl)))
          | (apply a_val; (focus (simp; rfl)); (focus (intro u; first | rfl | (apply g_in; rfl; rfl; (focus (simp [*]; done))))); (focus (intro H' u; simp [*]; rfl)); (focus (simp only [List.nil_append, List.cons_append]; rfl)))
          | fail)
        exact ⟨a.length - (i + 1), by omega, i + 1, by omega, rfl, rfl, hp2, by simp [*], by simp [*], by simp [*]⟩
      · have hq : (a == b) = false := by
          rw [beq_eq_false_iff_ne]
          intro h
          subst h
          exact he rfl
        clear hp
        have he2 : (a[i] != b[i]) = true := by rw [bne_iff_ne]; exact he
        have he3 : (a[i] == b[i]) = false := by simpa using he
        repeat' (first
          | apply w_seq
          | apply w_region
          | apply o_end
          | apply t_normal
          | (apply o_val; (focus (first | rfl | (apply g_in; rfl; rfl; (focus (simp [*]; done))))); (focus (simp [*]; rfl)))
          | (apply f_retf; (focus (simp [*]; rfl)); (focus (simp; done)); (focus (simp [*]; done)))
          | apply w_skip
          | apply w_block
          | apply w_ret
          | apply t_ret
          | apply b_ret
          | (apply w_true; (focus (simp [*]; done)))
          | (apply w_drawA; rfl; (focus (decide +kernel)); (focus (simp; rfl)); (focus (simp; rfl)))
          | (apply a_end; (focus (simp; rfl)))
          | (apply a_val; (focus (simp; rfl)); (focus (intro u; first | rfl | (apply g_in; rfl; rfl; (focus (simp [*]; done))))); (focus (intro H' u; simp [*]; rfl)); (focus (simp only [List.nil_append, List.cons_append]; rfl)))
          | fail)
    · have hq : (a == b) = true := by
        rw [beq_iff_eq]
        rwa [List.take_of_length_le (by omega), List.take_of_length_le (by omega)] at hp
      clear hp hl hli
      repeat' (first
        | apply w_seq
        | apply w_region
        | apply o_end
        | apply t_normal
        | (apply o_val; (focus (first | rfl | (apply g_in; rfl; rfl; (focus (simp [*]; done))))); (focus (simp [*]; rfl)))
        | (apply f_retf; (focus (simp [*]; rfl)); (focus (simp; done)); (focus (simp [*]; done)))
        | apply w_ret
        | apply w_exit
        | apply t_exit
        | apply b_here
        | (apply w_false; (focus (simp [*]; done)))
        | fail)
  · have hli : ¬ (a.length : Int) = (b.length : Int) := by omega
    have hli2 : ((a.length : Int) == (b.length : Int)) = false := by simpa using hli
    have hq : (a == b) = false := by
      rw [beq_eq_false_iff_ne]
      intro h
      exact hl (congrArg List.length h)
    repeat' (first
      | apply w_seq
      | apply w_region
      | apply o_end
      | apply t_normal
      | (apply o_val; (focus (first | rfl | (apply g_in; rfl; rfl; (focus (simp [*]; done))))); (focus (simp [*]; rfl)))
      | (apply f_retf; (focus (simp [*]; rfl)); (focus (simp; done)); (focus (simp [*]; done)))
      | apply w_ret
      | apply t_ret
      | (apply w_true; (focus (simp [*]; done)))
      | fail)
/-- Where the items of a description begin. -/
def begins (s : List UInt8) : List Int := (readP s).1.map fun i => (i.word.at_ : Int)
def beginsL (l : List Int) : D := match l with
  | [] => .nilsl
  | x :: l => intsL (x :: l)
theorem beginsL_some {l : List Int} (h : l ≠ []) : beginsL l = intsL l := by cases l with
  | nil => exact absurd rfl h
  | cons a l => rfl
abbrev wr0 : Blk := .cells 0 2 false [[.int .i64 0, .int .i64 0]]
abbrev wrB (c a : Nat) : Blk := .cells 0 2 false [[.int .i64 c, .int .i64 a]]
abbrev atsI (l : List ItemT) : List (List D) := l.map fun i => [.int .i64 i.word.at_]
def Sep (out rest l : List ItemT) : Prop := out ++ rest = l
theorem Sep.len {out rest l : List ItemT} (h : Sep out rest l) : l.length = out.length + rest.length := by rw [← h]; simp
theorem Sep.get {out l : List ItemT} {x : ItemT} {r : List ItemT} (h : Sep out (x :: r) l) (hl : out.length < l.length) : l[out.length] = x := by
  subst h
  simp
theorem Sep.next {out l : List ItemT} {x : ItemT} {r : List ItemT} (h : Sep out (x :: r) l) : Sep (out ++ [x]) r l := by
  subst h
  simp [Sep]
theorem Items_turns (s : List UInt8) (hs : s.length < 1000000) (hne : (readP s).1 ≠ []) : ∃ g, CallsV (L m) 11 [.str s] [] (Turns (.tuple [.slice 2 0 (readP s).1.length g, wrD (readP s).2.1 (readP s).2.2])
    [wrB (readP s).2.1 (readP s).2.2, wrB (readP s).2.1 (readP s).2.2, .cells g 1 false (atsI (readP s).1)]) := by
  refine ⟨(readP s).1.length, ?_⟩
  refine turns_of_body L_ok (fn := Try.f11) rfl rfl rfl rfl (by kernel_rfl) ?_
  have a1 := Read_ok (m := m) s hs
  have hsz := (readP_all s).2
  generalize readP s = x at a1 hsz hne ⊢
  obtain ⟨l, c, a⟩ := x
  simp only at a1 hsz hne ⊢
  rw [itemsL_some hne] at a1
  have hlen := sizeL_len l
  repeat' (first
    | apply w_seq
    | apply w_region
    | apply o_end
    | apply t_normal
    | (apply o_val; (focus (first | rfl | (apply g_in; rfl; rfl; (focus (simp [*]; done))))); (focus (simp [*]; rfl)))
    | (apply o_fn fine; (focus (first | rfl | (apply g_in; rfl; rfl; (focus (simp [*]; done))))); (focus (simp [*]; exact ⟨rfl, rfl⟩)); (focus (exact a1)); (focus (simp [*]; done)))
    | (apply o_mem; (focus (first | rfl | (apply g_in; rfl; rfl; (focus (simp [*]; done))))); rfl; (focus (simp [*]; exact ⟨rfl, rfl⟩)))
    | apply w_block
    | fail)
  clear a1
  refine w_loopT (fun n f H => ∃ (out rest : List ItemT) (A : D), Sep out rest l ∧ n = rest.length ∧ f 3 = .ref 0 0 0 0 ∧ f 5 = .ref 1 0 0 0 ∧ f 6 = A ∧ f 14 = .isl 17 (l.map itemC) ∧ f 15 = .int .i64 l.length ∧ f 16 = .int .i64 out.length ∧
    ((out = [] ∧ A = .nilsl ∧ H = [wr0, wrB c a]) ∨ (out ≠ [] ∧ A = .slice 2 0 out.length out.length ∧ H = [wr0, wrB c a, .cells out.length 1 false (atsI out)]))) l.length
    ⟨[], l, .nilsl, rfl, by simp, by simp, by simp, by simp, by simp, by simp, by simp, .inl ⟨rfl, rfl, rfl⟩⟩ ?_
  rintro n f H ⟨out, rest, A, hsep, rfl, g3, g5, g6, g14, g15, g16, hor⟩
  cases rest with
  | cons x r =>
    have hlt : out.length < l.length := by rw [hsep.len]; simp
    have hx : l[out.length] = x := hsep.get hlt
    have hsep2 := hsep.next
    have hc : decide ((out.length : Int) < (l.length : Int)) = true := by simp; omega
    have hb1 : (out.length + 1) * 8 ≤ 140737488355328 := by omega
    have hb2 : out.length ≤ 140737488355327 := by omega
    rcases hor with ⟨rfl, rfl, rfl⟩ | ⟨h0, rfl, rfl⟩
    · simp only [List.length_nil] at hlt hx
      clear hc
      repeat' (first
        | apply w_seq
        | apply w_region
        | apply o_end
        | apply t_normal
        | (apply o_add; (focus (first | rfl | (apply g_in; rfl; rfl; (focus (simp [*]; done))))); (focus (simp [*]; rfl)); rfl; (focus (simp [*]; rfl)); rfl; (focus (apply wrap_i64 <;> omega)))
        | (apply o_val; (focus (first | rfl | (apply g_in; rfl; rfl; (focus (simp [*]; done))))); (focus (simp [*]; rfl)))
        | (apply o_fuse; (focus (first | rfl | (apply g_in; rfl; rfl; (focus (simp [*]; done))))); rfl; (focus (simp [*]; first | rfl | exact ⟨rfl, rfl⟩)); (focus (first | rfl | (apply g_in; rfl; rfl; (focus (simp [*]; done))))); rfl; (focus (simp [*]; first | rfl | exact ⟨rfl, rfl⟩ | exact ⟨rfl, rfl, rfl⟩)); (focus (intro d hd; apply Under.flat; revert hd; revert d; simp; done)))
        | (apply o_frz (op := Op.buildSlice _ _ _); (focus (first | rfl | (apply g_in; rfl; rfl; (focus (simp [*]; done))))); rfl; (focus (simp [*]; exact ⟨rfl, rfl⟩)); (focus (simp; done)); (focus (first | exact Snap.flat (by simp [*]; done) | exact Snap.ref_flat (by simp) rfl rfl rfl (by simp) (by simp [*]; done) | exact Snap.slice_flat (by simp) rfl (by simp; rfl) (by simp) (by simp [*]; done) | exact Snap.slice_flat (by simp) (by simp; exact ⟨rfl, rfl, rfl⟩) (by simp; rfl) (by simp) (by simp [*]; done))))
        | (apply o_mem; (focus (first | rfl | (apply g_in; rfl; rfl; (focus (simp [*]; done))))); rfl; (focus (simp [*]; exact ⟨rfl, rfl⟩)))
        | apply w_skip
        | apply w_block
        | apply b_normal
        | (apply w_true; (focus (simp [*]; done)))
        | fail)
      refine ⟨r.length, by simp, [wr0, wrB c a, .cells 1 1 false (atsI [x])], 3, [(3, .ref 0 0 0 0), (5, .ref 1 0 0 0), (6, .slice 2 0 1 1), (14, .isl 17 (l.map itemC)), (15, .int .i64 l.length), (16, .int .i64 1)],
        by simp, by simp [*], by simp, ?_, ?_, [x], r, .slice 2 0 1 1, hsep2, rfl, by simp [lookF], by simp [lookF], by simp [lookF], by simp [lookF], by simp [lookF], by simp [lookF], .inr ⟨by simp, rfl, rfl⟩⟩
      · intro b hb
        simp only [List.mem_cons, List.not_mem_nil, or_false] at hb
        rcases hb with rfl | rfl | rfl
        all_goals simp
      · intro p hp
        simp only [List.mem_cons, List.not_mem_nil, or_false] at hp
        rcases hp with rfl | rfl | rfl | rfl | rfl | rfl
        all_goals exact .inl ⟨by simp [*], by simp⟩
    · skip
      repeat' (first
        | apply w_seq
        | apply w_region
        | apply o_end
        | apply t_normal
        | (apply o_add; (focus (first | rfl | (apply g_in; rfl; rfl; (focus (simp [*]; done))))); (focus (simp [*]; rfl)); rfl; (focus (simp [*]; rfl)); rfl; (focus (apply wrap_i64 <;> omega)))
        | (apply o_val; (focus (first | rfl | (apply g_in; rfl; rfl; (focus (simp [*]; done))))); (focus (simp [*]; rfl)))
        | (apply o_fuse; (focus (first | rfl | (apply g_in; rfl; rfl; (focus (simp [*]; done))))); rfl; (focus (simp [*]; first | rfl | exact ⟨rfl, rfl⟩)); (focus (first | rfl | (apply g_in; rfl; rfl; (focus (simp [*]; done))))); rfl; (focus (simp [*]; first | rfl | exact ⟨rfl, rfl⟩ | exact ⟨rfl, rfl, rfl⟩)); (focus (intro d hd; apply Under.flat; revert hd; revert d; simp; done)))
        | (apply o_frz (op := Op.buildSlice _ _ _); (focus (first | rfl | (apply g_in; rfl; rfl; (focus (simp [*]; done))))); rfl; (focus (simp [*]; exact ⟨rfl, rfl⟩)); (focus (simp; done)); (focus (first | exact Snap.flat (by simp [*]; done) | exact Snap.ref_flat (by simp) rfl rfl rfl (by simp) (by simp [*]; done) | exact Snap.slice_flat (by simp) rfl (by simp; rfl) (by simp) (by simp [*]; done) | exact Snap.slice_flat (by simp) (by simp; exact ⟨rfl, rfl, rfl⟩) (by simp; rfl) (by simp) (by simp [*]; done))))
        | (apply o_mem; (focus (first | rfl | (apply g_in; rfl; rfl; (focus (simp [*]; done))))); rfl; (focus (simp [*]; exact ⟨rfl, rfl⟩)))
        | apply w_skip
        | apply w_block
        | apply b_normal
        | (apply w_true; (focus (simp [*]; done)))
        | fail)
      refine ⟨r.length, by simp, [wr0, wrB c a, .cells (out.length + 1) 1 false (atsI (out ++ [x]))], 3, [(3, .ref 0 0 0 0), (5, .ref 1 0 0 0), (6, .slice 2 0 (out.length + 1) (out.length + 1)), (14, .isl 17 (l.map itemC)), (15, .int .i64 l.length), (16, .int .i64 ((out.length + 1 : Nat) : Int))],
        by simp, by simp [*], by simp, ?_, ?_, out ++ [x], r, .slice 2 0 (out.length + 1) (out.length + 1), hsep2, rfl, by simp [lookF], by simp [lookF], by simp [lookF], by simp [lookF], by simp [lookF], by simp [lookF], .inr ⟨by simp, by simp, by simp⟩⟩
      · intro b hb
        simp only [List.mem_cons, List.not_mem_nil, or_false] at hb
        rcases hb with rfl | rfl | rfl
        · simp
        · simp
        · intro y hy d hd
          obtain ⟨z, _, rfl⟩ := List.mem_map.1 hy
          obtain rfl := List.mem_singleton.1 hd
          exact .int _ _
      · intro p hp
        simp only [List.mem_cons, List.not_mem_nil, or_false] at hp
        rcases hp with rfl | rfl | rfl | rfl | rfl | rfl
        all_goals exact .inl ⟨by simp [*], by simp⟩
  | nil =>
    obtain rfl : out = l := by simpa [Sep] using hsep
    have hc : decide ((out.length : Int) < (out.length : Int)) = false := by simp
    rcases hor with ⟨h0, rfl, rfl⟩ | ⟨h0, rfl, rfl⟩
    · exact absurd h0 hne
    · clear hsep
      repeat' (first
        | apply w_seq
        | apply w_region
        | apply o_end
        | apply t_normal
        | (apply o_val; (focus (first | rfl | (apply g_in; rfl; rfl; (focus (simp [*]; done))))); (focus (simp [*]; rfl)))
        | apply w_ret
        | apply w_exit
        | apply t_exit
        | apply b_here
        | (apply w_false; (focus (simp [*]; done)))
        | (apply w_drawN; rfl; (focus (decide +kernel)); (focus (simp; rfl)))
        | (apply a_end; (focus (simp; rfl)))
        | (apply a_val; (focus (simp; rfl)); (focus (intro u; first | rfl | (apply g_in; rfl; rfl; (focus (simp [*]; done))))); (focus (intro H' u; simp [*]; rfl)); (focus (simp only [List.nil_append, List.cons_append]; rfl)))
        | (apply a_tie; (focus (simp; rfl)); (focus (intro u; first | rfl | (apply g_in; rfl; rfl; (focus (simp [*]; done))))); (focus (intro u; simp [*]; rfl)); (focus (first | rfl | (simp only [List.all_cons, List.all_nil, List.length_cons, List.length_nil, Nat.zero_add, Nat.reduceAdd, Bool.and_true, Bool.true_and]; done) | (simp only [List.all_cons, List.all_nil, List.length_cons, List.length_nil, Nat.zero_add, Nat.reduceAdd, Bool.and_true, Bool.true_and]; decide +kernel))); (focus (simp only [List.nil_append, List.cons_append]; rfl)); (focus (simp; rfl)))
        | (apply a_mem; (focus (simp; rfl)); (focus (intro u; first | rfl | (apply g_in; rfl; rfl; (focus (simp [*]; done))))); (focus (intro u; rfl)); (focus (intro u; simp [*]; exact ⟨rfl, rfl⟩)); (focus (first | rfl | (simp only [List.all_cons, List.all_nil, List.length_cons, List.length_nil, Nat.zero_add, Nat.reduceAdd, Bool.and_true, Bool.true_and]; done) | (simp only [List.all_cons, List.all_nil, List.length_cons, List.length_nil, Nat.zero_add, Nat.reduceAdd, Bool.and_true, Bool.true_and]; decide +kernel))); (focus (simp only [List.nil_append, List.cons_append]; rfl)); (focus (simp; rfl)))
        | fail)
      apply t_retT
      · simp [*]; rfl
      · rfl
      · rfl
end Go.Proofs.Ytknkkfdkcemolaa.Vm
end
section
/- Walks: what every program answers that is one; how deep parts may be. -/
set_option linter.unusedSimpArgs false
set_option linter.unusedVariables false
set_option maxRecDepth 100000
set_option maxHeartbeats 4000000
namespace Go.Proofs.Ytknkkfdkcemolaa.Vm
open Go
variable {m : Int}
attribute [local irreducible] wpD opsD thenD blockD planD planA LoopD
attribute [local simp] List.take_of_length_le List.drop_of_length_le bne mvD itemsL_flat

theorem Items_ok (s : List UInt8) (hs : s.length < 1000000) : Ans (L m) 11 [.str s] (.tuple [beginsL (begins s), wrD (readP s).2.1 (readP s).2.2]) := by
  by_cases hne : (readP s).1 = []
  · have hb : begins s = [] := by unfold begins; rw [hne]; rfl
    rw [hb]
    clear hb
    refine fn_of_body L_ok (fn := Try.f11) rfl rfl rfl rfl (by kernel_rfl) ?_
    have a1 := Read_ok (m := m) s hs
    generalize readP s = x at a1 hne ⊢
    obtain ⟨l, c, a⟩ := x
    simp only at a1 hne ⊢
    subst hne
    simp only [itemsL] at a1
    repeat' (first
      | apply w_seq
      | apply w_region
      | apply o_end
      | apply t_normal
      | (apply o_val; (focus (first | rfl | (apply g_in; rfl; rfl; (focus (simp [*]; done))))); (focus (simp [*]; rfl)))
      | (apply o_fn fine; (focus (first | rfl | (apply g_in; rfl; rfl; (focus (simp [*]; done))))); (focus (simp [*]; exact ⟨rfl, rfl⟩)); (focus (exact a1)); (focus (simp [*]; done)))
      | (apply o_mem; (focus (first | rfl | (apply g_in; rfl; rfl; (focus (simp [*]; done))))); rfl; (focus (simp [*]; exact ⟨rfl, rfl⟩)))
      | apply w_block
      | fail)
    apply loop_is
    apply loop_unfold
    repeat' (first
      | apply w_seq
      | apply w_region
      | apply o_end
      | apply t_normal
      | (apply o_val; (focus (first | rfl | (apply g_in; rfl; rfl; (focus (simp [*]; done))))); (focus (simp [*]; rfl)))
      | apply w_ret
      | apply w_exit
      | apply t_exit
      | apply b_here
      | (apply w_false; (focus (simp [*]; done)))
      | (apply w_drawN; rfl; (focus (decide +kernel)); (focus (simp; rfl)))
      | (apply a_end; (focus (simp; rfl)))
      | (apply a_val; (focus (simp; rfl)); (focus (intro u; first | rfl | (apply g_in; rfl; rfl; (focus (simp [*]; done))))); (focus (intro H' u; simp [*]; rfl)); (focus (simp only [List.nil_append, List.cons_append]; rfl)))
      | (apply a_tie; (focus (simp; rfl)); (focus (intro u; first | rfl | (apply g_in; rfl; rfl; (focus (simp [*]; done))))); (focus (intro u; simp [*]; rfl)); (focus (first | rfl | (simp only [List.all_cons, List.all_nil, List.length_cons, List.length_nil, Nat.zero_add, Nat.reduceAdd, Bool.and_true, Bool.true_and]; done) | (simp only [List.all_cons, List.all_nil, List.length_cons, List.length_nil, Nat.zero_add, Nat.reduceAdd, Bool.and_true, Bool.true_and]; decide +kernel))); (focus (simp only [List.nil_append, List.cons_append]; rfl)); (focus (simp; rfl)))
      | (apply a_mem; (focus (simp; rfl)); (focus (intro u; first | rfl | (apply g_in; rfl; rfl; (focus (simp [*]; done))))); (focus (intro u; rfl)); (focus (intro u; simp [*]; exact ⟨rfl, rfl⟩)); (focus (first | rfl | (simp only [List.all_cons, List.all_nil, List.length_cons, List.length_nil, Nat.zero_add, Nat.reduceAdd, Bool.and_true, Bool.true_and]; done) | (simp only [List.all_cons, List.all_nil, List.length_cons, List.length_nil, Nat.zero_add, Nat.reduceAdd, Bool.and_true, Bool.true_and]; decide +kernel))); (focus (simp only [List.nil_append, List.cons_append]; rfl)); (focus (simp; rfl)))
      | fail)
    · apply f_retf
      · simp [*]; rfl
      · simp
      · rfl
  · obtain ⟨g, h⟩ := Items_turns (m := m) s hs hne
    refine ans_of_turns h ?_
    have hb : begins s ≠ [] := by
      unfold begins
      simpa using hne
    rw [beginsL_some hb]
    have hE : intsL (begins s) = .isl 1 (atsI (readP s).1) := by
      unfold begins intsL atsI
      rw [List.map_map]
      rfl
    rw [hE]
    refine .tuple (by simp) (fun k d e hd he => ?_)
    match k, hd, he with
    | 1, hd, he =>
      cases hd
      cases he
      exact .flat (by simp)
    | k + 2, hd, he => simp at hd
    | 0, hd, he =>
    cases hd
    cases he
    refine Snap.slice_flat trivial rfl (by simp) (by simp) ?_
    intro y hy d hd
    obtain ⟨z, _, rfl⟩ := List.mem_map.1 hy
    obtain rfl := List.mem_singleton.1 hd
    exact .int _ _
theorem awake_ok : Ans (L m) 9 [] (.bool true) := by
  refine fn_of_body L_ok (fn := Try.f9) rfl rfl rfl rfl (by kernel_rfl) ?_
  have a1 := Dump_ok (m := m) [112, 114, 111, 112, 101, 114, 116, 121, 32, 112, 32, 61, 32, 110, 111, 116, 32, 107, 110, 111, 119, 115, 32, 115, 59] (by decide)
  have e1 : dumpS (readP [112, 114, 111, 112, 101, 114, 116, 121, 32, 112, 32, 61, 32, 110, 111, 116, 32, 107, 110, 111, 119, 115, 32, 115, 59]).1 = [112, 114, 111, 112, 101, 114, 116, 121, 32, 112, 32, 40, 110, 111, 116, 32, 40, 107, 110, 111, 119, 115, 32, 115, 41, 41, 10] := by kernel_rfl
  have e2 : (readP [112, 114, 111, 112, 101, 114, 116, 121, 32, 112, 32, 61, 32, 110, 111, 116, 32, 107, 110, 111, 119, 115, 32, 115, 59]).2 = (0, 0) := by kernel_rfl
  have a2 := Dump_ok (m := m) [115, 101, 99, 114, 101, 116] (by decide)
  have e3 : readP [115, 101, 99, 114, 101, 116] = ([], 4, 6) := by kernel_rfl
  have a3 := Items_ok (m := m) [115, 101, 99, 114, 101, 116, 32, 97, 59, 32, 115, 101, 99, 114, 101, 116, 32, 98, 59] (by decide)
  have e4 : begins [115, 101, 99, 114, 101, 116, 32, 97, 59, 32, 115, 101, 99, 114, 101, 116, 32, 98, 59] = [0, 10] := by kernel_rfl
  have e5 : (readP [115, 101, 99, 114, 101, 116, 32, 97, 59, 32, 115, 101, 99, 114, 101, 116, 32, 98, 59]).2 = (0, 0) := by kernel_rfl
  have cI : Ans (L m) 14 [.isl 1 [[.int .i64 0], [.int .i64 10]], .isl 1 [[.int .i64 0], [.int .i64 10]]] (.bool true) := SameInts_ok (m := m) [0, 10] [0, 10] (by decide)
  rw [e1, e2] at a1
  rw [e3] at a2
  rw [e4, e5] at a3
  clear e1 e2 e3 e4 e5
  simp only [dumpS, List.map_nil, List.flatten_nil, beginsL, List.map_cons] at a1 a2 a3
  repeat' (first
    | apply w_seq
    | apply w_region
    | apply o_end
    | apply t_normal
    | (apply o_mpick; (focus (first | (apply g_none; rfl) | (apply g_sym; rfl; rfl; (focus (simp [*]; rfl)); (focus (simp only [gOf_bool, gOf_cond, gOf_cond', gOf_un, beq_true, beq_false, Bool.and_true]; rfl))))); (focus (intro hb; (try simp only [Bool.not_or, Bool.not_and, Bool.not_not, Bool.and_eq_true, Bool.not_eq_true', Bool.not_eq_false', Bool.not_eq_true, Bool.not_eq_false] at hb); simp [*]; rfl)); rfl; (focus (intro hb hp; (try simp only [Bool.not_or, Bool.not_and, Bool.not_not, Bool.and_eq_true, Bool.not_eq_true', Bool.not_eq_false', Bool.not_eq_true, Bool.not_eq_false] at hb); (try simp only [Bool.not_or, Bool.not_and, Bool.not_not, Bool.and_eq_true, Bool.not_eq_true', Bool.not_eq_false', Bool.not_eq_true, Bool.not_eq_false] at hp); simp [*]; rfl)); rfl; (focus (intro hb hp; (try simp only [Bool.not_or, Bool.not_and, Bool.not_not, Bool.and_eq_true, Bool.not_eq_true', Bool.not_eq_false', Bool.not_eq_true, Bool.not_eq_false] at hb); (try simp only [Bool.not_or, Bool.not_and, Bool.not_not, Bool.and_eq_true, Bool.not_eq_true', Bool.not_eq_false', Bool.not_eq_true, Bool.not_eq_false] at hp); simp [*]; rfl)); rfl)
    | (apply o_val; (focus (first | rfl | (apply g_in; rfl; rfl; (focus (simp [*]; done))))); (focus (simp [*]; rfl)))
    | (apply o_frz (op := Op.buildSlice _ _ _); (focus (first | rfl | (apply g_in; rfl; rfl; (focus (simp [*]; done))))); rfl; (focus (simp [*]; exact ⟨rfl, rfl⟩)); (focus (simp; done)); (focus (first | exact Snap.flat (by simp [*]; done) | exact Snap.ref_flat (by simp) rfl rfl rfl (by simp) (by simp [*]; done) | exact Snap.slice_flat (by simp) rfl (by simp; rfl) (by simp) (by simp [*]; done) | exact Snap.slice_flat (by simp) (by simp; exact ⟨rfl, rfl, rfl⟩) (by simp; rfl) (by simp) (by simp [*]; done))))
    | (apply o_fn fine; (focus (first | rfl | (apply g_in; rfl; rfl; (focus (simp [*]; done))))); (focus (simp [*]; exact ⟨rfl, rfl⟩)); (focus (exact a1)); (focus (simp [*]; done)))
    | (apply o_fn fine; (focus (first | rfl | (apply g_in; rfl; rfl; (focus (simp [*]; done))))); (focus (simp [*]; exact ⟨rfl, rfl⟩)); (focus (exact a2)); (focus (simp [*]; done)))
    | (apply o_fn fine; (focus (first | rfl | (apply g_in; rfl; rfl; (focus (simp [*]; done))))); (focus (simp [*]; exact ⟨rfl, rfl⟩)); (focus (exact a3)); (focus (simp [*]; done)))
    | (apply o_fn fine; (focus (first | rfl | (apply g_in; rfl; rfl; (focus (simp [*]; done))))); (focus (simp [*]; exact ⟨rfl, rfl⟩)); (focus (exact cI)); (focus (simp [*]; done)))
    | (apply o_mem; (focus (first | rfl | (apply g_in; rfl; rfl; (focus (simp [*]; done))))); rfl; (focus (simp [*]; exact ⟨rfl, rfl⟩)))
    | apply w_ret
    | fail)
  · apply f_retf
    · simp [*]; rfl
    · simp
    · rfl
end Go.Proofs.Ytknkkfdkcemolaa.Vm
end
