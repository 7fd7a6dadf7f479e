/- Operations on maps. -/
import Derived.Test.YtejpgmemohchaaaVmK
import Derived.MapKept
set_option linter.unusedSimpArgs false
set_option linter.unusedVariables false
namespace Go.Proofs.Ytejpgmemohchaaa.Vm
open Go
/-- The first entry with a key, and its place. -/
def mapFind (k : D) : List (D × D) → Nat → Option (Option (Nat × D))
  | [], _ => some none
  | (k', v) :: r, i => match eqCell k k' with
    | some true => some (some (i, v))
    | some false => mapFind k r (i + 1)
    | none => none
/-- The one entry with a key. -/
def imapFind (k : D) : List (D × D) → Option (Option D)
  | [] => some none
  | (k', v) :: r => match eqCell k k', imapFind k r with
    | some true, some none => some (some v)
    | some false, x => x
    | _, _ => none
structure MapV where
  r : Nat
  g : Nat
  ck : Int
  bs : List D
  ents : List (D × D)
def mapBlk (r g : Nat) : Option Blk → Option MapV
  | some (.map g' false ((.int .i64 2, .tuple (.int .i64 ck :: bs)) :: ents)) => if g' = g then some ⟨r, g, ck, bs, ents⟩ else none
  | _ => none
def mapAt (H : Heap) : D → Option MapV
  | .map r g => mapBlk r g H[r]?
  | _ => none
def foundD (H : Heap) (x k : D) : Option (Option D) := match x with
  | .nilmap => some none
  | .imap es => imapFind k es
  | x => match mapAt H x with
    | some m => (mapFind k m.ents 0).map fun o => o.map (·.2)
    | none => none
def keyD (T : TypeId → TI) (t : TypeId) (k : D) : Option TypeId := match (T t).k with
  | .map kt et => if scalIs (T kt).k k = true then some et else none
  | _ => none
def orZero (ti : TI) (o : Option D) : Option D := match o with
  | some v => some v
  | none => if ti.k.known = true then zeroD ti else none
def lookupD (T : TypeId → TI) (H : Heap) (t : TypeId) (x k : D) (cok : Bool) : Option D := match keyD T t k, foundD H x k with
  | some et, some r => (orZero (T et) r).map fun v => if cok then .tuple [v, .bool r.isSome] else v
  | _, _ => none
def mapB (g : Nat) (ck : Int) (bs : List D) (ents : List (D × D)) : Blk := .map g false ((.int .i64 2, .tuple (.int .i64 ck :: bs)) :: ents)
def mapNew (H : Heap) : D × Heap := (.map H.length 0, H ++ [mapB 0 0 [] []])
/-- A map with an entry set; what stood there (or the zero value), and when it was born. -/
def entryD (T : TypeId → TI) (H : Heap) (t : TypeId) (x k : D) (v : Option D) : Option (D × D × Heap) := match keyD T t k, mapAt H x with
  | some et, some m => match mapFind k m.ents 0 with
    | some (some (i, w)) => match m.bs[i]? with
      | some b => some (w, b, H.set m.r (mapB m.g m.ck m.bs (m.ents.set i (k, v.getD w))))
      | none => none
    | some none => match orZero (T et) v with
      | some w => some (w, .int .i64 m.ck, H.set m.r (mapB m.g (m.ck + 1) (m.bs ++ [.int .i64 m.ck]) (m.ents ++ [(k, w)])))
      | none => none
    | none => none
  | _, _ => none
def bornFind (s : Int) : List D → Nat → Option Nat
  | [], _ => none
  | .int .i64 b :: r, i => if b = s then some i else bornFind s r (i + 1)
  | _, _ => none
def entryStoreD (H : Heap) (x s v : D) : Option Heap := match mapAt H x, s with
  | some m, .int .i64 s => match bornFind s m.bs 0 with
    | some i => match m.ents[i]? with
      | some e => some (H.set m.r (mapB m.g m.ck m.bs (m.ents.set i (e.1, v))))
      | none => none
    | none => none
  | _, _ => none
/-! ### they are the machine's -/
theorem sameNow_ok {c : Cx} {u w : Value} {k k' : D} {hk : K} {kd : TypeDesc} {b : Bool} (hu : Rep c u k) (hw : Rep c w k') (hs : scalIs hk k = true) (hf : hk.fits kd) (he : eqCell k k' = some b) : Instr.sameNow kd u w = some b := by
  unfold scalIs at hs
  split at hs
  · obtain rfl : kd = .bool := hf
    cases hu
    cases hw <;> simp [eqCell] at he
    subst he
    rfl
  · obtain rfl : kd = .int _ := hf
    cases hu
    cases hw <;> simp [eqCell] at he
    obtain ⟨rfl, rfl⟩ := he
    simp [Instr.sameNow]
  · obtain rfl : kd = .string := hf
    cases hu
    rename_i s1 e1
    cases hw <;> simp [eqCell] at he
    rename_i s2 e2
    subst he
    simp only [Instr.sameNow, Option.some.injEq]
    rw [beq_toListBytes, str_list, str_list, e1, e2]
  · cases hs
theorem bits_ok {kd : TypeDesc} {u w : Value} (h : Instr.sameNow kd u w = some true) : Instr.sameBits 10000 w u = true := by
  unfold Instr.sameNow at h
  split at h
  · split at h
    · rename_i hk
      subst hk
      simp at h
      subst h
      simp [Instr.sameBits]
    · cases h
  · have h' := Option.some.inj h
    simp only [Instr.sameBits]
    rw [beq_toListBytes] at h' ⊢
    rw [beq_iff_eq] at h' ⊢
    exact h'.symm
  · simp at h
    subst h
    simp [Instr.sameBits]
  · cases h
theorem checkKey_ok {P : Program} {c : Cx} {w : World} {u : Value} {k : D} {hk : K} {kt : TypeId} {kd : TypeDesc} {e : Bool} (hu : Rep c u k) (hs : scalIs hk k = true) (hf : hk.fits kd) (hd : P.underlying kt = some kd) : (Instr.checkKey e 10000 kt u).run P w = .ok () w := by
  have key : ∀ n, (Instr.checkKey e (n + 1) kt u).run P w = .ok () w := by
    intro n
    unfold scalIs at hs
    split at hs
    · obtain rfl : kd = .bool := hf
      cases hu
      simp [Instr.checkKey, run_underlying hd]
    · obtain rfl : kd = .int _ := hf
      cases hu
      simp [Instr.checkKey, run_underlying hd]
    · obtain rfl : kd = .string := hf
      cases hu
      simp [Instr.checkKey, run_underlying hd]
    · cases hs
  exact key 9999
theorem get_map {P : Program} {w : World} {b : Nat} {ms : Array MapEntry} {n : Nat} (h : w.heap[b]? = some (.map ms n)) : (getObj b).run P w = .ok (.map ms n) w := by simp [getObj, Sem.run, h]
/-- What is found, and what stands for it. -/
def FindRep (c : Cx) : Option (Nat × D) → Option (Nat × Value) → Prop
  | none, none => True
  | some (i, d), some (j, v) => i = j ∧ Rep c v d
  | _, _ => False
def ValRep (c : Cx) : Option D → Option (Nat × Value) → Prop
  | none, none => True
  | some d, some (_, v) => Rep c v d
  | _, _ => False
section
variable {c : Cx} {u : Value} {k : D} {hk : K} {kd : TypeDesc} (hu : Rep c u k) (hs : scalIs hk k = true) (hf : hk.fits kd)
include hu hs hf
theorem findNow_ok : ∀ (ents : List (D × D)) (ms : List MapEntry) (i : Nat) (r : Option (Nat × D)), ms.length = ents.length → (∀ (j : Nat) (x : D × D) (e : MapEntry), ents[j]? = some x → ms[j]? = some e → Rep c e.key x.1 ∧ Rep c e.val x.2) → mapFind k ents i = some r →
    ∃ r', Instr.findNow kd u ms i = some r' ∧ FindRep c r r' ∧ ∀ n d, r = some (n, d) → i ≤ n ∧ ∃ e, ms[n - i]? = some e ∧ Instr.sameNow kd u e.key = some true
  | [], ms, i, r, hl, _, h => by
    cases ms with
    | nil => cases h; exact ⟨none, rfl, trivial, fun n d h => nomatch h⟩
    | cons e ms => simp at hl
  | (k', v) :: ents, ms, i, r, hl, hr, h => by
    cases ms with
    | nil => simp at hl
    | cons e ms =>
    obtain ⟨r1, r2⟩ := hr 0 (k', v) e rfl rfl
    simp only [mapFind] at h
    cases he : eqCell k k' with
    | none => simp [he] at h
    | some b =>
    have hn := sameNow_ok hu r1 hs hf he
    simp only [he] at h
    cases b with
    | true =>
      cases h
      exact ⟨some (i, e.val), by simp [Instr.findNow, hn], ⟨rfl, r2⟩, fun n d h => by cases h; exact ⟨Nat.le_refl _, e, by simp, hn⟩⟩
    | false =>
      obtain ⟨r', q1, q2, q3⟩ := findNow_ok ents ms (i + 1) r (by simpa using hl) (fun j x e' hx he' => hr (j + 1) x e' (by simpa using hx) (by simpa using he')) h
      refine ⟨r', by simp [Instr.findNow, hn, q1], q2, fun n d h => ?_⟩
      obtain ⟨h1, e', h2, h3⟩ := q3 n d h
      refine ⟨by omega, e', ?_, h3⟩
      obtain ⟨m, rfl⟩ : ∃ m, n = i + 1 + m := ⟨n - (i + 1), by omega⟩
      rw [show i + 1 + m - (i + 1) = m by omega] at h2
      rw [show i + 1 + m - i = m + 1 by omega]
      simpa using h2
omit hu hs hf in
theorem findNow_any : ∀ (ms : List MapEntry) (i : Nat), (∀ e, e ∈ ms → ∃ b, Instr.sameNow kd u e.key = some b) →
    (Instr.findNow kd u ms i = some none ∧ ∀ e, e ∈ ms → Instr.sameNow kd u e.key = some false) ∨ ∃ e n, e ∈ ms ∧ Instr.findNow kd u ms i = some (some (n, e.val)) ∧ Instr.sameNow kd u e.key = some true
  | [], i, _ => .inl ⟨rfl, fun e h => nomatch h⟩
  | e :: ms, i, h => by
    obtain ⟨b, hb⟩ := h e (List.mem_cons_self ..)
    cases b with
    | true => exact .inr ⟨e, i, List.mem_cons_self .., by simp [Instr.findNow, hb], hb⟩
    | false =>
      rcases findNow_any ms (i + 1) (fun e' he' => h e' (List.mem_cons_of_mem _ he')) with ⟨q1, q2⟩ | ⟨e', n, q1, q2, q3⟩
      · refine .inl ⟨by simp [Instr.findNow, hb, q1], fun e' he' => ?_⟩
        rcases List.mem_cons.1 he' with rfl | he'
        · exact hb
        · exact q2 e' he'
      · exact .inr ⟨e', n, List.mem_cons_of_mem _ q1, by simp [Instr.findNow, hb, q2], q3⟩
omit hu hs hf in
theorem imapFind_all : ∀ (es : List (D × D)) (r : Option D), imapFind k es = some r → ∀ x, x ∈ es → ∃ b, eqCell k x.1 = some b ∧ (b = true → r = some x.2)
  | [], r, _, x, hx => nomatch hx
  | (k', v) :: es, r, h, x, hx => by
    simp only [imapFind] at h
    split at h
    · rename_i h1 h2
      cases h
      rcases List.mem_cons.1 hx with rfl | hx
      · exact ⟨true, h1, fun _ => rfl⟩
      · obtain ⟨b, q1, q2⟩ := imapFind_all es none h2 x hx
        cases b with
        | true => cases q2 rfl
        | false => exact ⟨false, q1, fun h => nomatch h⟩
    · rename_i h1
      rcases List.mem_cons.1 hx with rfl | hx
      · exact ⟨false, h1, fun h => nomatch h⟩
      · exact imapFind_all es r h x hx
    · cases h
omit hu hs hf in
theorem imapFind_some : ∀ (es : List (D × D)) (v : D), imapFind k es = some (some v) → ∃ x, x ∈ es ∧ eqCell k x.1 = some true
  | [], v, h => by cases h
  | (k', w) :: es, v, h => by
    simp only [imapFind] at h
    split at h
    · rename_i h1 h2
      exact ⟨_, List.mem_cons_self .., h1⟩
    · obtain ⟨x, q1, q2⟩ := imapFind_some es v h
      exact ⟨x, List.mem_cons_of_mem _ q1, q2⟩
    · cases h
end
theorem getD_toList {ms : Array MapEntry} {j : Nat} {e : MapEntry} (h : ms.toList[j]? = some e) : ms.getD j default = e := by
  rw [Array.getElem?_toList] at h
  rw [Array.getD_eq_getD_getElem?, h]
  rfl
theorem mapAt_inv {H : Heap} {x : D} {m : MapV} (h : mapAt H x = some m) : x = .map m.r m.g ∧ H[m.r]? = some (mapB m.g m.ck m.bs m.ents) := by
  cases x with
  | map r g =>
    simp only [mapAt] at h
    cases hx : H[r]? with
    | none => rw [hx] at h; cases h
    | some b =>
      rw [hx] at h
      unfold mapBlk at h
      split at h
      · split at h
        · rename_i h1 h2
          cases h
          cases h1
          subst h2
          exact ⟨rfl, hx⟩
        · cases h
      · cases h
  | _ => cases h
theorem map_rep {c : Cx} (inv : Inv c) {v : Value} {x : D} {m : MapV} (hv : Rep c v x) (h : mapAt c.hp x = some m) : v = .map (some (c.mu m.r).1) ∧ (c.mu m.r).2 = (c.mu m.r).1 ∧ MapIs c (c.mu m.r).1 m.ck m.bs m.ents ∧ ¬ c.im (c.mu m.r).1 ∧ m.g < ng c.hp m.r := by
  obtain ⟨rfl, hx⟩ := mapAt_inv h
  have hb := inv.blk _ _ hx
  obtain ⟨h1, h2, h3⟩ : MapOk c m.r false _ := hb
  obtain ⟨q1, q2⟩ : (c.mu m.r).2 = (c.mu m.r).1 ∧ MapIs c (c.mu m.r).1 m.ck m.bs m.ents := h1
  cases hv with
  | map _ _ _ hr hg hv =>
    exact ⟨by rw [hv _ _ hx]; simp [spTag, spV], q1, q2, (h3 rfl).1, hg⟩
theorem keyD_inv {L : Lang} (ok : L.Ok) {t et : TypeId} {k : D} (h : keyD L.T t k = some et) : ∃ kt kd, L.P.underlying t = some (.map kt et) ∧ L.P.underlying kt = some kd ∧ (L.T kt).k.fits kd ∧ scalIs (L.T kt).k k = true := by
  unfold keyD at h
  split at h
  · rename_i kt et' hT
    split at h
    · rename_i hs
      cases h
      obtain ⟨d, hu, hf⟩ := ti_under (ok.ty t) (by rw [hT]; simp)
      rw [hT] at hf
      obtain rfl : d = .map kt et := hf
      have hk : (L.T kt).k ≠ .other := by
        intro e
        rw [e] at hs
        simp [scalIs] at hs
      obtain ⟨kd, hu2, hf2⟩ := ti_under (ok.ty kt) hk
      exact ⟨kt, kd, hu, hu2, hf2, hs⟩
    · cases h
  · cases h
theorem orZero_ok {L : Lang} (ok : L.Ok) (c : Cx) {et : TypeId} {d : D} (h : orZero (L.T et) none = some d) : ∃ z, (zeroValue et).run L.P c.w = .ok z c.w ∧ Rep c z d := by
  unfold orZero at h
  dsimp only at h
  split at h
  · rename_i hk
    exact zeroD_ok ok c hk h
  · cases h
theorem lookup_run {P : Program} {w : World} {t kt et : TypeId} {es : Array MapEntry} {v u : Value} {cok : Bool} (h1 : P.underlying t = some (.map kt et)) (hv : (v = .map none ∧ es = #[]) ∨ ∃ b n, v = .map (some b) ∧ w.heap[b]? = some (.map es n)) :
    (Instr.lookup t v u cok).run P w = ((Instr.checkKey es.isEmpty 10000 kt u).run P w).andThen fun _ w => ((Instr.findKey kt u es.toList).run P w).andThen fun o w => (match o with
      | some (_, v) => (pure (if cok then .tuple #[v, .bool true] else v) : Sem Value)
      | none => (do
        let z ← zeroValue et
        pure (if cok then .tuple #[z, .bool false] else z))).run P w := by
  unfold Instr.lookup
  rcases hv with ⟨rfl, rfl⟩ | ⟨b, n, rfl, hb⟩
  · simp only [Sem.run_bind, run_underlying h1, Result.andThen_ok, Sem.run_pure]
    congr 1
  · simp only [Sem.run_bind, run_underlying h1, Result.andThen_ok, get_map hb, Sem.run_pure]
    congr 1
theorem lookup_ok {L : Lang} (ok : L.Ok) {c : Cx} (inv : Inv c) {t : TypeId} {v u : Value} {x k d : D} {cok : Bool} (hv : Rep c v x) (hu : Rep c u k) (h : lookupD L.T c.hp t x k cok = some d) : ValOk L.P c (Instr.lookup t v u cok) d c.hp := by
  unfold lookupD at h
  split at h
  case h_2 => cases h
  rename_i et r hkey hfound
  obtain ⟨kt, kd, h1, h2, h3, h4⟩ := keyD_inv ok hkey
  obtain ⟨w, hw, rfl⟩ := Option.map_eq_some_iff.1 h
  -- the entries of the machine
  have key : ∃ es : Array MapEntry, ((v = .map none ∧ es = #[]) ∨ ∃ b n, v = .map (some b) ∧ c.w.heap[b]? = some (.map es n)) ∧
      ∃ r', Instr.findNow kd u es.toList 0 = some r' ∧ ValRep c r r' := by
    unfold foundD at hfound
    split at hfound
    · cases hfound
      cases hv
      exact ⟨#[], .inl ⟨rfl, rfl⟩, none, rfl, trivial⟩
    · rename_i es
      cases hv with
      | imap b _ ms ck p hi hb hp g1 g2 =>
      refine ⟨ms, .inr ⟨b, ck, rfl, hb⟩, ?_⟩
      have hall : ∀ e, e ∈ ms.toList → ∃ x, x ∈ es ∧ Rep c e.key x.1 ∧ Rep c e.val x.2 := fun e he => by
        obtain ⟨j, hj, rfl⟩ := List.getElem_of_mem he
        obtain ⟨i, hi2, hpi⟩ := hp.2 j (by simpa using hj)
        have hx := List.getElem?_eq_getElem hi2
        have hg := getD_toList (List.getElem?_eq_getElem hj)
        refine ⟨es[i], List.getElem_mem hi2, ?_, ?_⟩
        · have := g1 i _ hx; rwa [hpi, hg] at this
        · have := g2 i _ hx; rwa [hpi, hg] at this
      have hsame : ∀ e, e ∈ ms.toList → ∃ b, Instr.sameNow kd u e.key = some b ∧ (b = true → ∃ a, r = some a ∧ Rep c e.val a) := fun e he => by
        obtain ⟨x, x1, x2, x3⟩ := hall e he
        obtain ⟨b, b1, b2⟩ := imapFind_all es r hfound x x1
        exact ⟨b, sameNow_ok hu x2 h4 h3 b1, fun hb => ⟨x.2, b2 hb, x3⟩⟩
      rcases findNow_any ms.toList 0 (fun e he => (hsame e he).imp fun b hb => hb.1) with ⟨q1, q2⟩ | ⟨e, n, q1, q2, q3⟩
      · refine ⟨none, q1, ?_⟩
        cases r with
        | none => trivial
        | some a =>
          obtain ⟨x, x1, x2⟩ := imapFind_some es a hfound
          obtain ⟨i, hi2, rfl⟩ := List.getElem_of_mem x1
          have hx := List.getElem?_eq_getElem hi2
          have hlt := hp.1 i hi2
          have hm : ms.toList[p i]? = some ms[p i] := by rw [Array.getElem?_toList]; simp [hlt]
          have hk1 := g1 i _ hx
          rw [getD_toList hm] at hk1
          have := sameNow_ok hu hk1 h4 h3 x2
          rw [q2 _ (List.mem_of_getElem? hm)] at this
          cases this
      · obtain ⟨b, b1, b2⟩ := hsame e q1
        rw [q3] at b1
        cases b1
        obtain ⟨a, rfl, ha⟩ := b2 rfl
        exact ⟨some (n, e.val), q2, ha⟩
    · cases hm : mapAt c.hp x with
      | none => simp only [hm] at hfound; cases hfound
      | some m =>
        simp only [hm] at hfound
        obtain ⟨o, ho, rfl⟩ := Option.map_eq_some_iff.1 hfound
        obtain ⟨rfl, _, ⟨ms, n, _, m1, m2, m3, m4, m5⟩, _⟩ := map_rep inv hv hm
        obtain ⟨r', q1, q2, _⟩ := findNow_ok hu h4 h3 m.ents ms.toList 0 o (by simpa using m2) (fun j x e hx he => by
          have := m4 j x hx
          rwa [getD_toList he] at this) ho
        refine ⟨ms, .inr ⟨_, n, rfl, m1⟩, r', q1, ?_⟩
        cases o with
        | none => cases r' <;> first | trivial | exact q2
        | some a =>
          obtain ⟨i, a⟩ := a
          cases r' with
          | none => exact q2
          | some b => exact q2.2
  obtain ⟨es, hrun, r', hf, hr⟩ := key
  have hck := fun e => checkKey_ok (P := L.P) (w := c.w) (e := e) hu h4 h3 h2
  have hfk : (Instr.findKey kt u es.toList).run L.P c.w = .ok r' c.w := by simp [Instr.findKey, run_underlying h2, hf]
  have hfin : ∀ (a : Value) (b : Bool), Rep c a w → b = r.isSome → Rep c (if cok then .tuple #[a, .bool b] else a) (if cok then .tuple [w, .bool r.isSome] else w) := fun a b ha hb => by
    subst hb
    cases cok
    · exact ha
    · exact rep_two ha (.bool _)
  have hshape := lookup_run (u := u) (cok := cok) h1 hrun
  cases r with
  | some a =>
    cases r' with
    | none => exact hr.elim
    | some b =>
      obtain ⟨n, b⟩ := b
      cases hw
      refine .same inv (v := if cok then .tuple #[b, .bool true] else b) ?_ (hfin b true hr rfl)
      rw [hshape]
      simp [hck, hfk]
  | none =>
    cases r' with
    | some b => exact hr.elim
    | none =>
      obtain ⟨z, z1, z2⟩ := orZero_ok ok c hw
      refine .same inv (v := if cok then .tuple #[z, .bool false] else z) ?_ (hfin z false z2 rfl)
      rw [hshape]
      simp [hck, hfk, z1]
/-! ### maps are made, and written -/
/-- A map's block set anew. -/
theorem setMap_ok {c : Cx} (inv : Inv c) {m : MapV} {x : D} (hm : mapAt c.hp x = some m) {ms : Array MapEntry} {n : Nat} {ck : Int} {bs : List D} {ents : List (D × D)} (hck : ck = n) (h1 : ms.size = ents.length) (h2 : bs.length = ents.length)
    (h3 : ∀ (i : Nat) (x : D × D), ents[i]? = some x → Rep c (ms.getD i default).key x.1 ∧ Rep c (ms.getD i default).val x.2) (h4 : ∀ (i : Nat) (d : D), bs[i]? = some d → d = .int .i64 ((ms.getD i default).born : Int)) :
    ∃ c', (∀ P, (setObj (c.mu m.r).1 (.map ms n)).run P c.w = .ok () c'.w) ∧ c'.hp = c.hp.set m.r (mapB m.g ck bs ents) ∧ Inv c' ∧ Le c c' := by
  obtain ⟨rfl, hx⟩ := mapAt_inv hm
  obtain ⟨⟨e1, ms0, n0, _, k1, k2, k3, k4, k5⟩, h5, h6⟩ : ((c.mu m.r).2 = (c.mu m.r).1 ∧ MapIs c (c.mu m.r).1 m.ck m.bs m.ents) ∧ (false = true → _) ∧ (false = false → ¬ c.im (c.mu m.r).1 ∧ ¬ c.im (c.mu m.r).2) := inv.blk _ _ hx
  have hlt : (c.mu m.r).1 < c.w.heap.size := (Array.getElem?_eq_some_iff.1 k1).1
  have hh : ∀ b, ({ c.w with heap := c.w.heap.setIfInBounds (c.mu m.r).1 (.map ms n) } : World).heap[b]? = if b = (c.mu m.r).1 then some (.map ms n) else c.w.heap[b]? := fun b => by
    by_cases hb : b = (c.mu m.r).1
    · subst hb; simp [hlt]
    · simp [hb, Array.getElem?_setIfInBounds_ne (Ne.symm hb)]
  have hput := put_ok (c := c) inv (k' := mapB m.g ck bs ents) (m := c.mu m.r) (w' := { c.w with heap := c.w.heap.setIfInBounds (c.mu m.r).1 (.map ms n) }) hx rfl rfl rfl rfl (by simp)
    (fun b _ hne => by
      rw [hh, if_neg]
      intro hb
      exact hne rfl (.inl hb.symm))
    (fun b _ hb => .inl ⟨rfl, hb⟩) (Nat.le_refl _)
    ⟨fun g' sz' ro' xs' he => by (cases he), fun g' ro' es' he hg => by
      cases he
      exact ⟨false, _, rfl, rfl, by simp [spTag]⟩⟩
    (fun le => by
      refine ⟨⟨?_, ms, n, hck, ?_, h1, h2, fun i x hx => ⟨((h3 i x hx).1).mono le, ((h3 i x hx).2).mono le⟩, h4⟩, (fun h => nomatch h), fun _ => ?_⟩
      · simp only [Cx.put, upd_same]; exact e1
      · simp only [Cx.put, upd_same]
        rw [hh, if_pos rfl]
      · simp only [Cx.put, upd_same]
        exact h6 rfl)
  exact ⟨_, fun P => by simp [setObj, Sem.run, k1, Cx.put], rfl, hput.1, hput.2⟩
theorem getD_modify {ms : Array MapEntry} {i j : Nat} {f : MapEntry → MapEntry} (hi : i < ms.size) : (ms.modify i f).getD j default = if j = i then f (ms.getD i default) else ms.getD j default := by
  simp only [Array.getD_eq_getD_getElem?, Array.getElem?_modify]
  by_cases h : j = i
  · subst h; simp [hi]
  · simp [h, Ne.symm h]
theorem getD_push {ms : Array MapEntry} {j : Nat} {e : MapEntry} : (ms.push e).getD j default = if j = ms.size then e else ms.getD j default := by
  simp only [Array.getD_eq_getD_getElem?, Array.getElem?_push]
  split <;> rfl
/-- The parts that both ways of writing share. -/
theorem entry_parts {L : Lang} (ok : L.Ok) {c : Cx} (inv : Inv c) {t et : TypeId} {v u : Value} {x k : D} {m : MapV} {o : Option (Nat × D)} (hv : Rep c v x) (hu : Rep c u k) (hkey : keyD L.T t k = some et) (hm : mapAt c.hp x = some m) (hf : mapFind k m.ents 0 = some o) :
    ∃ kt ms n o', L.P.underlying t = some (.map kt et) ∧ v = .map (some (c.mu m.r).1) ∧ c.w.heap[(c.mu m.r).1]? = some (.map ms n) ∧ m.ck = n ∧ ms.size = m.ents.length ∧ m.bs.length = m.ents.length ∧
      (∀ (i : Nat) (x : D × D), m.ents[i]? = some x → Rep c (ms.getD i default).key x.1 ∧ Rep c (ms.getD i default).val x.2) ∧ (∀ (i : Nat) (d : D), m.bs[i]? = some d → d = .int .i64 ((ms.getD i default).born : Int)) ∧
      (∀ e, (Instr.checkKey e 10000 kt u).run L.P c.w = .ok () c.w) ∧ (Instr.findKey kt u ms.toList).run L.P c.w = .ok o' c.w ∧ FindRep c o o' ∧
      ∀ i d, o = some (i, d) → ∃ hi : i < ms.size, ∀ w, (Instr.keyThatStays (ms[i]).key u).run L.P w = .ok u w := by
  obtain ⟨kt, kd, h1, h2, h3, h4⟩ := keyD_inv ok hkey
  obtain ⟨rfl, _, ⟨ms, n, m0, m1, m2, m3, m4, m5⟩, _⟩ := map_rep inv hv hm
  obtain ⟨r', q1, q2, q3⟩ := findNow_ok hu h4 h3 m.ents ms.toList 0 o (by simpa using m2) (fun j x e hx he => by
    have := m4 j x hx
    rwa [getD_toList he] at this) hf
  refine ⟨kt, ms, n, r', h1, rfl, m1, m0, m2, m3, m4, m5, fun e => checkKey_ok hu h4 h3 h2, by simp [Instr.findKey, run_underlying h2, q1], q2, fun i d ho => ?_⟩
  obtain ⟨_, e, e1, e2⟩ := q3 i d ho
  rw [Nat.sub_zero, Array.getElem?_toList] at e1
  obtain ⟨hi, he⟩ := Array.getElem?_eq_some_iff.1 e1
  refine ⟨hi, fun w => ?_⟩
  rw [he]
  simp [Instr.keyThatStays, bits_ok e2]
theorem rep_key_set {c : Cx} {ms : Array MapEntry} {ents : List (D × D)} {i : Nat} {u b : Value} {k w : D} {f : MapEntry → MapEntry} (hi : i < ms.size) (hs : ms.size = ents.length) (h : ∀ (i : Nat) (x : D × D), ents[i]? = some x → Rep c (ms.getD i default).key x.1 ∧ Rep c (ms.getD i default).val x.2)
    (hk : Rep c (f (ms.getD i default)).key k) (hw : Rep c (f (ms.getD i default)).val w) : ∀ (j : Nat) (x : D × D), (ents.set i (k, w))[j]? = some x → Rep c ((ms.modify i f).getD j default).key x.1 ∧ Rep c ((ms.modify i f).getD j default).val x.2 := by
  intro j x hx
  rw [getD_modify hi]
  rw [List.getElem?_set] at hx
  by_cases hj : j = i
  · subst hj
    rw [if_pos rfl, if_pos (by omega)] at hx
    cases hx
    rw [if_pos rfl]
    exact ⟨hk, hw⟩
  · rw [if_neg (Ne.symm hj)] at hx
    rw [if_neg hj]
    exact h j x hx
theorem rep_key_push {c : Cx} {ms : Array MapEntry} {ents : List (D × D)} {e : MapEntry} {k w : D} (hs : ms.size = ents.length) (h : ∀ (i : Nat) (x : D × D), ents[i]? = some x → Rep c (ms.getD i default).key x.1 ∧ Rep c (ms.getD i default).val x.2)
    (hk : Rep c e.key k) (hw : Rep c e.val w) : ∀ (j : Nat) (x : D × D), (ents ++ [(k, w)])[j]? = some x → Rep c ((ms.push e).getD j default).key x.1 ∧ Rep c ((ms.push e).getD j default).val x.2 := by
  intro j x hx
  rw [getD_push]
  by_cases hj : j < ents.length
  · rw [List.getElem?_append_left hj] at hx
    rw [if_neg (by omega)]
    exact h j x hx
  · rw [List.getElem?_append_right (by omega)] at hx
    cases hjj : j - ents.length with
    | zero =>
      rw [hjj] at hx
      cases hx
      rw [if_pos (by omega)]
      exact ⟨hk, hw⟩
    | succ n => rw [hjj] at hx; simp at hx
theorem born_push {ms : Array MapEntry} {bs : List D} {e : MapEntry} {ck : Int} (hs : bs.length = ms.size) (hc : ck = e.born) (h : ∀ (i : Nat) (d : D), bs[i]? = some d → d = .int .i64 ((ms.getD i default).born : Int)) :
    ∀ (i : Nat) (d : D), (bs ++ [.int .i64 ck])[i]? = some d → d = .int .i64 (((ms.push e).getD i default).born : Int) := by
  intro i d hd
  rw [getD_push]
  by_cases hi : i < bs.length
  · rw [List.getElem?_append_left hi] at hd
    rw [if_neg (by omega)]
    exact h i d hd
  · rw [List.getElem?_append_right (by omega)] at hd
    cases hj : i - bs.length with
    | zero =>
      rw [hj] at hd
      cases hd
      rw [if_pos (by omega), hc]
    | succ n => rw [hj] at hd; simp at hd
theorem born_set {ms : Array MapEntry} {bs : List D} {i : Nat} {f : MapEntry → MapEntry} (hi : i < ms.size) (hf : ∀ e, (f e).born = e.born) (h : ∀ (i : Nat) (d : D), bs[i]? = some d → d = .int .i64 ((ms.getD i default).born : Int)) :
    ∀ (j : Nat) (d : D), bs[j]? = some d → d = .int .i64 (((ms.modify i f).getD j default).born : Int) := by
  intro j d hd
  rw [getD_modify hi, h j d hd]
  by_cases hj : j = i
  · rw [if_pos hj, hf, hj]
  · rw [if_neg hj]
theorem mapUpdate_ok {L : Lang} (ok : L.Ok) {c : Cx} (inv : Inv c) {t : TypeId} {v u b : Value} {x k y w d : D} {H : Heap} (hv : Rep c v x) (hu : Rep c u k) (hb : Rep c b y) (h : entryD L.T c.hp t x k (some y) = some (w, d, H)) : UnitOk L.P c (Instr.mapUpdate t v u b) H := by
  unfold entryD at h
  split at h
  case h_2 => cases h
  rename_i et m hkey hm
  split at h
  · rename_i i a hf
    obtain ⟨kt, ms, n, o', h1, rfl, m1, m0, m2, m3, m4, m5, hck, hfk, hfr, hst⟩ := entry_parts ok inv hv hu hkey hm hf
    obtain ⟨hi, hst2⟩ := hst i a rfl
    split at h
    case h_2 => cases h
    cases h
    cases o' with
    | none => exact hfr.elim
    | some p =>
    obtain ⟨i', a'⟩ := p
    obtain ⟨rfl, _⟩ := hfr
    obtain ⟨c', r1, r2, r3, r4⟩ := setMap_ok inv hm (ms := ms.modify i fun e => { e with key := u, val := b }) (n := n) (bs := m.bs) (ents := m.ents.set i (k, y)) m0 (by simpa using m2) (by simpa using m3) (rep_key_set (u := u) (b := b) hi m2 m4 hu hb) (born_set hi (fun _ => rfl) m5)
    refine ⟨c', ?_, r2, r3, r4⟩
    simp [Instr.mapUpdate, run_underlying h1, get_map m1, hck, hfk, hi]
    rw [hst2 c.w]
    simp [r1]
  · rename_i hf
    obtain ⟨kt, ms, n, o', h1, rfl, m1, m0, m2, m3, m4, m5, hck, hfk, hfr, hst⟩ := entry_parts ok inv hv hu hkey hm hf
    split at h
    case h_2 => cases h
    rename_i w' hw'
    cases h
    cases (show some y = some w from hw')
    cases o' with
    | some p => exact hfr.elim
    | none =>
    obtain ⟨c', r1, r2, r3, r4⟩ := setMap_ok inv hm (ms := ms.push { key := u, val := b, born := n }) (n := n + 1) (bs := m.bs ++ [.int .i64 m.ck]) (ents := m.ents ++ [(k, y)]) (ck := m.ck + 1) (by rw [m0]; rfl) (by simpa using m2) (by simpa using m3) (rep_key_push m2 m4 hu hb) (born_push (by omega) m0 m5)
    refine ⟨c', ?_, r2, r3, r4⟩
    simp [Instr.mapUpdate, run_underlying h1, get_map m1, hck, hfk, r1]
  · cases h
theorem mapEntry_ok {L : Lang} (ok : L.Ok) {c : Cx} (inv : Inv c) {t : TypeId} {v u : Value} {x k w d : D} {H : Heap} (hv : Rep c v x) (hu : Rep c u k) (h : entryD L.T c.hp t x k none = some (w, d, H)) : ValOk L.P c (Instr.mapEntry t v u) (.tuple [w, d]) H := by
  unfold entryD at h
  split at h
  case h_2 => cases h
  rename_i et m hkey hm
  split at h
  · rename_i i a hf
    obtain ⟨kt, ms, n, o', h1, rfl, m1, m0, m2, m3, m4, m5, hck, hfk, hfr, hst⟩ := entry_parts ok inv hv hu hkey hm hf
    obtain ⟨hi, hst2⟩ := hst i a rfl
    split at h
    case h_2 => cases h
    rename_i b0 hb0
    cases h
    cases o' with
    | none => exact hfr.elim
    | some p =>
    obtain ⟨i', a'⟩ := p
    obtain ⟨rfl, hra⟩ := hfr
    have hx : ∃ x0, m.ents[i]? = some (x0, w) := by
      obtain ⟨_, e, _⟩ : ∃ _ : True, True := ⟨trivial, trivial⟩
      have hlt : i < m.ents.length := by omega
      have key : ∀ (ents : List (D × D)) (j : Nat), mapFind k ents j = some (some (i, w)) → ∃ x0, j ≤ i ∧ ents[i - j]? = some (x0, w) := by
        intro ents
        induction ents with
        | nil => intro j h; cases h
        | cons p ents ih =>
          intro j h
          obtain ⟨p1, p2⟩ := p
          simp only [mapFind] at h
          split at h
          · cases h; exact ⟨p1, Nat.le_refl _, by simp⟩
          · obtain ⟨x0, q1, q2⟩ := ih (j + 1) h
            refine ⟨x0, by omega, ?_⟩
            obtain ⟨z, rfl⟩ : ∃ z, i = j + 1 + z := ⟨i - (j + 1), by omega⟩
            rw [show j + 1 + z - (j + 1) = z by omega] at q2
            rw [show j + 1 + z - j = z + 1 by omega]
            simpa using q2
          · cases h
      obtain ⟨x0, _, q⟩ := key m.ents 0 hf
      exact ⟨x0, by simpa using q⟩
    obtain ⟨x0, hx0⟩ := hx
    have hval := (m4 i _ hx0).2
    obtain ⟨c', r1, r2, r3, r4⟩ := setMap_ok inv hm (ms := ms.modify i fun e => { e with key := u }) (n := n) (bs := m.bs) (ents := m.ents.set i (k, w)) m0 (by simpa using m2) (by simpa using m3) (rep_key_set (u := u) (b := u) hi m2 m4 hu hval) (born_set hi (fun _ => rfl) m5)
    have hbd := m5 i _ hb0
    have hgi : ms[i]? = some (ms.getD i default) := by simp [Array.getD_eq_getD_getElem?, hi]
    refine ⟨.tuple #[a', goInt (ms.getD i default).born], c', ?_, r2, r3, r4, rep_two (hra.mono r4) (by rw [hbd]; exact .int _ _)⟩
    simp [Instr.mapEntry, run_underlying h1, get_map m1, hck, hfk, hi]
    rw [hst2 c.w]
    simp [r1]
  · rename_i hf
    obtain ⟨kt, ms, n, o', h1, rfl, m1, m0, m2, m3, m4, m5, hck, hfk, hfr, hst⟩ := entry_parts ok inv hv hu hkey hm hf
    split at h
    case h_2 => cases h
    rename_i w' hw'
    cases h
    obtain ⟨z, z1, z2⟩ := orZero_ok ok c hw'
    cases o' with
    | some p => exact hfr.elim
    | none =>
    obtain ⟨c', r1, r2, r3, r4⟩ := setMap_ok inv hm (ms := ms.push { key := u, val := z, born := n }) (n := n + 1) (bs := m.bs ++ [.int .i64 m.ck]) (ents := m.ents ++ [(k, w)]) (ck := m.ck + 1) (by rw [m0]; rfl) (by simpa using m2) (by simpa using m3) (rep_key_push m2 m4 hu z2) (born_push (by omega) m0 m5)
    refine ⟨.tuple #[z, goInt n], c', ?_, r2, r3, r4, rep_two (z2.mono r4) (by rw [m0]; exact .int _ _)⟩
    simp [Instr.mapEntry, run_underlying h1, get_map m1, hck, hfk, z1, r1]
  · cases h
theorem bornFind_ok {s : Int} : ∀ (bs : List D) (ms : List MapEntry) (j i : Nat), bs.length = ms.length → (∀ (n : Nat) (d : D) (e : MapEntry), bs[n]? = some d → ms[n]? = some e → d = .int .i64 (e.born : Int)) → bornFind s bs j = some i → j ≤ i ∧ i - j < ms.length ∧ (ms.findIdx? (fun e => (e.born : Int) == s)) = some (i - j)
  | [], ms, j, i, _, _, h => by cases h
  | d :: bs, ms, j, i, hl, hr, h => by
    cases ms with
    | nil => simp at hl
    | cons e ms =>
    obtain rfl := hr 0 d e rfl rfl
    simp only [bornFind] at h
    split at h
    · rename_i hb
      cases h
      refine ⟨Nat.le_refl _, by simp, ?_⟩
      rw [List.findIdx?_cons]
      simp [hb]
    · rename_i hb
      obtain ⟨q1, q2, q3⟩ := bornFind_ok bs ms (j + 1) i (by simpa using hl) (fun n d e' hd he => hr (n + 1) d e' (by simpa using hd) (by simpa using he)) h
      obtain ⟨z, rfl⟩ : ∃ z, i = j + 1 + z := ⟨i - (j + 1), by omega⟩
      rw [show j + 1 + z - (j + 1) = z by omega] at q2 q3
      rw [show j + 1 + z - j = z + 1 by omega]
      refine ⟨by omega, by simpa using q2, ?_⟩
      rw [List.findIdx?_cons]
      have : ((e.born : Int) == s) = false := by simpa using hb
      rw [this, q3]
      rfl
theorem entryStore_ok {P : Program} {c : Cx} (inv : Inv c) {t : TypeId} {v u b : Value} {x s y : D} {H : Heap} (hv : Rep c v x) (hu : Rep c u s) (hb : Rep c b y) (h : entryStoreD c.hp x s y = some H) : UnitOk P c (Instr.entryStore t v u b) H := by
  unfold entryStoreD at h
  split at h
  case h_2 => cases h
  rename_i m s hm
  obtain ⟨rfl, _, ⟨ms, n, m0, m1, m2, m3, m4, m5⟩, _⟩ := map_rep inv hv hm
  cases hu
  split at h
  case h_2 => cases h
  rename_i i hi
  split at h
  case h_2 => cases h
  rename_i e he
  cases h
  obtain ⟨_, q2, q3⟩ := bornFind_ok m.bs ms.toList 0 i (by simp; omega) (fun n d e hd he => by
    have := m5 n d hd
    rwa [getD_toList he] at this) hi
  simp only [Nat.sub_zero, Array.length_toList] at q2 q3
  have hfi : ms.findIdx? (fun e => (e.born : Int) == s) = some i := by obtain ⟨l⟩ := ms; simpa using q3
  have hkv := m4 i e he
  obtain ⟨c', r1, r2, r3, r4⟩ := setMap_ok inv hm (ms := ms.modify i fun e => { e with val := b }) (n := n) (bs := m.bs) (ents := m.ents.set i (e.1, y)) m0 (by simpa using m2) (by simpa using m3) (rep_key_set (u := b) (b := b) q2 m2 m4 hkv.1 hb) (born_set q2 (fun _ => rfl) m5)
  refine ⟨c', ?_, r2, r3, r4⟩
  simp [Instr.entryStore, get_map m1, asInt, asIntOf, hfi, r1]
theorem makeMap_ok {P : Program} {c : Cx} (inv : Inv c) {t : TypeId} : ValOk P c (Instr.makeMap t none) (mapNew c.hp).1 (mapNew c.hp).2 := by
  have hp := push_ok inv (k := mapB 0 0 [] []) (m := (c.w.heap.size, c.w.heap.size)) (w' := c.w.alloc (.map #[] 0)) rfl rfl rfl (by simp) (fun b hb => heap_alloc_old c.w _ b hb) (fun b _ hat => by
      rcases hat with hat | hat <;> exact Nat.le_of_eq hat) (fun le => ?_)
  · refine ⟨.map (some c.w.heap.size), _, ?_, rfl, hp.1, hp.2, ?_⟩
    · simp [Instr.makeMap, newObj, Sem.run]
      rfl
    · refine .map _ _ _ (by simp [Cx.push]) (by simp [ng, Cx.push, Blk.next, mapB]) fun ro es hx => ?_
      simp only [Cx.push, List.getElem?_concat_length, Option.some.injEq, mapB, Blk.map.injEq] at hx
      obtain ⟨_, _, rfl⟩ := hx
      simp [Cx.push, upd_same, spTag, spV]
  · refine ⟨⟨?_, #[], 0, rfl, ?_, rfl, rfl, fun i x h => by simp at h, fun i d h => by simp at h⟩, (fun h => nomatch h), fun _ => ?_⟩
    · simp only [Cx.push, upd_same]
    · simp only [Cx.push, upd_same]
      exact heap_alloc_new c.w _
    · simp only [Cx.push, upd_same]
      exact ⟨fun hi => absurd (inv.imlt _ hi) (Nat.lt_irrefl _), fun hi => absurd (inv.imlt _ hi) (Nat.lt_irrefl _)⟩
end Go.Proofs.Ytejpgmemohchaaa.Vm
