/- A part of the proof of the law MatrixTurns: an abstract machine for the functions' code with its soundness, words, lemmas (assembled by a program). -/
import Derived.Test.YtpmbcdakpmceiaaGreatCMatrixTurns4
set_option linter.unusedVariables false
set_option linter.unusedSimpArgs false
set_option linter.unusedSectionVars false
section
set_option linter.unusedVariables false
set_option linter.unusedSimpArgs false
set_option maxRecDepth 100000
namespace Go.S
open Go Go.AM Go.RowKit Go.K
abbrev eT (t : List (List Rat)) : AV := .lst (em eR t)
abbrev rT (t : List (List Rat)) : AV := .lst (em rR t)
def wide (t : List (List Rat)) : Nat := (t.getD 0 []).length
def even (t : List (List Rat)) : Bool := t.all fun r => decide (r.length = wide t)
theorem even_iff {t : List (List Rat)} : even t = true ↔ ∀ r ∈ t, r.length = wide t := by simp [even]
theorem findIdx_spec {α : Type} [Inhabited α] {l : List α} {p : α → Bool} {i : Nat} (hi : i < l.length) (h1 : p (l.getD i default) = true) (h2 : ∀ j, j < i → p (l.getD j default) = false) : l.findIdx p = i := by
  rw [List.findIdx_eq hi]
  refine ⟨by rw [List.getD_eq_getElem?_getD, List.getElem?_eq_getElem hi] at h1; simpa using h1, fun j hj => ?_⟩
  have := h2 j hj
  rw [List.getD_eq_getElem?_getD, List.getElem?_eq_getElem (by omega)] at this
  simpa using this
theorem findIdx_none {α : Type} [Inhabited α] {l : List α} {p : α → Bool} (h : ∀ j, j < l.length → p (l.getD j default) = false) : ¬ l.findIdx p < l.length := by
  rw [List.findIdx_lt_length]
  rintro ⟨x, hx, hp⟩
  obtain ⟨j, hj, rfl⟩ := List.getElem_of_mem hx
  have := h j (by omega)
  rw [List.getD_eq_getElem?_getD, List.getElem?_eq_getElem hj] at this
  simp [hp] at this
theorem s_IndexRow {t : List (List Rat)} {g : Nat} {c : Int} {p : List Rat → Bool} (hl : t.length ≤ 1000000) (hg : ∀ x ∈ t, CP (CL F) g [eR x, .fad (.int .i64 c)] = some (.bool (p x))) :
    CP (CL F) 83 [eT t, .fn g [] [.fad (.int .i64 c)]] = some (eI (if t.findIdx p < t.length then (t.findIdx p : Int) else -1)) := by
  refine CP_X (F := F) (f := 83) rfl rfl ?_
  have c1 : ∀ h, fz h (.fn g [] [.fad (.int .i64 c)]) = some (.fn g [] [.fad (.int .i64 c)]) := fun _ => rfl
  have c2 : ∀ h, used h deep (.fn g [] [.fad (.int .i64 c)]) = [] := fun _ => rfl
  have c3 : ∀ h, fz h (.fad (.int .i64 c)) = some (.fad (.int .i64 c)) := fun _ => rfl
  have c4 : ∀ h, used h deep (.fad (.int .i64 c)) = [] := fun _ => rfl
  refine go3 ?_
  refine X_upto t.length (fun i s => ∃ j4 j5 j9 j16 g', (∀ j, j < i → p (t.getD j default) = false) ∧ s = ⟨[(0, eT t), (1, .fn g [] [.fad (.int .i64 c)]), (4, j4), (5, j5), (7, eI t.length), (8, eI i), (9, j9), (16, j16)], g'⟩) ?_ 0 (Nat.zero_le _) _ ⟨_, _, _, _, _, fun j hj => by omega, rfl⟩
  rintro i s hi ⟨j4, j5, j9, j16, g', hall, rfl⟩ rec
  by_cases hlt : i < t.length
  · have hlt2 := lt_c hlt
    have g1 := em_getN (f := eR) t i hlt
    have hc := hg _ (getD_mem (l := t) (i := i) hlt)
    cases hp : p (t.getD i default) with
    | true =>
      rw [findIdx_spec hlt hp hall, if_pos hlt]
      rw [hp] at hc
      clear hall hg rec hi hp
      refine go3 ?_
      trivial
    | false =>
      rw [hp] at hc
      have hnext : ∀ j, j < i + 1 → p (t.getD j default) = false := fun j hj => by
        rcases Nat.lt_or_ge j i with h | h
        · exact hall j h
        · have : j = i := by omega
          subst this; exact hp
      have hw := i64_nat (n := i) (by omega)
      clear hall hg hp
      refine go3 ?_
      exact rec _ hlt ⟨_, _, _, _, _, hnext, rfl⟩
  · have hl3 : ¬ ((i : Int) < (t.length : Int)) := by omega
    have he := findIdx_none (l := t) (p := p) fun j hj => hall j (by omega)
    rw [if_neg he]
    clear hall hg rec he
    refine go3 ?_
    trivial
theorem s_ContainsRow {t : List (List Rat)} {g : Nat} {c : Int} {p : List Rat → Bool} (hl : t.length ≤ 1000000) (hg : ∀ x ∈ t, CP (CL F) g [eR x, .fad (.int .i64 c)] = some (.bool (p x))) :
    CP (CL F) 48 [eT t, .fn g [] [.fad (.int .i64 c)]] = some (.bool (t.any p)) := by
  refine CP_X (F := F) (f := 48) rfl rfl ?_
  have c1 : ∀ h, fz h (.fn g [] [.fad (.int .i64 c)]) = some (.fn g [] [.fad (.int .i64 c)]) := fun _ => rfl
  have c2 : ∀ h, used h deep (.fn g [] [.fad (.int .i64 c)]) = [] := fun _ => rfl
  have h1 := s_IndexRow hl hg
  clear hg
  by_cases h : t.findIdx p < t.length
  · have ha : t.any p = true := by
      rw [List.any_eq_true]
      rw [List.findIdx_lt_length] at h
      exact h
    rw [if_pos h] at h1
    rw [ha]
    have h2 : (0 : Int) ≤ (t.findIdx p : Int) := by omega
    clear ha h
    refine go3 ?_
    trivial
  · have ha : t.any p = false := by
      rw [← Bool.not_eq_true, List.any_eq_true, ← List.findIdx_lt_length]
      exact h
    rw [if_neg h] at h1
    rw [ha]
    clear ha h
    refine go3 ?_
    trivial
theorem s_IndexTab {l : List (List (List Rat))} {g : Nat} {p : List (List Rat) → Bool} (hl : l.length ≤ 1000000) (hg : ∀ x ∈ l, CP (CL F) g [eT x] = some (.bool (p x))) :
    CP (CL F) 112 [.lst (em eT l), .fn g [] []] = some (eI (if l.findIdx p < l.length then (l.findIdx p : Int) else -1)) := by
  refine CP_X (F := F) (f := 112) rfl rfl ?_
  refine go3 ?_
  refine X_upto l.length (fun i s => ∃ j4 j5 j9 j16 g', (∀ j, j < i → p (l.getD j default) = false) ∧ s = ⟨[(0, .lst (em eT l)), (1, .fn g [] []), (4, j4), (5, j5), (7, eI l.length), (8, eI i), (9, j9), (16, j16)], g'⟩) ?_ 0 (Nat.zero_le _) _ ⟨_, _, _, _, _, fun j hj => by omega, rfl⟩
  rintro i s hi ⟨j4, j5, j9, j16, g', hall, rfl⟩ rec
  by_cases hlt : i < l.length
  · have hlt2 := lt_c hlt
    have g1 := em_getN (f := eT) l i hlt
    have hc := hg _ (getD_mem (l := l) (i := i) hlt)
    cases hp : p (l.getD i default) with
    | true =>
      rw [findIdx_spec hlt hp hall, if_pos hlt]
      rw [hp] at hc
      clear hall hg rec hi hp
      refine go3 ?_
      trivial
    | false =>
      rw [hp] at hc
      have hnext : ∀ j, j < i + 1 → p (l.getD j default) = false := fun j hj => by
        rcases Nat.lt_or_ge j i with h | h
        · exact hall j h
        · have : j = i := by omega
          subst this; exact hp
      have hw := i64_nat (n := i) (by omega)
      clear hall hg hp
      refine go3 ?_
      exact rec _ hlt ⟨_, _, _, _, _, hnext, rfl⟩
  · have hl3 : ¬ ((i : Int) < (l.length : Int)) := by omega
    have he := findIdx_none (l := l) (p := p) fun j hj => hall j (by omega)
    rw [if_neg he]
    clear hall hg rec he
    refine go3 ?_
    trivial
theorem s_ContainsTab {l : List (List (List Rat))} {g : Nat} {p : List (List Rat) → Bool} (hl : l.length ≤ 1000000) (hg : ∀ x ∈ l, CP (CL F) g [eT x] = some (.bool (p x))) :
    CP (CL F) 88 [.lst (em eT l), .fn g [] []] = some (.bool (l.any p)) := by
  refine CP_X (F := F) (f := 88) rfl rfl ?_
  have h1 := s_IndexTab hl hg
  clear hg
  by_cases h : l.findIdx p < l.length
  · have ha : l.any p = true := by
      rw [List.any_eq_true]
      rw [List.findIdx_lt_length] at h
      exact h
    rw [if_pos h] at h1
    rw [ha]
    have h2 : (0 : Int) ≤ (l.findIdx p : Int) := by omega
    clear ha h
    refine go3 ?_
    trivial
  · have ha : l.any p = false := by
      rw [← Bool.not_eq_true, List.any_eq_true, ← List.findIdx_lt_length]
      exact h
    rw [if_neg h] at h1
    rw [ha]
    clear ha h
    refine go3 ?_
    trivial
theorem s_Size (t : List (List Rat)) : CP (CL F) 9 [eT t] = some (.tup [eI t.length, eI (wide t)]) := by
  refine CP_X (F := F) (f := 9) rfl rfl ?_
  cases t with
  | nil =>
    have h : wide [] = 0 := rfl
    have h0 : em eR [] = [] := rfl
    refine go3 ?_
    trivial
  | cons r t =>
    have h : wide (r :: t) = r.length := rfl
    have h1 : ¬ (((r :: t).length : Int) = 0) := by simp; omega
    have g1 := em_getN (f := eR) (r :: t) 0 (by simp)
    rw [show (r :: t).getD 0 default = r from rfl] at g1
    generalize r :: t = x at *
    refine go3 ?_
    trivial
theorem s_Wide (t : List (List Rat)) : CP (CL F) 13 [rT t] = some (eI (wide t)) := by
  refine CP_X (F := F) (f := 13) rfl rfl ?_
  cases t with
  | nil =>
    have h : wide [] = 0 := rfl
    have h0 : em rR [] = [] := rfl
    refine go3 ?_
    trivial
  | cons r t =>
    have h : wide (r :: t) = r.length := rfl
    have h1 : ¬ (((r :: t).length : Int) = 0) := by simp; omega
    have g1 := em_getN (f := rR) (r :: t) 0 (by simp)
    rw [show (r :: t).getD 0 default = r from rfl] at g1
    generalize r :: t = x at *
    refine go3 ?_
    trivial
theorem s_Check1 (r : List Rat) (c : Int) : CP (CL F) 49 [eR r, .fad (.int .i64 c)] = some (.bool (decide ((r.length : Int) ≠ c))) := by
  refine CP_X (F := F) (f := 49) rfl rfl ?_
  have c3 : ∀ h, fz h (.fad (.int .i64 c)) = some (.fad (.int .i64 c)) := fun _ => rfl
  refine go3 ?_
  simp
def may (t : List (List Rat)) : Bool := decide (t.length ≤ 200) && decide (wide t ≤ 200) && even t
theorem s_Check {t : List (List Rat)} (hl : t.length ≤ 1000000) : CP (CL F) 11 [eT t] = some (eI (if may t then 0 else 8)) := by
  refine CP_X (F := F) (f := 11) rfl rfl ?_
  have h0 := s_Size t
  have h1 := s_ContainsRow (t := t) (g := 49) (c := wide t) hl fun x _ => s_Check1 x _
  have h2 : t.any (fun x => decide ((x.length : Int) ≠ (wide t : Int))) = !even t := by
    unfold even
    rw [List.not_all_eq_any_not]
    congr 1
    funext r
    by_cases h : r.length = wide t
    · simp [h]
    · simp [h]; omega
  have c5 : ∀ g, fz (some ⟨0, 1, [eI (wide t)]⟩ :: g) (.fn 49 [] [.ptr 0 0 0 0]) = some (.fn 49 [] [.fad (eI (wide t))]) := fun _ => rfl
  have c6 : ∀ g, used (some ⟨0, 1, [eI (wide t)]⟩ :: g) deep (.fn 49 [] [.ptr 0 0 0 0]) = [0] := fun _ => rfl
  rw [h2] at h1
  clear h2
  by_cases a1 : t.length ≤ 200
  · have b1 : ¬ ((200 : Int) < (t.length : Int)) := by omega
    by_cases a2 : wide t ≤ 200
    · have b2 : ¬ ((200 : Int) < (wide t : Int)) := by omega
      cases h3 : even t with
      | true =>
        have h4 : may t = true := by simp [may, a1, a2, h3]
        rw [h3] at h1
        rw [Bool.not_true] at h1
        rw [h4, if_pos rfl]
        clear h3 h4 a1 a2
        refine go3 ?_
        trivial
      | false =>
        have h4 : may t = false := by simp [may, a1, a2, h3]
        rw [h3] at h1
        rw [Bool.not_false] at h1
        rw [h4, if_neg (by decide)]
        clear h3 h4 a1 a2
        refine go3 ?_
        trivial
    · have b2 : (200 : Int) < (wide t : Int) := by omega
      have h4 : may t = false := by simp [may, a2]
      rw [h4, if_neg (by decide)]
      clear h4 a1 a2
      refine go3 ?_
      trivial
  · have b1 : (200 : Int) < (t.length : Int) := by omega
    have h4 : may t = false := by simp [may, a1]
    rw [h4, if_neg (by decide)]
    clear h4 a1
    refine go3 ?_
    trivial
theorem s_checks1 {t : List (List Rat)} (hl : t.length ≤ 1000000) : CP (CL F) 89 [eT t] = some (.bool (!may t)) := by
  refine CP_X (F := F) (f := 89) rfl rfl ?_
  have h := s_Check hl
  cases h1 : may t with
  | true =>
    rw [h1] at h
    rw [if_pos rfl] at h
    clear h1
    refine go3 ?_
    trivial
  | false =>
    rw [h1] at h
    rw [if_neg (by decide)] at h
    clear h1
    refine go3 ?_
    trivial
theorem s_checks {l : List (List (List Rat))} (hl : l.length ≤ 1000000) (ht : ∀ t ∈ l, t.length ≤ 1000000) : CP (CL F) 57 [.lst (em eT l)] = some (.bool (l.all may)) := by
  refine CP_X (F := F) (f := 57) rfl rfl ?_
  have h := s_ContainsTab (l := l) (g := 89) hl fun x hx => s_checks1 (ht x hx)
  have h2 : l.all may = !(l.any fun x => !may x) := by rw [List.not_any_eq_all_not]; simp
  rw [h2]
  cases h3 : l.any fun x => !may x with
  | true =>
    rw [h3] at h
    clear h2 h3 ht
    refine go3 ?_
    trivial
  | false =>
    rw [h3] at h
    clear h2 h3 ht
    refine go3 ?_
    trivial
end Go.S

end
section
set_option linter.unusedVariables false
set_option linter.unusedSimpArgs false
set_option maxRecDepth 100000
namespace Go.S
open Go Go.AM Go.RowKit Go.K
theorem CL_XE {F : Nat → Option AFunc} {f np nt : Nat} {ks : List Nat} {res : List (Nat × Option (Nat × Bool))} {body : ACode} {args : List AV} {h : Heap} {P : AV × Heap → Prop} (hf : F f = some ⟨np, nt, ks, res, body⟩) (hn : args.length = np)
    (H : X F ks (fun e s => ∃ x, FinR res x e s ∧ P x) body ⟨args0 0 args, h⟩ .done) : ∃ x, CL F f args h = some x ∧ P x := by
  obtain ⟨e, s', h1, x, ⟨he, hr⟩, hp⟩ := H
  exact ⟨x, CL_run hf hn h1 he hr, hp⟩
theorem s_Few_raw {l : List XQ} (hx : ∀ x ∈ l, x.ok) {most : Nat} (hm : most ≤ 1000000) : ∃ qs : List Rat, qs.length = min l.length most ∧ (∀ q ∈ qs, Lq q ≤ 1) ∧ ∀ h, ∃ v w g, CL F 23 [.lst (em eX l), eI most] h = some (.tup [.ref h.length v 3 0 qs.length, .ref (h.length + 1) w 3 0 qs.length], h ++ (some ⟨v, 3, em eQ qs⟩ :: some ⟨w, 3, em rQ qs⟩ :: g)) := by
  have hex : ∃ f : XQ → Rat, ∀ x ∈ l, Lq (f x) ≤ 1 ∧ CP (CL F) 34 [eX x, eI 1] = some (eQ (f x)) := by
    classical
    refine ⟨fun x => if h : x ∈ l then (s_r08_CleanX (hx x h) (m := 1) (by decide) (by decide)).choose else 0, fun x h => ?_⟩
    simp only [h, dif_pos]
    exact (s_r08_CleanX (hx x h) (m := 1) (by decide) (by decide)).choose_spec
  obtain ⟨f, hf⟩ := hex
  refine ⟨(l.take most).map f, by simp; omega, fun q hq => by
    obtain ⟨x, hx, rfl⟩ := List.mem_map.1 hq
    exact (hf x (List.mem_of_mem_take hx)).1, fun h => ?_⟩
  suffices H : ∃ x, CL F 23 [.lst (em eX l), eI most] h = some x ∧ ∃ v w g, x = (.tup [.ref h.length v 3 0 ((l.take most).map f).length, .ref (h.length + 1) w 3 0 ((l.take most).map f).length], h ++ (some ⟨v, 3, em eQ ((l.take most).map f)⟩ :: some ⟨w, 3, em rQ ((l.take most).map f)⟩ :: g)) by
    obtain ⟨x, h1, v, w, g, rfl⟩ := H
    exact ⟨v, w, g, h1⟩
  refine CL_XE (F := F) (f := 23) rfl rfl ?_
  have c1 := @cells_eX
  have c2 := @agg_eX
  have c3 := @fz_eX
  have c4 := @us_eX
  have c5 := @shut_eX
  clear hx
  refine go3 ?_
  refine X_upto (min l.length most) (fun i s => ∃ j4 j5 j9 j20 v w g, s = ⟨[(0, .lst (em eX l)), (1, eI most), (4, j4), (5, j5), (6, .ref h.length v 3 0 i), (7, .ref (h.length + 1) w 3 0 i), (8, eI i), (9, j9), (20, j20)], h ++ (some ⟨v, 3, em eQ ((l.take i).map f)⟩ :: some ⟨w, 3, em rQ ((l.take i).map f)⟩ :: g)⟩) ?_ 0 (Nat.zero_le _) _ ⟨_, _, _, _, _, _, [], rfl⟩
  rintro i s hi ⟨j4, j5, j9, j20, v, w, g, rfl⟩ rec
  have hlen : ((l.take i).map f).length = i := by simp; omega
  have ht : List.take i ((l.take i).map f) = (l.take i).map f := take_len_g _ hlen.symm
  by_cases h1 : i < l.length
  · have h1' := lt_c h1
    by_cases h2 : i < most
    · have h2' := lt_c h2
      have hi2 : i < min l.length most := by omega
      have hg0 := em_getN (f := eX) l i h1
      obtain ⟨f1, f2⟩ := hf _ (getD_mem h1)
      have k1 := s_r08_Of (q := f (l.getD i default)) (by omega)
      have hs : (l.take i).map f ++ [f (l.getD i default)] = (l.take (i + 1)).map f := by rw [take_succ_getD l i h1]; simp
      have hlim : i + 1 ≤ 2513169434916 := by omega
      have hlim2 : i < 2513169434916 := by omega
      have hw := i64_nat (n := i) (by omega)
      clear hf f1 hlen hi
      refine go3 ?_
      exact rec _ hi2 ⟨_, _, _, _, _, _, _, rfl⟩
    · have h2' : ¬ ((i : Int) < (most : Int)) := by omega
      have hi2 : i = most := by omega
      subst hi2
      clear hf rec hi h1
      refine go3 ?_
      exact ⟨_, rfl, _, _, _, rfl⟩
  · have h1' : ¬ ((i : Int) < (l.length : Int)) := by omega
    have hi2 : l.take most = l := List.take_of_length_le (by omega)
    have hi3 : l.take i = l := List.take_of_length_le (by omega)
    rw [hi3] at hlen
    have ht2 : List.take i (l.map f) = l.map f := take_len_g _ hlen.symm
    rw [hi2, hi3]
    clear hf rec hi h1 hi2 hi3
    refine go3 ?_
    exact ⟨_, rfl, _, _, _, rfl⟩
def RowAt (b : Nat) (g : Heap) (f : Rat → AV) (c : AV) (r : List Rat) (k : Nat) : Prop := ∃ v ys, c = .ref (b + k) v 3 0 r.length ∧ g[k]? = some (some ⟨v, 3, em f r ++ ys⟩)
def RowsIn (b : Nat) (g : Heap) (f : Rat → AV) (cs : List AV) (t : List (List Rat)) (ks : List Nat) : Prop :=
  cs.length = t.length ∧ ks.length = t.length ∧ ∀ i, i < t.length → RowAt b g f (cs.getD i default) (t.getD i default) (ks.getD i default)
theorem RowAt.lt {b : Nat} {g : Heap} {f : Rat → AV} {c : AV} {r : List Rat} {k : Nat} (h : RowAt b g f c r k) : k < g.length := by
  obtain ⟨v, ys, rfl, h⟩ := h
  exact (List.getElem?_eq_some_iff.1 h).1
theorem RowAt.grow {b : Nat} {g : Heap} {f : Rat → AV} {c : AV} {r : List Rat} {k : Nat} (h : RowAt b g f c r k) (g' : Heap) : RowAt b (g ++ g') f c r k := by
  obtain ⟨v, ys, h1, h2⟩ := h
  refine ⟨v, ys, h1, ?_⟩
  rw [List.getElem?_append_left (List.getElem?_eq_some_iff.1 h2).1]
  exact h2
theorem RowAt.set {b : Nat} {g : Heap} {f : Rat → AV} {c : AV} {r : List Rat} {k : Nat} (h : RowAt b g f c r k) {j : Nat} (hj : j ≠ k) (x : Option Blk) : RowAt b (g.set j x) f c r k := by
  obtain ⟨v, ys, h1, h2⟩ := h
  refine ⟨v, ys, h1, ?_⟩
  rw [List.getElem?_set_ne hj]
  exact h2
theorem getD_snoc_lt {α : Type} [Inhabited α] {l : List α} {x : α} {i : Nat} (h : i < l.length) : (l ++ [x]).getD i default = l.getD i default := by
  simp [List.getD, List.getElem?_append_left h]
theorem getD_snoc_eq {α : Type} [Inhabited α] {l : List α} {x : α} : (l ++ [x]).getD l.length default = x := by simp [List.getD]
theorem RowsIn.grow {b : Nat} {g : Heap} {f : Rat → AV} {cs : List AV} {t : List (List Rat)} {ks : List Nat} (h : RowsIn b g f cs t ks) (g' : Heap) : RowsIn b (g ++ g') f cs t ks :=
  ⟨h.1, h.2.1, fun i hi => (h.2.2 i hi).grow g'⟩
theorem RowsIn.snoc {b : Nat} {g : Heap} {f : Rat → AV} {cs : List AV} {t : List (List Rat)} {ks : List Nat} (h : RowsIn b g f cs t ks) {c : AV} {r : List Rat} {k : Nat} (h1 : RowAt b g f c r k) : RowsIn b g f (cs ++ [c]) (t ++ [r]) (ks ++ [k]) := by
  obtain ⟨a1, a2, a3⟩ := h
  refine ⟨by simp [a1], by simp [a2], fun i hi => ?_⟩
  by_cases hl : i < t.length
  · rw [getD_snoc_lt (by omega), getD_snoc_lt hl, getD_snoc_lt (by omega)]
    exact a3 i hl
  · have : i = t.length := by simp at hi; omega
    subst this
    rw [getD_snoc_eq]
    rw [← a1, getD_snoc_eq, a1, ← a2, getD_snoc_eq]
    exact h1
theorem RowsIn.lt {b : Nat} {g : Heap} {f : Rat → AV} {cs : List AV} {t : List (List Rat)} {ks : List Nat} (h : RowsIn b g f cs t ks) : ∀ k ∈ ks, k < g.length := fun k hk => by
  obtain ⟨i, hi, rfl⟩ := List.getElem_of_mem hk
  have := (h.2.2 i (by have := h.2.1; omega)).lt
  rw [List.getD_eq_getElem?_getD, List.getElem?_eq_getElem hi] at this
  exact this
abbrev eXL (l : List XQ) : AV := .lst (em eX l)
theorem s_Few12_raw {t : List (List XQ)} (hx : ∀ l ∈ t, ∀ x ∈ l, x.ok) {most : Nat} (hm : most ≤ 1000000) : ∃ qs : List (List Rat), qs.length = min t.length most ∧ (∀ r ∈ qs, r.length ≤ most ∧ ∀ q ∈ r, Lq q ≤ 1) ∧
    ∀ h, ∃ v w cs ds ks ls g, CL F 8 [.lst (em eXL t), eI most] h = some (.tup [.ref h.length v 1 0 qs.length, .ref (h.length + 1) w 1 0 qs.length], h ++ (some ⟨v, 1, cs⟩ :: some ⟨w, 1, ds⟩ :: g)) ∧
      RowsIn (h.length + 2) g eQ cs qs ks ∧ RowsIn (h.length + 2) g rQ ds qs ls ∧ (ks ++ ls).Nodup := by
  have hex : ∃ f : List XQ → List Rat, ∀ l ∈ t, (f l).length = min l.length most ∧ (∀ q ∈ f l, Lq q ≤ 1) ∧ ∀ h, ∃ v w g, CL F 23 [eXL l, eI most] h = some (.tup [.ref h.length v 3 0 (f l).length, .ref (h.length + 1) w 3 0 (f l).length], h ++ (some ⟨v, 3, em eQ (f l)⟩ :: some ⟨w, 3, em rQ (f l)⟩ :: g)) := by
    classical
    refine ⟨fun l => if h : l ∈ t then (s_Few_raw (hx l h) hm).choose else [], fun l h => ?_⟩
    simp only [h, dif_pos]
    exact (s_Few_raw (hx l h) hm).choose_spec
  obtain ⟨f, hf⟩ := hex
  refine ⟨(t.take most).map f, by simp; omega, fun r hr => ?_, fun h => ?_⟩
  · obtain ⟨l, hl, rfl⟩ := List.mem_map.1 hr
    obtain ⟨h1, h2, _⟩ := hf l (List.mem_of_mem_take hl)
    exact ⟨by omega, h2⟩
  suffices H : ∃ x, CL F 8 [.lst (em eXL t), eI most] h = some x ∧ ∃ v w cs ds ks ls g, x = (.tup [.ref h.length v 1 0 ((t.take most).map f).length, .ref (h.length + 1) w 1 0 ((t.take most).map f).length], h ++ (some ⟨v, 1, cs⟩ :: some ⟨w, 1, ds⟩ :: g)) ∧
      RowsIn (h.length + 2) g eQ cs ((t.take most).map f) ks ∧ RowsIn (h.length + 2) g rQ ds ((t.take most).map f) ls ∧ (ks ++ ls).Nodup by
    obtain ⟨x, h1, v, w, cs, ds, ks, ls, g, rfl, h2⟩ := H
    exact ⟨v, w, cs, ds, ks, ls, g, h1, h2⟩
  refine CL_XE (F := F) (f := 8) rfl rfl ?_
  clear hx
  refine go3 ?_
  refine X_upto (min t.length most) (fun i s => ∃ j4 j5 j9 j10 j21 v w cs ds ks ls g, RowsIn (h.length + 2) g eQ cs ((t.take i).map f) ks ∧ RowsIn (h.length + 2) g rQ ds ((t.take i).map f) ls ∧ (ks ++ ls).Nodup ∧
    s = ⟨[(0, .lst (em eXL t)), (1, eI most), (4, j4), (5, j5), (6, .ref h.length v 1 0 i), (7, .ref (h.length + 1) w 1 0 i), (8, eI i), (9, j9), (10, j10), (21, j21)], h ++ (some ⟨v, 1, cs⟩ :: some ⟨w, 1, ds⟩ :: g)⟩) ?_ 0 (Nat.zero_le _) _
    ⟨_, _, _, _, _, _, _, [], [], [], [], [], ⟨rfl, rfl, fun i hi => by simp at hi⟩, ⟨rfl, rfl, fun i hi => by simp at hi⟩, by simp, rfl⟩
  rintro i s hi ⟨j4, j5, j9, j10, j21, v, w, cs, ds, ks, ls, g, R1, R2, R3, rfl⟩ rec
  have hlen : ((t.take i).map f).length = i := by simp; omega
  have l1 : cs.length = i := by rw [R1.1, hlen]
  have l2 : ds.length = i := by rw [R2.1, hlen]
  have ht1 : List.take i cs = cs := take_len_g _ l1.symm
  have ht2 : List.take i ds = ds := take_len_g _ l2.symm
  have ht3 : sub cs 0 i = cs := by unfold sub; rw [List.drop_zero]; exact ht1
  have ht4 : sub ds 0 i = ds := by unfold sub; rw [List.drop_zero]; exact ht2
  by_cases h1 : i < t.length
  · have h1' := lt_c h1
    by_cases h2 : i < most
    · have h2' := lt_c h2
      have hi2 : i < min t.length most := by omega
      have hg0 := em_getN (f := eXL) t i h1
      obtain ⟨f1, f2, f3⟩ := hf _ (getD_mem h1)
      obtain ⟨v', w', g', f4⟩ := f3 (h ++ (some ⟨v, 1, cs⟩ :: some ⟨w, 1, ds⟩ :: g))
      have hs : (t.take i).map f ++ [f (t.getD i default)] = (t.take (i + 1)).map f := by rw [take_succ_getD t i h1]; simp
      have hlim : i + 1 ≤ 5864062014805 := by omega
      have hlim2 : i < 5864062014805 := by omega
      have hw := i64_nat (n := i) (by omega)
      generalize hr : f (t.getD i default) = r at *
      clear hf f1 f2 f3 hlen hi
      refine go3 ?_
      refine rec _ hi2 ⟨_, _, _, _, _, _, _, _, _, ks ++ [g.length], ls ++ [g.length + 1], _, ?_, ?_, ?_, rfl⟩
      · rw [← hs]
        refine (R1.grow _).snoc ?_
        refine ⟨v', [], by congr 1; omega, ?_⟩
        rw [get_app0, List.append_nil]
        rfl
      · rw [← hs]
        refine (R2.grow _).snoc ?_
        refine ⟨w', [], by congr 1; omega, ?_⟩
        rw [get_app, List.append_nil]
        rfl
      · have q1 := R1.lt
        have q2 := R2.lt
        rw [List.nodup_append] at R3 ⊢
        obtain ⟨n1, n2, n3⟩ := R3
        refine ⟨?_, ?_, ?_⟩
        · rw [List.nodup_append]
          exact ⟨n1, by simp, fun a ha b hb => by have := q1 a ha; simp at hb; omega⟩
        · rw [List.nodup_append]
          exact ⟨n2, by simp, fun a ha b hb => by have := q2 a ha; simp at hb; omega⟩
        · intro a ha b hb
          simp only [List.mem_append, List.mem_singleton] at ha hb
          rcases ha with ha | rfl
          · rcases hb with hb | rfl
            · exact n3 a ha b hb
            · have := q1 a ha; omega
          · rcases hb with hb | rfl
            · have := q2 b hb; omega
            · omega
    · have h2' : ¬ ((i : Int) < (most : Int)) := by omega
      have hi2 : i = most := by omega
      subst hi2
      clear hf rec hi h1
      refine go3 ?_
      exact ⟨_, rfl, _, _, _, _, _, _, _, rfl, R1, R2, R3⟩
  · have h1' : ¬ ((i : Int) < (t.length : Int)) := by omega
    have hi2 : t.take most = t := List.take_of_length_le (by omega)
    have hi3 : t.take i = t := List.take_of_length_le (by omega)
    rw [hi3] at hlen R1 R2
    rw [hi2]
    clear hf rec hi h1 hi2 hi3
    refine go3 ?_
    exact ⟨_, rfl, _, _, _, _, _, _, _, rfl, R1, R2, R3⟩
theorem mapM_some {α β : Type} {F : α → Option β} {G : α → β} : ∀ (l : List α), (∀ x ∈ l, F x = some (G x)) → l.mapM F = some (l.map G) := by
  intro l
  induction l with
  | nil => intro _; rfl
  | cons x l ih =>
    intro h
    rw [List.mapM_cons, h x (List.mem_cons_self ..), ih fun y hy => h y (List.mem_cons_of_mem _ hy)]
    rfl
theorem RowAt.frz {b : Nat} {g H : Heap} {f : Rat → AV} {c : AV} {r : List Rat} {k : Nat} (h : RowAt b g f c r k) (hf : ∀ x, plain1 (f x) = true) (hH : H[b + k]? = g[k]?) (n : Nat) : frz H (n + 3) c = some (.lst (em f r)) := by
  obtain ⟨v, ys, rfl, h2⟩ := h
  show (blk H (b + k) v).bind (fun b => ((sub b.xs 0 r.length).mapM (Go.AM.frz H (n + 2))).map AV.lst) = _
  have h3 : blk H (b + k) v = some ⟨v, 3, em f r ++ ys⟩ := by
    unfold blk
    rw [hH, h2]
    exact if_pos rfl
  rw [h3]
  have h4 : sub (em f r ++ ys) 0 r.length = em f r := by
    unfold sub
    rw [List.drop_zero, List.take_left' (by simp [em])]
  show ((sub (em f r ++ ys) 0 r.length).mapM (Go.AM.frz H (n + 2))).map AV.lst = _
  rw [h4, mapM_some (G := id) _ fun x hx => by
    obtain ⟨q, _, rfl⟩ := List.mem_map.1 hx
    exact (frz_plain1 (hf q)).1]
  simp
theorem RowsIn.frz {b : Nat} {g H : Heap} {f : Rat → AV} {cs : List AV} {t : List (List Rat)} {ks : List Nat} (h : RowsIn b g f cs t ks) (hf : ∀ x, plain1 (f x) = true) (hH : ∀ k, H[b + k]? = g[k]?) (n : Nat) : cs.mapM (frz H (n + 3)) = some (em (fun r => .lst (em f r)) t) := by
  obtain ⟨h1, h2, h3⟩ := h
  have key : ∀ (cs : List AV) (t : List (List Rat)), cs.length = t.length → (∀ i, i < t.length → Go.AM.frz H (n + 3) (cs.getD i default) = some (.lst (em f (t.getD i default)))) → cs.mapM (Go.AM.frz H (n + 3)) = some (em (fun r => .lst (em f r)) t) := by
    intro cs
    induction cs with
    | nil =>
      intro t ht _
      cases t with
      | nil => rfl
      | cons r t => simp at ht
    | cons c cs ih =>
      intro t ht hi
      cases t with
      | nil => simp at ht
      | cons r t =>
        have a0 := hi 0 (by simp)
        have a1 := ih t (by simpa using ht) fun i hi' => hi (i + 1) (by simp; omega)
        rw [List.mapM_cons]
        rw [show Go.AM.frz H (n + 3) c = some (.lst (em f r)) from a0, a1]
        rfl
  exact key cs t h1 fun i hi => (h3 i hi).frz hf (hH _) n
theorem fz_rows2 {h : Heap} {v w : Nat} {cs ds : List AV} {g : Heap} {t : List (List Rat)} {ks ls : List Nat} (R1 : RowsIn (h.length + 2) g eQ cs t ks) (R2 : RowsIn (h.length + 2) g rQ ds t ls) :
    fz (h ++ (some ⟨v, 1, cs⟩ :: some ⟨w, 1, ds⟩ :: g)) (.tup [.ref h.length v 1 0 t.length, .ref (h.length + 1) w 1 0 t.length]) = some (.tup [eT t, rT t]) := by
  have hH : ∀ k, (h ++ (some ⟨v, 1, cs⟩ :: some ⟨w, 1, ds⟩ :: g))[h.length + 2 + k]? = g[k]? := fun k => by
    rw [Nat.add_assoc, get_app, show 2 + k = k + 1 + 1 by omega]
    rfl
  have a1 := R1.frz (fun x => E_eQ.pl x) hH 2
  have a2 := R2.frz (fun x => E_rQ.pl x) hH 2
  have b1 : blk (h ++ (some ⟨v, 1, cs⟩ :: some ⟨w, 1, ds⟩ :: g)) h.length v = some ⟨v, 1, cs⟩ := by
    unfold blk
    rw [get_app0]
    exact if_pos rfl
  have b2 : blk (h ++ (some ⟨v, 1, cs⟩ :: some ⟨w, 1, ds⟩ :: g)) (h.length + 1) w = some ⟨w, 1, ds⟩ := by
    unfold blk
    rw [get_app]
    exact if_pos rfl
  generalize h ++ (some ⟨v, 1, cs⟩ :: some ⟨w, 1, ds⟩ :: g) = H at *
  have c1 : sub cs 0 t.length = cs := by unfold sub; rw [List.drop_zero]; exact List.take_of_length_le (by rw [R1.1]; omega)
  have c2 : sub ds 0 t.length = ds := by unfold sub; rw [List.drop_zero]; exact List.take_of_length_le (by rw [R2.1]; omega)
  have d1 : frz H 6 (.ref h.length v 1 0 t.length) = some (eT t) := by
    show (blk H h.length v).bind (fun b => ((sub b.xs 0 t.length).mapM (Go.AM.frz H 5)).map AV.lst) = _
    rw [b1]
    show ((sub cs 0 t.length).mapM (Go.AM.frz H 5)).map AV.lst = _
    rw [c1, a1]
    rfl
  have d2 : frz H 6 (.ref (h.length + 1) w 1 0 t.length) = some (rT t) := by
    show (blk H (h.length + 1) w).bind (fun b => ((sub b.xs 0 t.length).mapM (Go.AM.frz H 5)).map AV.lst) = _
    rw [b2]
    show ((sub ds 0 t.length).mapM (Go.AM.frz H 5)).map AV.lst = _
    rw [c2, a2]
    rfl
  show ([AV.ref h.length v 1 0 t.length, .ref (h.length + 1) w 1 0 t.length].mapM (Go.AM.frz H 6)).map AV.tup = _
  rw [List.mapM_cons, d1, List.mapM_cons, d2]
  rfl
theorem s_Few12 {t : List (List XQ)} (hx : ∀ l ∈ t, ∀ x ∈ l, x.ok) {most : Nat} (hm : most ≤ 1000000) : ∃ qs : List (List Rat), qs.length = min t.length most ∧ (∀ r ∈ qs, r.length ≤ most ∧ ∀ q ∈ r, Lq q ≤ 1) ∧
    CP (CL F) 8 [.lst (em eXL t), eI most] = some (.tup [eT qs, rT qs]) := by
  obtain ⟨qs, h1, h2, h3⟩ := s_Few12_raw hx hm
  refine ⟨qs, h1, h2, ?_⟩
  obtain ⟨v, w, cs, ds, ks, ls, g, h4, R1, R2, _⟩ := h3 []
  exact CP_raw h4 (fz_rows2 (h := []) R1 R2)
end Go.S

end
section
set_option linter.unusedVariables false
set_option linter.unusedSimpArgs false
set_option maxRecDepth 100000
namespace Go.Proofs.YtpmbcdakpmceiaaGreat.R
open Go Go.AM Go.S Go.RowKit Go.K Go.Proofs
theorem rdT : Rd Tryz.prog 22 (fun l : List (List XQ) => [.lst (em eXL l)]) fun l => ∀ r ∈ l, ∀ x ∈ r, x.ok :=
  (rd_slice Tryz.underlying22 rdR eXL (fun _ => rfl) (s := 1) (by kernel_rfl) (fun _ => rfl) (by decide)).map id (fun _ => rfl) fun l h => h.1
end Go.Proofs.YtpmbcdakpmceiaaGreat.R

end
section
set_option linter.unusedVariables false
set_option linter.unusedSimpArgs false
set_option maxRecDepth 100000
namespace Go.S
open Go Go.AM Go.RowKit Go.K
theorem getD_inj' {α : Type} [Inhabited α] {l r : List α} {i : Nat} (hne : l.getD i default ≠ r.getD i default) : l ≠ r := fun e => hne (by rw [e])
theorem s_Is12 {a q : List (List Rat)} (ha : a.length ≤ 1000000) (h0 : ∀ r ∈ a, r.length ≤ 1000000 ∧ ∀ x ∈ r, Lq x < 100000000) (h1 : ∀ r ∈ q, ∀ x ∈ r, Lq x < 100000000) : CP (CL F) 15 [eT a, rT q] = some (eI (if a = q then 1 else 0)) := by
  refine CP_X (F := F) (f := 15) rfl rfl ?_
  by_cases hl : a.length = q.length
  · have hl1 : ¬ ((a.length : Int) ≠ (q.length : Int)) := by omega
    have hl2 : (a.length : Int) = (q.length : Int) := by omega
    refine go3 ?_
    refine X_upto a.length (fun i s => ∃ j4 j14 j26 g, (a.take i = q.take i) ∧ s = ⟨[(0, eT a), (1, rT q), (4, j4), (5, eI i), (10, .bool false), (14, j14), (26, j26)], g⟩) ?_ 0 (Nat.zero_le _) _ ⟨_, _, _, _, by simp, rfl⟩
    rintro i s hi ⟨j4, j14, j26, g, heq, rfl⟩ rec
    by_cases hlt : i < a.length
    · have hlt1 : (i : Int) < (q.length : Int) := by omega
      have hlt2 : (i : Int) < (a.length : Int) := by omega
      have g1 := em_getN (f := eR) a i (by omega)
      have g2 := em_getN (f := rR) q i (by omega)
      have m1 := h0 _ (getD_mem (l := a) (i := i) (by omega))
      have k1 := s_Is (q := q.getD i default) m1.1 m1.2 (h1 _ (getD_mem (l := q) (i := i) (by omega)))
      clear m1
      by_cases hx : a.getD i default = q.getD i default
      · rw [if_pos hx] at k1
        have hnext : a.take (i + 1) = q.take (i + 1) := by rw [take_succ_getD a i hlt, take_succ_getD q i (by omega), heq, hx]
        have hw := i64_nat (n := i) (by omega)
        clear hx heq h0 h1
        refine go3 ?_
        exact rec _ hlt ⟨_, _, _, _, hnext, rfl⟩
      · rw [if_neg hx] at k1
        have hne : (if a = q then (1 : Int) else 0) = 0 := if_neg (getD_inj' hx)
        rw [hne]
        clear hx heq rec h0 h1 hne
        refine go3 ?_
        trivial
    · have hl3 : ¬ ((i : Int) < (q.length : Int)) := by omega
      have he : (if a = q then (1 : Int) else 0) = 1 := by
        rw [List.take_of_length_le (by omega), List.take_of_length_le (by omega)] at heq
        exact if_pos heq
      rw [he]
      clear heq rec h0 h1 he
      refine go3 ?_
      trivial
  · have hl1 : (a.length : Int) ≠ (q.length : Int) := by omega
    have hl2 : ¬ (a.length : Int) = (q.length : Int) := by omega
    have he : (if a = q then (1 : Int) else 0) = 0 := if_neg fun e => hl (by rw [e])
    rw [he]
    clear h0 h1 he
    refine go3 ?_
    trivial
theorem s_even {q : List (List Rat)} (hq : q.length ≤ 1000000) : CP (CL F) 12 [rT q] = some (.bool (even q)) := by
  refine CP_X (F := F) (f := 12) rfl rfl ?_
  refine go3 ?_
  refine X_upto q.length (fun i s => ∃ j2 j7 j19 g, (∀ j, j < i → (q.getD j default).length = wide q) ∧ s = ⟨[(0, rT q), (2, j2), (3, eI i), (7, j7), (19, j19)], g⟩) ?_ 0 (Nat.zero_le _) _ ⟨_, _, _, _, fun j hj => by omega, rfl⟩
  rintro i s hi ⟨j2, j7, j19, g, hall, rfl⟩ rec
  by_cases hlt : i < q.length
  · have hlt2 := lt_c hlt
    have g1 := em_getN (f := rR) q i hlt
    have g0 := em_getN (f := rR) q 0 (by omega)
    have hw0 : (q.getD 0 default).length = wide q := rfl
    have hpos : (0 : Int) < (q.length : Int) := by omega
    by_cases hx : (q.getD i default).length = wide q
    · have hnext : ∀ j, j < i + 1 → (q.getD j default).length = wide q := fun j hj => by
        rcases Nat.lt_or_ge j i with h | h
        · exact hall j h
        · have : j = i := by omega
          subst this; exact hx
      have hx1 : ¬ (((q.getD i default).length : Int) ≠ (wide q : Int)) := by omega
      have hx2 : ((q.getD i default).length : Int) = (wide q : Int) := by omega
      have hw := i64_nat (n := i) (by omega)
      generalize hr : q.getD i default = r at *
      clear hall hx
      refine go3 ?_
      exact rec _ hlt ⟨_, _, _, _, hnext, rfl⟩
    · have hx1 : (((q.getD i default).length : Int) ≠ (wide q : Int)) := by omega
      have hx2 : ¬ ((q.getD i default).length : Int) = (wide q : Int) := by omega
      have he : even q = false := by
        rw [← Bool.not_eq_true, even_iff]
        exact fun h => hx (h _ (getD_mem hlt))
      generalize hr : q.getD i default = r at *
      clear hall hx rec
      refine go3 ?_
      trivial
  · have hl3 : ¬ ((i : Int) < (q.length : Int)) := by omega
    have he : even q = true := by
      rw [even_iff]
      intro r hr
      obtain ⟨j, hj, rfl⟩ := List.getElem_of_mem hr
      have := hall j (by omega)
      rwa [List.getD_eq_getElem?_getD, List.getElem?_eq_getElem hj] at this
    clear hall rec
    refine go3 ?_
    trivial
end Go.S

end
section
set_option linter.unusedVariables false
set_option linter.unusedSimpArgs false
set_option maxRecDepth 100000
namespace Go.S
open Go Go.AM Go.RowKit Go.K
def runsTrue (F : Nat → Option AFunc) (n f : Nat) : Bool := match callN F n f [] [] with
  | some (.bool b, _) => b
  | _ => false
theorem CP_run {F : Nat → Option AFunc} {f : Nat} (n : Nat) (h : runsTrue F n f = true) : CP (CL F) f [] = some (.bool true) := by
  unfold runsTrue at h
  split at h
  · next b g hb =>
    subst h
    exact CP_raw (CL_of n hb) rfl
  · cases h
theorem s_works12 : CP (CL F) 16 [] = some (.bool true) := CP_run 300 (by decide +kernel)
end Go.S

end
section
set_option linter.unusedVariables false
set_option linter.unusedSimpArgs false
set_option maxRecDepth 100000
namespace Go.S
open Go Go.AM Go.RowKit Go.K
def colR (t : List (List Rat)) (j : Nat) : List Rat := t.map fun r => r.getD j default
theorem s_Column {t : List (List Rat)} {j : Nat} (hl : t.length ≤ 1000000) (hj : ∀ r ∈ t, j < r.length) : CP (CL F) 59 [rT t, eI j] = some (rR (colR t j)) := by
  refine CP_X (F := F) (f := 59) rfl rfl ?_
  refine go3 ?_
  refine X_up t.length (fun i s => ∃ j4 j11 v g, s = ⟨[(0, rT t), (1, eI j), (4, j4), (5, .ref 0 v 3 0 i), (6, eI i), (11, j11)], some ⟨v, 3, em rQ (colR (t.take i) j)⟩ :: g⟩) ?_ ?_ 0 (Nat.zero_le _) _ ⟨_, _, _, [], rfl⟩
  · rintro i s hi ⟨j4, j11, v, g, rfl⟩ rec
    have hlt := lt_c hi
    have g0 := em_getN (f := rR) t i hi
    have hr := hj _ (getD_mem hi)
    have hs : colR (t.take i) j ++ [(t.getD i default).getD j default] = colR (t.take (i + 1)) j := by rw [take_succ_getD t i hi]; simp [colR]
    have hlen : (colR (t.take i) j).length = i := by simp [colR]; omega
    have ht : List.take i (colR (t.take i) j) = colR (t.take i) j := take_len_g _ hlen.symm
    generalize t.getD i default = r at *
    have g1 := em_getN (f := rQ) r j hr
    have hlim : i < 2513169434916 := by omega
    have hw := i64_nat (n := i) (by omega)
    clear hj hlen
    refine go3 ?_
    exact rec _ ⟨_, _, _, _, rfl⟩
  · rintro s ⟨j4, j11, v, g, rfl⟩
    have hlt : ¬ ((t.length : Int) < (t.length : Int)) := nlt_c
    have ht : List.take t.length (colR t j) = colR t j := take_len_g _ (by simp [colR])
    clear hj
    refine go3 ?_
    trivial
def turnR (t : List (List Rat)) : List (List Rat) := (List.range (wide t)).map (colR t)
theorem s_refTurn {t : List (List Rat)} (hl : t.length ≤ 1000000) (he : ∀ r ∈ t, r.length = wide t) (hw1 : wide t ≤ 1000000) : CP (CL F) 22 [rT t] = some (rT (turnR t)) := by
  refine CP_X (F := F) (f := 22) rfl rfl ?_
  have hW := s_Wide t
  refine go3 ?_
  refine X_up (wide t) (fun i s => ∃ j2 j9 v g, s = ⟨[(0, rT t), (2, j2), (3, .ref 0 v 1 0 i), (4, eI i), (9, j9)], some ⟨v, 1, em rR ((List.range i).map (colR t))⟩ :: g⟩) ?_ ?_ 0 (Nat.zero_le _) _ ⟨_, _, _, [], rfl⟩
  · rintro i s hi ⟨j2, j9, v, g, rfl⟩ rec
    have hlt := lt_c hi
    have hc := s_Column (t := t) (j := i) hl fun r hr => by rw [he r hr]; exact hi
    have hs : (List.range i).map (colR t) ++ [colR t i] = (List.range (i + 1)).map (colR t) := by rw [List.range_succ]; simp
    have hlen : ((List.range i).map (colR t)).length = i := by simp
    have ht : List.take i ((List.range i).map (colR t)) = (List.range i).map (colR t) := take_len_g _ hlen.symm
    have hlim : i < 5864062014805 := by omega
    have hw := i64_nat (n := i) (by omega)
    clear he hlen
    refine go3 ?_
    exact rec _ ⟨_, _, _, _, rfl⟩
  · rintro s ⟨j2, j9, v, g, rfl⟩
    have hlt : ¬ ((wide t : Int) < (wide t : Int)) := nlt_c
    have ht : List.take (wide t) ((List.range (wide t)).map (colR t)) = turnR t := take_len_g _ (by simp)
    clear he
    refine go3 ?_
    trivial
theorem fz_tab {H : Heap} {b id v : Nat} {cs : List AV} {g : Heap} {t : List (List Rat)} {ks : List Nat} (R : RowsIn b g eQ cs t ks) (hH : ∀ k, H[b + k]? = g[k]?) (hb : H[id]? = some (some ⟨v, 1, cs⟩)) (m : Nat) : frz H (m + 5) (.ref id v 1 0 t.length) = some (eT t) := by
  have a1 := R.frz (fun x => E_eQ.pl x) hH (m + 1)
  have b1 : blk H id v = some ⟨v, 1, cs⟩ := by
    unfold blk
    rw [hb]
    exact if_pos rfl
  have c1 : sub cs 0 t.length = cs := by unfold sub; rw [List.drop_zero]; exact List.take_of_length_le (by rw [R.1]; omega)
  show (blk H id v).bind (fun b => ((sub b.xs 0 t.length).mapM (Go.AM.frz H (m + 4))).map AV.lst) = _
  rw [b1]
  show ((sub cs 0 t.length).mapM (Go.AM.frz H (m + 4))).map AV.lst = _
  rw [c1, a1]
  rfl
theorem fz_tabE {H : Heap} {b id v : Nat} {cs : List AV} {g : Heap} {t : List (List Rat)} {ks : List Nat} {e : Int} (R : RowsIn b g eQ cs t ks) (hH : ∀ k, H[b + k]? = g[k]?) (hb : H[id]? = some (some ⟨v, 1, cs⟩)) : fz H (.tup [.ref id v 1 0 t.length, .int .i64 e]) = some (.tup [eT t, .int .i64 e]) := by
  show ([AV.ref id v 1 0 t.length, .int .i64 e].mapM (Go.AM.frz H 6)).map AV.tup = _
  rw [List.mapM_cons, show Go.AM.frz H 6 (.ref id v 1 0 t.length) = some (eT t) from fz_tab R hH hb 1]
  rfl
theorem s_Turn {t : List (List Rat)} (hm : may t = true) : CP (CL F) 20 [eT t] = some (.tup [eT (turnR t), eI 0]) := by
  have m1 : t.length ≤ 200 := by simp [may] at hm; exact hm.1.1
  have m2 : wide t ≤ 200 := by simp [may] at hm; exact hm.1.2
  have m3 : ∀ r ∈ t, r.length = wide t := even_iff.1 (by simp [may] at hm; exact hm.2)
  let cs : Nat → List AV := fun j => (List.range j).map fun k => AV.ref (k + 1) 0 3 0 t.length
  let bs : Nat → Heap := fun j => (List.range j).map fun k => some (⟨0, 3, em eQ (colR t k)⟩ : Blk)
  have cl : ∀ j, (cs j).length = j := fun j => by simp [cs]
  have bl : ∀ j, (bs j).length = j := fun j => by simp [bs]
  have cs1 : ∀ j, cs (j + 1) = cs j ++ [AV.ref (j + 1) 0 3 0 t.length] := fun j => by simp [cs, List.range_succ]
  have bs1 : ∀ j, bs (j + 1) = bs j ++ [some ⟨0, 3, em eQ (colR t j)⟩] := fun j => by simp [bs, List.range_succ]
  suffices H : CL F 20 [eT t] [] = some (.tup [.ref 0 0 1 0 (wide t), eI 0], some ⟨0, 1, cs (wide t)⟩ :: bs (wide t)) by
    refine CP_raw H ?_
    have hR : RowsIn 1 (bs (wide t)) eQ (cs (wide t)) (turnR t) (List.range (wide t)) := by
      refine ⟨by simp [cl, turnR], by simp [turnR], fun i hi => ?_⟩
      have hi' : i < wide t := by simpa [turnR] using hi
      have e1 : (cs (wide t)).getD i default = AV.ref (i + 1) 0 3 0 t.length := by simp [cs, List.getD, hi']
      have e2 : (turnR t).getD i default = colR t i := by simp [turnR, List.getD, hi']
      have e3 : (List.range (wide t)).getD i default = i := by simp [List.getD, hi']
      rw [e1, e2, e3]
      refine ⟨0, [], by simp [colR]; omega, by simp [bs, hi']⟩
    have := fz_tabE (e := 0) (H := some ⟨0, 1, cs (wide t)⟩ :: bs (wide t)) (id := 0) (v := 0) hR (fun k => by rw [Nat.add_comm]; rfl) rfl
    rwa [show (turnR t).length = wide t by simp [turnR]] at this
  refine CL_X (F := F) (f := 20) rfl rfl ?_
  have h1 := s_Check (t := t) (by omega)
  rw [hm, if_pos rfl] at h1
  have h2 := s_Size t
  have h3 : wide t ≤ 11728124029610 := by omega
  have h4 : t.length ≤ 5026338869833 := by omega
  clear hm
  refine go3 ?_
  refine X_up (wide t) (fun j s => ∃ j8 j9 j25 j32 j33 j34, s = ⟨[(0, eT t), (2, .nil), (3, eI 0), (4, eI 0), (5, eI t.length), (6, eI (wide t)), (7, .ref 0 0 1 0 (wide t)), (8, j8), (9, j9), (13, .bool false), (23, eI (wide t)), (24, eI j), (25, j25), (32, j32), (33, j33), (34, j34)], some ⟨0, 1, cs j ++ List.replicate (wide t - j) .nil⟩ :: bs j⟩) ?_ ?_ 0 (Nat.zero_le _) _ ⟨_, _, _, _, _, _, rfl⟩
  · rintro j s hj ⟨j8, j9, j25, j32, j33, j34, rfl⟩ rec
    have hlt := lt_c hj
    obtain ⟨m, hm⟩ : ∃ m, wide t - j = m + 1 := ⟨wide t - j - 1, by omega⟩
    have a1 : (cs j ++ List.replicate (wide t - j) AV.nil)[j]? = some .nil := by rw [hm, List.getElem?_append_right (by rw [cl]; omega), cl]; simp
    have a2 : (cs j ++ List.replicate (wide t - j) AV.nil).set j (AV.ref (j + 1) 0 3 0 t.length) = cs (j + 1) ++ List.replicate (wide t - (j + 1)) .nil := by
      rw [hm, List.set_append_right _ _ (by rw [cl]; omega), cl, cs1, show wide t - (j + 1) = m by omega, Nat.sub_self]
      simp [List.replicate_succ]
    have a3 : (cs (j + 1) ++ List.replicate (wide t - (j + 1)) AV.nil)[j]? = some (AV.ref (j + 1) 0 3 0 t.length) := by
      rw [cs1, List.append_assoc, List.getElem?_append_right (by rw [cl]; omega), cl]; simp
    have a4 := bl j
    simp only [bs1 j] at rec
    have B1 : ∀ x, (bs j ++ [x])[j]? = some x := fun x => by rw [List.getElem?_append_right (by rw [bl]; omega), bl]; simp
    have B2 : ∀ x y, (bs j ++ [x]).set j y = bs j ++ [y] := fun x y => by rw [List.set_append_right _ _ (by rw [bl]; omega), bl]; simp
    have hw := i64_nat (n := j) (by omega)
    clear hm cs1 bs1 cl bl
    generalize cs j = c0 at *
    generalize cs (j + 1) = c1 at *
    refine go3 ?_
    refine X_up t.length (fun i s => ∃ j9 j34, s = ⟨[(0, eT t), (2, .nil), (3, eI 0), (4, eI 0), (5, eI t.length), (6, eI (wide t)), (7, .ref 0 0 1 0 (wide t)), (8, eI j), (9, j9), (13, .bool false), (23, eI (wide t)), (24, eI j), (25, .bool true), (32, eI t.length), (33, eI i), (34, j34)], some ⟨0, 1, c1 ++ List.replicate (wide t - (j + 1)) .nil⟩ :: (bs j ++ [some ⟨0, 3, em eQ (colR (t.take i) j) ++ List.replicate (t.length - i) zQ⟩])⟩) ?_ ?_ 0 (Nat.zero_le _) _ ⟨_, _, rfl⟩
    · rintro i s hi ⟨j9, j34, rfl⟩ rec2
      have hlt2 := lt_c hi
      have g1 := em_getN (f := eR) t i hi
      have hr := m3 _ (getD_mem hi)
      obtain ⟨m, hm'⟩ : ∃ m, t.length - i = m + 1 := ⟨t.length - i - 1, by omega⟩
      have hg := fill_get (f := eQ) (colR (t.take i) j) m zQ
      have hs := fill_set (f := eQ) (colR (t.take i) j) m zQ ((t.getD i default).getD j default)
      have hlen : (colR (t.take i) j).length = i := by simp [colR]; omega
      rw [hlen] at hg hs
      rw [← hm', show m = t.length - (i + 1) by omega, show colR (t.take i) j ++ [(t.getD i default).getD j default] = colR (t.take (i + 1)) j by rw [take_succ_getD t i hi]; simp [colR]] at hs
      rw [← hm'] at hg
      generalize t.getD i default = r at *
      have g2 := em_getN (f := eQ) r j (by omega)
      have hr1 : (j : Int) < (r.length : Int) := by omega
      have hw2 := i64_nat (n := i) (by omega)
      clear hm' hlen m3 h3 h4 rec hw
      refine go3 ?_
      exact rec2 _ ⟨_, _, rfl⟩
    · rintro s ⟨j9, j34, rfl⟩
      have hlt2 : ¬ ((t.length : Int) < (t.length : Int)) := nlt_c
      have he : List.replicate (t.length - t.length) zQ = [] := by simp
      clear m3 h3 h4
      refine go3 ?_
      exact rec _ ⟨_, _, _, _, _, _, rfl⟩
  · rintro s ⟨j8, j9, j25, j32, j33, j34, rfl⟩
    have hlt : ¬ ((wide t : Int) < (wide t : Int)) := nlt_c
    have he : List.replicate (wide t - wide t) AV.nil = [] := by simp
    clear cs1 bs1 cl bl m3
    refine go3 ?_
    trivial
def ownC (b : Nat) (c j : Nat) : List AV := (List.range j).map fun k => AV.ref (b + (k + 1)) 0 3 0 c
def ownB (t : List (List Rat)) (j : Nat) : Heap := (List.range j).map fun k => some (⟨0, 3, em eQ (t.getD k default)⟩ : Blk)
theorem ownC_len (b c j : Nat) : (ownC b c j).length = j := by simp [ownC]
theorem ownB_len (t : List (List Rat)) (j : Nat) : (ownB t j).length = j := by simp [ownB]
theorem ownC_succ (b c j : Nat) : ownC b c (j + 1) = ownC b c j ++ [AV.ref (b + (j + 1)) 0 3 0 c] := by simp [ownC, List.range_succ]
theorem ownB_succ (t : List (List Rat)) (j : Nat) : ownB t (j + 1) = ownB t j ++ [some ⟨0, 3, em eQ (t.getD j default)⟩] := by simp [ownB, List.range_succ]
theorem s_own_raw {t : List (List Rat)} {c : Nat} (hl : t.length ≤ 1000000) (hc : 0 < c) (hc2 : c ≤ 1000000) (ht : ∀ r ∈ t, r.length = c) (h : Heap) :
    CL F 58 [eT t] h = some (.ref h.length 0 1 0 t.length, h ++ (some ⟨0, 1, ownC h.length c t.length⟩ :: ownB t t.length)) := by
  refine CL_X (F := F) (f := 58) rfl rfl ?_
  have h2 : t.length ≤ 11728124029610 := by omega
  refine go3 ?_
  refine X_up t.length (fun i s => ∃ j4 j5 j12, s = ⟨[(0, eT t), (2, .nil), (3, .ref h.length 0 1 0 t.length), (4, j4), (5, j5), (9, eT t), (10, eI t.length), (11, eI i), (12, j12)], h ++ (some ⟨0, 1, ownC h.length c i ++ List.replicate (t.length - i) .nil⟩ :: ownB t i)⟩) ?_ ?_ 0 (Nat.zero_le _) _ ⟨_, _, _, rfl⟩
  · rintro i s hi ⟨j4, j5, j12, rfl⟩ rec
    have hlt := lt_c hi
    have g1 := em_getN (f := eR) t i hi
    have hr := ht _ (getD_mem hi)
    have k1 := fun h => s_clone' (l := t.getD i default) (by omega) h (fun e => by rw [e] at hr; simp at hr; omega)
    simp only [ownC_succ, ownB_succ] at rec
    have hb := ownB_len t i
    obtain ⟨m, hm⟩ : ∃ m, t.length - i = m + 1 := ⟨t.length - i - 1, by omega⟩
    have a1 : (ownC h.length c i ++ List.replicate (t.length - i) AV.nil)[i]? = some .nil := by rw [hm, List.getElem?_append_right (by rw [ownC_len]; omega), ownC_len]; simp
    have a2 : (ownC h.length c i ++ List.replicate (t.length - i) AV.nil).set i (AV.ref (h.length + (i + 1)) 0 3 0 c) = ownC h.length c i ++ [AV.ref (h.length + (i + 1)) 0 3 0 c] ++ List.replicate (t.length - (i + 1)) .nil := by
      rw [hm, List.set_append_right _ _ (by rw [ownC_len]; omega), ownC_len, show t.length - (i + 1) = m by omega, Nat.sub_self]
      simp [List.replicate_succ]
    generalize t.getD i default = r at *
    have hw := i64_nat (n := i) (by omega)
    clear hm ht hc hc2
    refine go3 ?_
    exact rec _ ⟨eI i, eR r, .bool true, by simp⟩
  · rintro s ⟨j4, j5, j12, rfl⟩
    have hlt : ¬ ((t.length : Int) < (t.length : Int)) := nlt_c
    have he : List.replicate (t.length - t.length) AV.nil = [] := by simp
    clear ht
    refine go3 ?_
    trivial
theorem s_own_raw0 {t : List (List Rat)} (hl : t.length ≤ 1000000) (ht : ∀ r ∈ t, r = []) (h : Heap) :
    CL F 58 [eT t] h = some (.ref h.length 0 1 0 t.length, h ++ [some ⟨0, 1, List.replicate t.length .zero⟩]) := by
  refine CL_X (F := F) (f := 58) rfl rfl ?_
  have h2 : t.length ≤ 11728124029610 := by omega
  have k1 := fun h => s_clone_nil h
  have e0 : em eQ [] = [] := rfl
  refine go3 ?_
  refine X_up t.length (fun i s => ∃ j4 j5 j12, s = ⟨[(0, eT t), (2, .nil), (3, .ref h.length 0 1 0 t.length), (4, j4), (5, j5), (9, eT t), (10, eI t.length), (11, eI i), (12, j12)], h ++ [some ⟨0, 1, List.replicate i .zero ++ List.replicate (t.length - i) .nil⟩]⟩) ?_ ?_ 0 (Nat.zero_le _) _ ⟨_, _, _, rfl⟩
  · rintro i s hi ⟨j4, j5, j12, rfl⟩ rec
    have hlt := lt_c hi
    have g1 := em_getN (f := eR) t i hi
    rw [ht _ (getD_mem hi)] at g1
    obtain ⟨m, hm⟩ : ∃ m, t.length - i = m + 1 := ⟨t.length - i - 1, by omega⟩
    have a1 : (List.replicate i AV.zero ++ List.replicate (t.length - i) AV.nil)[i]? = some .nil := by rw [hm, List.getElem?_append_right (by simp)]; simp
    have a2 : (List.replicate i AV.zero ++ List.replicate (t.length - i) AV.nil).set i AV.zero = List.replicate (i + 1) AV.zero ++ List.replicate (t.length - (i + 1)) .nil := by
      rw [hm, List.set_append_right _ _ (by simp), show t.length - (i + 1) = m by omega, List.length_replicate, Nat.sub_self]
      rw [List.replicate_succ (n := m), List.set_cons_zero, List.replicate_succ' (n := i), List.append_assoc]
      rfl
    have hw := i64_nat (n := i) (by omega)
    clear hm ht
    refine go3 ?_
    exact rec _ ⟨_, _, _, rfl⟩
  · rintro s ⟨j4, j5, j12, rfl⟩
    have hlt : ¬ ((t.length : Int) < (t.length : Int)) := nlt_c
    have he : List.replicate (t.length - t.length) AV.nil = [] := by simp
    clear ht
    refine go3 ?_
    trivial
theorem own_rows {t : List (List Rat)} {c b : Nat} (ht : ∀ r ∈ t, r.length = c) : RowsIn (b + 1) (ownB t t.length) eQ (ownC b c t.length) t (List.range t.length) := by
  refine ⟨ownC_len _ _ _, by simp, fun i hi => ?_⟩
  have e1 : (ownC b c t.length).getD i default = AV.ref (b + (i + 1)) 0 3 0 c := by simp [ownC, List.getD, hi]
  have e3 : (List.range t.length).getD i default = i := by simp [List.getD, hi]
  rw [e1, e3]
  refine ⟨0, [], by rw [ht _ (getD_mem hi)]; congr 1; omega, by simp [ownB, hi]⟩
end Go.S

end
section
set_option linter.unusedVariables false
set_option linter.unusedSimpArgs false
set_option maxRecDepth 100000
namespace Go.S
open Go Go.AM Go.RowKit Go.K
def upd {α : Type} (n : Nat) (f g : Nat → α) (i : Nat) : List α := (List.range n).map fun k => if k < i then g k else f k
section
variable {α : Type} {n : Nat} {f g : Nat → α}
theorem upd_len (i : Nat) : (upd n f g i).length = n := by simp [upd]
theorem upd_zero : upd n f g 0 = (List.range n).map f := by simp [upd]
theorem upd_all : upd n f g n = (List.range n).map g := by
  unfold upd
  refine List.map_congr_left fun k hk => ?_
  rw [if_pos (by simpa using hk)]
theorem upd_get {i : Nat} (h : i < n) : (upd n f g i)[i]? = some (f i) := by simp [upd, h]
theorem upd_set {i : Nat} (h : i < n) : (upd n f g i).set i (g i) = upd n f g (i + 1) := by
  refine List.ext_getElem? fun k => ?_
  rw [List.getElem?_set]
  by_cases hk : i = k
  · subst hk
    rw [if_pos rfl, if_pos (by rw [upd_len]; exact h)]
    simp [upd, h]
  · rw [if_neg hk]
    unfold upd
    by_cases hn : k < n
    · simp only [List.getElem?_map, List.getElem?_range hn, Option.map_some]
      have : k < i ↔ k < i + 1 := by omega
      simp [this]
    · simp [List.getElem?_eq_none, hn]
end
def besideR (a b : List (List Rat)) : List (List Rat) := List.zipWith (· ++ ·) a b
theorem beside_none' : CP (CL F) 21 [.lst []] = some (.tup [.lst [], eI 0]) := by
  refine CP_X (F := F) (f := 21) rfl rfl ?_
  refine go3 ?_
  trivial
theorem s_Beside_may {a b : List (List Rat)} (ha : a.length ≤ 1000000) (hb : b.length ≤ 1000000) (h : (may a && may b) = false) : CP (CL F) 21 [.lst (em eT [a, b])] = some (.tup [.lst [], eI 8]) := by
  refine CP_X (F := F) (f := 21) rfl rfl ?_
  have hc := s_checks (l := [a, b]) (by simp) fun t ht => by simp at ht; rcases ht with rfl | rfl <;> assumption
  rw [show [a, b].all may = false by simpa using h] at hc
  have hl : (em eT [a, b]).length = 2 := rfl
  clear h
  refine go3 ?_
  trivial
theorem s_Beside_len {a b : List (List Rat)} (ha : may a = true) (hb : may b = true) (h : a.length ≠ b.length) : CP (CL F) 21 [.lst (em eT [a, b])] = some (.tup [.lst [], eI 8]) := by
  have a1 : a.length ≤ 200 := by simp [may] at ha; exact ha.1.1
  have a2 : wide a ≤ 200 := by simp [may] at ha; exact ha.1.2
  have a3 : ∀ r ∈ a, r.length = wide a := even_iff.1 (by simp [may] at ha; exact ha.2)
  have b1 : b.length ≤ 200 := by simp [may] at hb; exact hb.1.1
  refine CP_X (F := F) (f := 21) rfl rfl ?_
  have hc := s_checks (l := [a, b]) (by simp) fun t ht => by simp at ht; rcases ht with rfl | rfl <;> omega
  rw [show [a, b].all may = true by simp [ha, hb]] at hc
  have hl : (em eT [a, b]).length = 2 := rfl
  have g0 : (em eT [a, b])[0]? = some (eT a) := rfl
  have hd : List.drop 1 (em eT [a, b]) = [eT b] := rfl
  have hne : ((b.length : Int) ≠ (a.length : Int)) := by omega
  have hne2 : ¬ ((b.length : Int) = (a.length : Int)) := by omega
  have hok : okS 1 (em eT [a, b]) = true := rfl
  obtain ⟨H, ho⟩ : ∃ H, CL F 58 [eT a] [] = some (.ref 0 0 1 0 a.length, H) := by
    rcases Nat.eq_zero_or_pos (wide a) with h0 | h0
    · exact ⟨_, s_own_raw0 (by omega) (fun r hr => List.eq_nil_of_length_eq_zero (by rw [a3 r hr, h0])) []⟩
    · exact ⟨_, s_own_raw (by omega) h0 (by omega) a3 []⟩
  have hn : nth [b] (0 : Int) = b := rfl
  clear h a1 a2 a3 b1 ha hb
  refine go3 ?_
  refine X_round ?_
  refine go3 ?_
  trivial
theorem s_Beside_walk {a b : List (List Rat)} (ha : may a = true) (hb : may b = true) (h : b.length = a.length) {c d : Nat} (hc : 0 < c) (ea : ∀ r ∈ a, r.length = c) (eb : ∀ r ∈ b, r.length = d) (c1 : c ≤ 200) (d1 : d ≤ 200) (hm : may (besideR a b) = true) :
    CP (CL F) 21 [.lst (em eT [a, b])] = some (.tup [eT (besideR a b), eI 0]) := by
  have a1 : a.length ≤ 200 := by simp [may] at ha; exact ha.1.1
  have hlen : (besideR a b).length = a.length := by simp [besideR]; omega
  refine CP_X (F := F) (f := 21) rfl rfl ?_
  have hk := s_checks (l := [a, b]) (by simp) fun t ht => by simp at ht; rcases ht with rfl | rfl <;> omega
  rw [show [a, b].all may = true by simp [ha, hb]] at hk
  have hl : (em eT [a, b]).length = 2 := rfl
  have g0 : (em eT [a, b])[0]? = some (eT a) := rfl
  have hd : List.drop 1 (em eT [a, b]) = [eT b] := rfl
  have hok : okS 1 (em eT [a, b]) = true := rfl
  have hn : nth [b] (0 : Int) = b := rfl
  have hne2 : ((b.length : Int) = (a.length : Int)) := by omega
  let cf : Nat → AV := fun k => .ref (k + 1) 0 3 0 c
  let cg : Nat → AV := fun k => .ref (k + 1) 1 3 0 (c + d)
  let bf : Nat → Option Blk := fun k => some ⟨0, 3, em eQ (a.getD k default)⟩
  let bg : Nat → Option Blk := fun k => some ⟨1, 3, em eQ (a.getD k default ++ b.getD k default)⟩
  have ho : CL F 58 [eT a] [] = some (.ref 0 0 1 0 a.length, some ⟨0, 1, upd a.length cf cg 0⟩ :: upd a.length bf bg 0) := by
    rw [s_own_raw (by omega) hc (by omega) ea [], upd_zero, upd_zero]
    have e1 : ownC ([] : Heap).length c a.length = (List.range a.length).map cf := by simp [ownC, cf]
    rw [e1]
    rfl
  have hC := s_Check (t := besideR a b) (by omega)
  rw [hm, if_pos rfl] at hC
  have hfz : fz (some ⟨0, 1, upd a.length cf cg a.length⟩ :: upd a.length bf bg a.length) (.ref 0 0 1 0 a.length) = some (eT (besideR a b)) := by
    have R : RowsIn 1 (upd a.length bf bg a.length) eQ (upd a.length cf cg a.length) (besideR a b) (List.range a.length) := by
      refine ⟨by rw [upd_len, hlen], by simp [hlen], fun i hi => ?_⟩
      have hi' : i < a.length := by omega
      rw [upd_all, upd_all]
      have e1 : ((List.range a.length).map cg).getD i default = cg i := by simp [List.getD, hi']
      have e2 : (besideR a b).getD i default = a.getD i default ++ b.getD i default := by
        simp only [besideR, List.getD_eq_getElem?_getD]
        rw [List.getElem?_eq_getElem (by simp; omega), List.getElem_zipWith, List.getElem?_eq_getElem hi', List.getElem?_eq_getElem (by omega)]
        rfl
      have e3 : (List.range a.length).getD i default = i := by simp [List.getD, hi']
      rw [e1, e2, e3]
      refine ⟨1, [], ?_, by simp [bg, hi']⟩
      rw [List.length_append, ea _ (getD_mem hi'), eb _ (getD_mem (by omega))]
      show AV.ref (i + 1) 1 3 0 (c + d) = _
      rw [Nat.add_comm i 1]
    have := fz_tab (H := some ⟨0, 1, upd a.length cf cg a.length⟩ :: upd a.length bf bg a.length) (id := 0) (v := 0) R (fun k => by rw [Nat.add_comm]; rfl) rfl 2
    rwa [hlen] at this
  clear hm ha hb
  refine go3 ?_
  refine X_round ?_
  refine go3 ?_
  have step : ∀ i, i < a.length → ∃ ra rb, ra.length = c ∧ rb.length = d ∧ (em eR b)[i]? = some (eR rb) ∧ (upd a.length cf cg i)[i]? = some (.ref (i + 1) 0 3 0 c) ∧ (upd a.length cf cg i).set i (.ref (i + 1) 1 3 0 (c + d)) = upd a.length cf cg (i + 1) ∧
      (upd a.length bf bg i)[i]? = some (some ⟨0, 3, em eQ ra⟩) ∧ (upd a.length bf bg i).set i (some ⟨1, 3, em eQ (ra ++ rb)⟩) = upd a.length bf bg (i + 1) := fun i hi =>
    ⟨a.getD i default, b.getD i default, ea _ (getD_mem hi), eb _ (getD_mem (by omega)), em_getN (f := eR) b i (by omega), upd_get hi, upd_set hi, upd_get hi, upd_set hi⟩
  generalize upd a.length cf cg = C at *
  generalize upd a.length bf bg = D at *
  clear ho
  refine X_up a.length (fun i s => ∃ j7 j8 j35, s = ⟨[(0, .lst (em eT [a, b])), (2, .nil), (3, eI 0), (4, .ref 0 0 1 0 a.length), (6, .lst (em eR b)), (7, j7), (8, j8), (9, .undef), (12, .bool false), (15, .bool false), (21, .lst (em eT [b])), (22, eI 1), (23, eI 0), (24, .bool true), (31, .bool false), (32, .lst (em eR b)), (33, eI a.length), (34, eI i), (35, j35), (53, .undef)], some ⟨0, 1, C i⟩ :: D i⟩) ?_ ?_ 0 (Nat.zero_le _) _ ⟨_, _, _, rfl⟩
  · rintro i s hi ⟨j7, j8, j35, rfl⟩ rec
    have hlt := lt_c hi
    obtain ⟨ra, rb, l1, l2, g1, u1, u2, u3, u4⟩ := step i hi
    have ht : List.take c ra = ra := take_len_g _ l1.symm
    have hlim : c + d ≤ 2513169434916 := by omega
    have hw := i64_nat (n := i) (by omega)
    clear step hfz ea eb h c1 d1 hlen hc
    refine go3 ?_
    exact rec _ ⟨_, _, _, rfl⟩
  · rintro s ⟨j7, j8, j35, rfl⟩
    have hlt : ¬ ((a.length : Int) < (a.length : Int)) := nlt_c
    have hw : wrap64 (0 + 1) = 1 := by rw [show (0 : Int) + 1 = 1 from rfl, w64 (by omega) (by omega)]
    clear step ea eb h c1 d1 hc
    refine go3 ?_
    refine X_round ?_
    refine go3 ?_
    trivial
theorem besideR_nil {a b : List (List Rat)} (ha : ∀ r ∈ a, r = []) (h : b.length = a.length) : besideR a b = b := by
  refine List.ext_getElem (by simp [besideR]; omega) fun i h1 h2 => ?_
  simp only [besideR, List.getElem_zipWith]
  rw [ha _ (List.getElem_mem (by omega)), List.nil_append]
theorem s_Beside_walk0 {a b : List (List Rat)} (ha : may a = true) (hb : may b = true) (h : b.length = a.length) {d : Nat} (hd : 0 < d) (ea : ∀ r ∈ a, r = []) (eb : ∀ r ∈ b, r.length = d) (d1 : d ≤ 200) :
    CP (CL F) 21 [.lst (em eT [a, b])] = some (.tup [eT b, eI 0]) := by
  have a1 : a.length ≤ 200 := by simp [may] at ha; exact ha.1.1
  refine CP_X (F := F) (f := 21) rfl rfl ?_
  have hk := s_checks (l := [a, b]) (by simp) fun t ht => by simp at ht; rcases ht with rfl | rfl <;> omega
  rw [show [a, b].all may = true by simp [ha, hb]] at hk
  have hl : (em eT [a, b]).length = 2 := rfl
  have g0 : (em eT [a, b])[0]? = some (eT a) := rfl
  have hdr : List.drop 1 (em eT [a, b]) = [eT b] := rfl
  have hok : okS 1 (em eT [a, b]) = true := rfl
  have hn : nth [b] (0 : Int) = b := rfl
  have hne2 : ((b.length : Int) = (a.length : Int)) := by omega
  let cf : Nat → AV := fun k => .zero
  let cg : Nat → AV := fun k => .ref (k + 1) 0 3 0 d
  have ho : CL F 58 [eT a] [] = some (.ref 0 0 1 0 a.length, some ⟨0, 1, upd a.length cf cg 0⟩ :: ownB b 0) := by
    rw [s_own_raw0 (by omega) ea [], upd_zero]
    have e1 : (List.range a.length).map cf = List.replicate a.length .zero := by
      refine List.eq_replicate_iff.2 ⟨by simp, fun x hx => ?_⟩
      obtain ⟨k, _, rfl⟩ := List.mem_map.1 hx
      rfl
    rw [e1]
    rfl
  have hC := s_Check (t := b) (by omega)
  rw [hb, if_pos rfl] at hC
  have hfz : fz (some ⟨0, 1, upd a.length cf cg a.length⟩ :: ownB b a.length) (.ref 0 0 1 0 a.length) = some (eT b) := by
    have R := own_rows (b := 0) eb
    have e1 : upd a.length cf cg a.length = ownC 0 d b.length := by rw [upd_all, h]; simp [ownC, cg]
    rw [e1, ← h]
    exact fz_tab (H := some ⟨0, 1, ownC 0 d b.length⟩ :: ownB b b.length) (id := 0) (v := 0) R (fun k => by rw [Nat.add_comm]; rfl) rfl 2
  clear ha hb ea
  refine go3 ?_
  refine X_round ?_
  refine go3 ?_
  have step : ∀ i, i < a.length → ∃ rb, rb.length = d ∧ (em eR b)[i]? = some (eR rb) ∧ (upd a.length cf cg i)[i]? = some .zero ∧ (upd a.length cf cg i).set i (.ref (i + 1) 0 3 0 d) = upd a.length cf cg (i + 1) ∧
      ownB b (i + 1) = ownB b i ++ [some ⟨0, 3, em eQ rb⟩] := fun i hi =>
    ⟨b.getD i default, eb _ (getD_mem (by omega)), em_getN (f := eR) b i (by omega), upd_get hi, upd_set hi, ownB_succ b i⟩
  have bl := ownB_len b
  generalize upd a.length cf cg = C at *
  generalize ownB b = D at *
  clear ho
  refine X_up a.length (fun i s => ∃ j7 j8 j35, s = ⟨[(0, .lst (em eT [a, b])), (2, .nil), (3, eI 0), (4, .ref 0 0 1 0 a.length), (6, .lst (em eR b)), (7, j7), (8, j8), (9, .undef), (12, .bool false), (15, .bool false), (21, .lst (em eT [b])), (22, eI 1), (23, eI 0), (24, .bool true), (31, .bool false), (32, .lst (em eR b)), (33, eI a.length), (34, eI i), (35, j35), (53, .undef)], some ⟨0, 1, C i⟩ :: D i⟩) ?_ ?_ 0 (Nat.zero_le _) _ ⟨_, _, _, rfl⟩
  · rintro i s hi ⟨j7, j8, j35, rfl⟩ rec
    have hlt := lt_c hi
    obtain ⟨rb, l2, g1, u1, u2, u3⟩ := step i hi
    rw [u3] at rec
    have bli := bl i
    have hlim : d ≤ 2513169434916 := by omega
    obtain ⟨x, l, hrb⟩ : ∃ x l, em eQ rb = x :: l := by
      cases rb with
      | nil => simp at l2; omega
      | cons x l => exact ⟨_, _, rfl⟩
    have hne : (em eQ rb).isEmpty = false := by rw [hrb]; rfl
    have hw := i64_nat (n := i) (by omega)
    clear step hfz eb h d1 hd bl hrb u3
    refine go3 ?_
    exact rec _ ⟨_, _, _, rfl⟩
  · rintro s ⟨j7, j8, j35, rfl⟩
    have hlt : ¬ ((a.length : Int) < (a.length : Int)) := nlt_c
    have hw : wrap64 (0 + 1) = 1 := by rw [show (0 : Int) + 1 = 1 from rfl, w64 (by omega) (by omega)]
    clear step eb h d1 hd bl
    refine go3 ?_
    refine X_round ?_
    refine go3 ?_
    trivial
theorem s_Beside_walk00 {a b : List (List Rat)} (ha : may a = true) (hb : may b = true) (h : b.length = a.length) (ea : ∀ r ∈ a, r = []) (eb : ∀ r ∈ b, r = []) :
    CP (CL F) 21 [.lst (em eT [a, b])] = some (.tup [eT b, eI 0]) := by
  have a1 : a.length ≤ 200 := by simp [may] at ha; exact ha.1.1
  refine CP_X (F := F) (f := 21) rfl rfl ?_
  have hk := s_checks (l := [a, b]) (by simp) fun t ht => by simp at ht; rcases ht with rfl | rfl <;> omega
  rw [show [a, b].all may = true by simp [ha, hb]] at hk
  have hl : (em eT [a, b]).length = 2 := rfl
  have g0 : (em eT [a, b])[0]? = some (eT a) := rfl
  have hdr : List.drop 1 (em eT [a, b]) = [eT b] := rfl
  have hok : okS 1 (em eT [a, b]) = true := rfl
  have hn : nth [b] (0 : Int) = b := rfl
  have hne2 : ((b.length : Int) = (a.length : Int)) := by omega
  have ho := s_own_raw0 (by omega) ea []
  have hC := s_Check (t := b) (by omega)
  rw [hb, if_pos rfl] at hC
  have hfz : fz [some ⟨0, 1, List.replicate a.length AV.zero⟩] (.ref 0 0 1 0 a.length) = some (eT b) := by
    have e : em eR b = List.replicate a.length (AV.lst []) := by
      refine List.eq_replicate_iff.2 ⟨by rw [em_len, h], fun x hx => ?_⟩
      obtain ⟨r, hr, rfl⟩ := List.mem_map.1 hx
      rw [eb r hr]; rfl
    show (((sub (List.replicate a.length AV.zero) 0 a.length).mapM (Go.AM.frz _ 6)).map AV.lst) = _
    have c1 : sub (List.replicate a.length AV.zero) 0 a.length = List.replicate a.length AV.zero := by unfold sub; rw [List.drop_zero]; exact List.take_of_length_le (by simp)
    rw [c1, mapM_some (G := fun _ => AV.lst []) _ fun x hx => by rw [List.eq_of_mem_replicate hx]; rfl]
    show some (AV.lst _) = some (AV.lst (em eR b))
    rw [e]
    simp
  clear ha hb ea
  refine go3 ?_
  refine X_round ?_
  refine go3 ?_
  have step : ∀ i, i < a.length → (em eR b)[i]? = some (.lst []) ∧ (List.replicate a.length AV.zero)[i]? = some .zero ∧ (List.replicate a.length AV.zero).set i .zero = List.replicate a.length .zero := fun i hi =>
    ⟨by rw [em_getN (f := eR) b i (by omega), eb _ (getD_mem (by omega))]; rfl, by simp [hi], by
      refine List.ext_getElem (by simp) fun k h1 h2 => ?_
      rw [List.getElem_set]
      split <;> simp⟩
  clear ho
  refine X_up a.length (fun i s => ∃ j7 j8 j35, s = ⟨[(0, .lst (em eT [a, b])), (2, .nil), (3, eI 0), (4, .ref 0 0 1 0 a.length), (6, .lst (em eR b)), (7, j7), (8, j8), (9, .undef), (12, .bool false), (15, .bool false), (21, .lst (em eT [b])), (22, eI 1), (23, eI 0), (24, .bool true), (31, .bool false), (32, .lst (em eR b)), (33, eI a.length), (34, eI i), (35, j35), (53, .undef)], [some ⟨0, 1, List.replicate a.length .zero⟩]⟩) ?_ ?_ 0 (Nat.zero_le _) _ ⟨_, _, _, rfl⟩
  · rintro i s hi ⟨j7, j8, j35, rfl⟩ rec
    have hlt := lt_c hi
    obtain ⟨g1, u1, u2⟩ := step i hi
    have hw := i64_nat (n := i) (by omega)
    clear step hfz eb h
    refine go3 ?_
    exact rec _ ⟨_, _, _, rfl⟩
  · rintro s ⟨j7, j8, j35, rfl⟩
    have hlt : ¬ ((a.length : Int) < (a.length : Int)) := nlt_c
    have hw : wrap64 (0 + 1) = 1 := by rw [show (0 : Int) + 1 = 1 from rfl, w64 (by omega) (by omega)]
    clear step eb h
    refine go3 ?_
    refine X_round ?_
    refine go3 ?_
    trivial
theorem may_spec {t : List (List Rat)} : may t = true ↔ t.length ≤ 200 ∧ wide t ≤ 200 ∧ ∀ r ∈ t, r.length = wide t := by
  unfold may
  simp only [Bool.and_eq_true, decide_eq_true_eq, even_iff, and_assoc]
theorem s_Beside {a b : List (List Rat)} (ha : may a = true) (hb : may b = true) (h : b.length = a.length) (hw : wide a + wide b ≤ 200) :
    CP (CL F) 21 [.lst (em eT [a, b])] = some (.tup [eT (besideR a b), eI 0]) := by
  obtain ⟨a1, a2, a3⟩ := may_spec.1 ha
  obtain ⟨b1, b2, b3⟩ := may_spec.1 hb
  rcases Nat.eq_zero_or_pos (wide a) with e | e
  · have a4 : ∀ r ∈ a, r = [] := fun r hr => List.eq_nil_of_length_eq_zero (by rw [a3 r hr, e])
    rw [besideR_nil a4 h]
    rcases Nat.eq_zero_or_pos (wide b) with e2 | e2
    · exact s_Beside_walk00 ha hb h a4 fun r hr => List.eq_nil_of_length_eq_zero (by rw [b3 r hr, e2])
    · exact s_Beside_walk0 ha hb h e2 a4 b3 b2
  · refine s_Beside_walk ha hb h e a3 b3 a2 b2 ?_
    have hr : ∀ r ∈ besideR a b, r.length = wide a + wide b := fun r hr => by
      obtain ⟨i, hi, rfl⟩ := List.getElem_of_mem hr
      simp only [besideR, List.getElem_zipWith, List.length_append]
      rw [a3 _ (List.getElem_mem _), b3 _ (List.getElem_mem _)]
    have hl : (besideR a b).length = a.length := by simp [besideR]; omega
    refine may_spec.2 ⟨by omega, ?_⟩
    rcases Nat.eq_zero_or_pos a.length with z | z
    · have : besideR a b = [] := List.eq_nil_of_length_eq_zero (by omega)
      rw [this]
      exact ⟨by simp [wide], fun r h => by cases h⟩
    · have hw2 : wide (besideR a b) = wide a + wide b := by
        unfold wide
        rw [show (besideR a b).getD 0 [] = (besideR a b)[0]'(by omega) from by simp [List.getD, List.getElem?_eq_getElem (show 0 < (besideR a b).length by omega)]]
        exact hr _ (List.getElem_mem _)
      rw [hw2]
      exact ⟨hw, hr⟩
end Go.S

end
section
set_option linter.unusedVariables false
set_option linter.unusedSimpArgs false
set_option maxRecDepth 100000
namespace Go.S
open Go Go.AM Go.RowKit Go.K
theorem s_Turn_bad {t : List (List Rat)} (hl : t.length ≤ 1000000) (hm : may t = false) : CP (CL F) 20 [eT t] = some (.tup [.lst [], eI 8]) := by
  refine CP_X (F := F) (f := 20) rfl rfl ?_
  have h1 := s_Check (t := t) hl
  rw [hm, if_neg (by decide)] at h1
  clear hm
  refine go3 ?_
  trivial
theorem turnR_row {t : List (List Rat)} : ∀ r ∈ turnR t, r.length = t.length := fun r hr => by
  obtain ⟨j, _, rfl⟩ := List.mem_map.1 hr
  simp [colR]
theorem turnR_mem {t : List (List Rat)} (he : ∀ r ∈ t, r.length = wide t) {r : List Rat} (hr : r ∈ turnR t) {q : Rat} (hq : q ∈ r) : ∃ s ∈ t, q ∈ s := by
  obtain ⟨j, hj, rfl⟩ := List.mem_map.1 hr
  obtain ⟨s, hs, rfl⟩ := List.mem_map.1 hq
  exact ⟨s, hs, getD_mem (by rw [he s hs]; simpa using hj)⟩
theorem besideR_getD {a b : List (List Rat)} (h : b.length = a.length) {i : Nat} (hi : i < a.length) : (besideR a b).getD i default = a.getD i default ++ b.getD i default := by
  simp only [besideR, List.getD_eq_getElem?_getD]
  rw [List.getElem?_eq_getElem (by simp; omega), List.getElem_zipWith, List.getElem?_eq_getElem hi, List.getElem?_eq_getElem (by omega)]
  rfl
theorem besideR_mem {a b : List (List Rat)} {r : List Rat} (hr : r ∈ besideR a b) : ∃ x ∈ a, ∃ y ∈ b, r = x ++ y := by
  obtain ⟨i, hi, rfl⟩ := List.getElem_of_mem hr
  simp only [besideR, List.getElem_zipWith]
  exact ⟨_, List.getElem_mem _, _, List.getElem_mem _, rfl⟩
set_option maxHeartbeats 4000000 in
theorem law_MatrixTurns {t u : List (List XQ)} (ht : ∀ l ∈ t, ∀ x ∈ l, x.ok) (hu : ∀ l ∈ u, ∀ x ∈ l, x.ok) : CP (CL F) 4 [.lst (em eXL t), .lst (em eXL u)] = some (.bool true) := by
  refine CP_X (F := F) (f := 4) rfl rfl ?_
  obtain ⟨p, p1, p2, p3⟩ := s_Few12 ht (most := 5) (by decide)
  obtain ⟨q, q1, q2, q3⟩ := s_Few12 hu (most := 5) (by decide)
  replace p3 : CP (CL F) 8 [.lst (em eXL t), eI 5] = some (.tup [eT p, rT p]) := p3
  replace q3 : CP (CL F) 8 [.lst (em eXL u), eI 5] = some (.tup [eT q, rT q]) := q3
  have lp : p.length ≤ 5 := by omega
  have lq : q.length ≤ 5 := by omega
  have wd : ∀ {l : List (List Rat)}, (∀ r ∈ l, r.length ≤ 5 ∧ ∀ q ∈ r, Lq q ≤ 1) → wide l ≤ 5 := fun {l} h => by
    unfold wide
    cases l with
    | nil => simp
    | cons r l => exact (h r (List.mem_cons_self ..)).1
  have wp := wd p2
  have wq := wd q2
  have mp : may p = even p := by
    have h1 : p.length ≤ 200 := by omega
    have h2 : wide p ≤ 200 := by omega
    simp [may, h1, h2]
  have mq : may q = even q := by
    have h1 : q.length ≤ 200 := by omega
    have h2 : wide q ≤ 200 := by omega
    simp [may, h1, h2]
  have k3 := s_even (q := p) (by omega)
  have k4 := s_even (q := q) (by omega)
  have w := s_works12
  have n0 := beside_none'
  have f2 := em2 (f := eT) p q
  have hl1 : (em eR p).length = p.length := em_len _
  have hl2 : (em rR p).length = p.length := em_len _
  cases ep : even p with
  | false =>
    have t1 := s_Turn_bad (t := p) (by omega) (by rw [mp, ep])
    have b1 := s_Beside_may (a := p) (b := q) (by omega) (by omega) (by rw [mp, ep]; rfl)
    rw [ep] at k3
    clear p1 p2 q1 q2 wd mp mq lp lq wp wq ep
    refine go3 ?_
    trivial
  | true =>
    have t1 := s_Turn (t := p) (by rw [mp, ep])
    have ev := even_iff.1 ep
    have t2 := s_refTurn (t := p) (by omega) ev (by omega)
    have t3 := s_Is12 (a := turnR p) (q := turnR p) (by simp [turnR]; omega) (fun r hr => ⟨by rw [turnR_row r hr]; omega, fun x hx => by
      obtain ⟨s, hs, h⟩ := turnR_mem ev hr hx
      have := (p2 s hs).2 x h
      omega⟩) fun r hr x hx => by
      obtain ⟨s, hs, h⟩ := turnR_mem ev hr hx
      have := (p2 s hs).2 x h
      omega
    rw [if_pos rfl] at t3
    rw [ep] at k3
    cases eq : even q with
    | false =>
      have b1 := s_Beside_may (a := p) (b := q) (by omega) (by omega) (by rw [mq, eq]; simp)
      rw [eq] at k4
      clear p1 p2 q1 q2 wd mp mq lp lq wp wq ep eq ev
      refine go3 ?_
      trivial
    | true =>
      rw [eq] at k4
      by_cases hlen : p.length = q.length
      · have b1 := s_Beside (a := p) (b := q) (by rw [mp, ep]) (by rw [mq, eq]) hlen.symm (by omega)
        have b2 := s_Is12 (a := besideR p q) (q := besideR p q) (by simp [besideR]; omega) (fun r hr => by
          obtain ⟨x, hx, y, hy, rfl⟩ := besideR_mem hr
          have h1 := p2 x hx
          have h2 := q2 y hy
          refine ⟨by rw [List.length_append]; omega, fun z hz => ?_⟩
          rcases List.mem_append.1 hz with hz | hz
          · have := h1.2 z hz; omega
          · have := h2.2 z hz; omega) fun r hr z hz => by
          obtain ⟨x, hx, y, hy, rfl⟩ := besideR_mem hr
          rcases List.mem_append.1 hz with hz | hz
          · have := (p2 x hx).2 z hz; omega
          · have := (q2 y hy).2 z hz; omega
        rw [if_pos rfl] at b2
        have e2 : (q.length : Int) = (p.length : Int) := by omega
        have bl : (besideR p q).length = p.length := by simp [besideR]; omega
        have bg := fun i (hi : i < p.length) => besideR_getD (a := p) (b := q) hlen.symm hi
        have rp : ∀ i, i < p.length → (p.getD i default).length ≤ 5 := fun i hi => (p2 _ (getD_mem hi)).1
        have rq : ∀ i, i < p.length → (q.getD i default).length ≤ 5 := fun i hi => (q2 _ (getD_mem (by omega))).1
        clear p1 p2 q1 q2 wd mp mq wp wq ep eq ev
        refine go3 ?_
        refine X_up p.length (fun i s => ∃ j93 v g, s = ⟨[(0, .lst (em eXL t)), (1, .lst (em eXL u)), (4, .bool false), (5, eT p), (6, rT p), (7, eT q), (8, rT q), (9, eT (turnR p)), (10, eI 0), (11, eT (besideR p q)), (12, eI 0), (13, .lst []), (14, eI 0), (15, .ref 1 v 1 0 i), (16, eI i), (49, .bool false), (52, .bool false), (54, .undef), (63, .bool false), (78, .bool false), (93, j93)], none :: some ⟨v, 1, em rR ((besideR p q).take i)⟩ :: g⟩) ?_ ?_ 0 (Nat.zero_le _) _ ⟨_, _, [], rfl⟩
        · rintro i s hi ⟨j93, v, g, rfl⟩ rec
          have hlt := lt_c hi
          have g1 := em_getN (f := rR) p i hi
          have g2 := em_getN (f := rR) q i (by omega)
          have hs : (besideR p q).take i ++ [p.getD i default ++ q.getD i default] = (besideR p q).take (i + 1) := by rw [take_succ_getD _ i (by omega), bg i hi]
          have hlen2 : ((besideR p q).take i).length = i := by simp; omega
          have ht : List.take i ((besideR p q).take i) = (besideR p q).take i := take_len_g _ hlen2.symm
          have r1 := rp i hi
          have r2 := rq i hi
          generalize p.getD i default = r at *
          generalize q.getD i default = r' at *
          have hl3 : r.length ≤ 2513169434916 := by omega
          have hl4 : r.length + r'.length ≤ 2513169434916 := by omega
          have hlim : i < 5864062014805 := by omega
          have hw := i64_nat (n := i) (by omega)
          have ht2 : List.take (r.length + r'.length) (r ++ r') = r ++ r' := take_len_g _ (by simp)
          clear bg rp rq hlen2 hlen
          refine go3 ?_
          exact rec _ ⟨_, _, _, rfl⟩
        · rintro s ⟨j93, v, g, rfl⟩
          have hlt : ¬ ((p.length : Int) < (p.length : Int)) := nlt_c
          have ht : List.take p.length (besideR p q) = besideR p q := take_len_g _ bl.symm
          clear bg rp rq hlen
          refine go3 ?_
          trivial
      · have b1 := s_Beside_len (a := p) (b := q) (by rw [mp, ep]) (by rw [mq, eq]) hlen
        have e1 : ((p.length : Int) ≠ (q.length : Int)) := by omega
        have e2 : ¬ (p.length : Int) = (q.length : Int) := by omega
        clear p1 p2 q1 q2 wd mp mq lp lq wp wq ep eq ev hlen
        refine go3 ?_
        trivial
end Go.S

end
